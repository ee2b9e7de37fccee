/- pandectref6.PutRoot: the document's bytes of a root. Bound to this program. -/
import Derived.Test.YtffdonpkmnngpaaRootPut
namespace Go.Proofs.Ytffdonpkmnngpaa.PRootAll
open Go Go.RowKit Go.Proofs Go.Proofs.YtffdonpkmnngpaaW.PrintWords Go.Proofs.YtffdonpkmnngpaaW.PrintLast Go.Proofs.YtffdonpkmnngpaaW.PrintMore
set_option linter.unusedVariables false
set_option linter.unusedSimpArgs false
def pandectref6_PutRoot.go (k : Nat) : List (Int × Int) → List Int → Option (List Int)
  | [], b => some b
  | (o, c) :: r, b => if o < 0 then some [] else if (o == 0) != (c == 0) then some [] else (pandectref2_High.f k (IntKind.u64.wrap o) 8).bind fun y1 => (pandectref2_High.f k c 8).bind fun y2 => if b.length + y1.length + y2.length ≤ 1000 then pandectref6_PutRoot.go k r (b ++ y1 ++ y2) else none
def pandectref6_PutRoot.f (k : Nat) (n : Int) (rs : List (Int × Int)) : Option (List Int) := if n < 0 then some [] else (pandectref2_High.f k (IntKind.u64.wrap n) 8).bind fun b => pandectref6_PutRoot.go k rs b
set_option maxHeartbeats 4000000 in
set_option maxRecDepth 100000 in
theorem pandectref6_PutRoot.calls (k : Nat) (a0 a1 o0 c0 o1 c1 o2 c2 o3 c3 o4 c4 : Int) (r : List Int) (w : World) (h : pandectref6_PutRoot.f k a1 [(o0, c0), (o1, c1), (o2, c2), (o3, c3), (o4, c4)] = some r) :
    Calls Try.prog 32 #[.agg #[.int .u64 a0, .int .i64 a1, .int .i64 o0, .int .u64 c0, .int .i64 o1, .int .u64 c1, .int .i64 o2, .int .u64 c2, .int .i64 o3, .int .u64 c3, .int .i64 o4, .int .u64 c4]] w fun e w' => ∃ v : Value, e = .returned v ∧ Kd.R (Kd.int .u8) 5 w' w.heap.size (fun _ => True) v r ∧ Below w.heap.size w w' := by
  have hu44 := Try.underlying44
  have hu42 := Try.underlying42
  have hu41 := Try.underlying41
  have HB := Aside0.mk (Below.refl w.heap.size w)
  unfold pandectref6_PutRoot.f at h
  by_cases c0_ : a1 < 0
  · rw [if_pos c0_] at h
    obtain rfl := Option.some.inj h
    have b0 := decide_eq_true c0_
    clear c0_ h
    go_enter Try.func32, Try.ntmps32
    go_upto_region 1 with (first | ((with_reducible refine gate_dst (N := 1) rfl ?_); (try (refine gate_guard (by rfl) ?_; dsimp only)); refine box_event ?hg (N := 1) ?hd (cs := #[.int .u64 a0, .int .i64 a1, .int .i64 o0, .int .u64 c0, .int .i64 o1, .int .u64 c1, .int .i64 o2, .int .u64 c2, .int .i64 o3, .int .u64 c3, .int .i64 o4, .int .u64 c4]) (t := 44) ?hr ?_; (case hd => rfl); (case hg => rfl); (case hr => first | (go_simp; done) | (go_simp; rfl)); intro gb hg w1 hbox hb; have BK := Aside0.mk hbox; have GB := Aside0.mk (show w.heap.size ≤ gb by rw [hg]; exact Nat.le_refl _); clear HB; have HB := Aside0.mk hb; clear hg hbox hb))
    have rz0 := (blk_cell BK.out 0).trans rfl
    have rf0 := blk_frozen BK.out 0
    have rz1 := (blk_cell BK.out 1).trans rfl
    have rf1 := blk_frozen BK.out 1
    have rz2 := (blk_cell BK.out 2).trans rfl
    have rf2 := blk_frozen BK.out 2
    have rz3 := (blk_cell BK.out 3).trans rfl
    have rf3 := blk_frozen BK.out 3
    have rz4 := (blk_cell BK.out 4).trans rfl
    have rf4 := blk_frozen BK.out 4
    have rz5 := (blk_cell BK.out 5).trans rfl
    have rf5 := blk_frozen BK.out 5
    have rz6 := (blk_cell BK.out 6).trans rfl
    have rf6 := blk_frozen BK.out 6
    have rz7 := (blk_cell BK.out 7).trans rfl
    have rf7 := blk_frozen BK.out 7
    have rz8 := (blk_cell BK.out 8).trans rfl
    have rf8 := blk_frozen BK.out 8
    have rz9 := (blk_cell BK.out 9).trans rfl
    have rf9 := blk_frozen BK.out 9
    have rz10 := (blk_cell BK.out 10).trans rfl
    have rf10 := blk_frozen BK.out 10
    have rz11 := (blk_cell BK.out 11).trans rfl
    have rf11 := blk_frozen BK.out 11
    go_wp2_with (fail)
    go_ret
    exact ⟨_, rfl, Kd.R_nil _ _ _ _ _, HB.out⟩
  rw [if_neg c0_] at h
  have b0 := decide_eq_false c0_
  clear c0_
  obtain ⟨x, hx, hn⟩ := Option.bind_eq_some_iff.mp h
  have HX := Aside0.mk hx
  have HG := Aside0.mk hn
  clear h hx hn
  go_enter Try.func32, Try.ntmps32
  go_upto_region 1 with (first | ((with_reducible refine gate_dst (N := 1) rfl ?_); (try (refine gate_guard (by rfl) ?_; dsimp only)); refine box_event ?hg (N := 1) ?hd (cs := #[.int .u64 a0, .int .i64 a1, .int .i64 o0, .int .u64 c0, .int .i64 o1, .int .u64 c1, .int .i64 o2, .int .u64 c2, .int .i64 o3, .int .u64 c3, .int .i64 o4, .int .u64 c4]) (t := 44) ?hr ?_; (case hd => rfl); (case hg => rfl); (case hr => first | (go_simp; done) | (go_simp; rfl)); intro gb hg w1 hbox hb; have BK := Aside0.mk hbox; have GB := Aside0.mk (show w.heap.size ≤ gb by rw [hg]; exact Nat.le_refl _); clear HB; have HB := Aside0.mk hb; clear hg hbox hb))
  have rz0 := (blk_cell BK.out 0).trans rfl
  have rf0 := blk_frozen BK.out 0
  have rz1 := (blk_cell BK.out 1).trans rfl
  have rf1 := blk_frozen BK.out 1
  have rz2 := (blk_cell BK.out 2).trans rfl
  have rf2 := blk_frozen BK.out 2
  have rz3 := (blk_cell BK.out 3).trans rfl
  have rf3 := blk_frozen BK.out 3
  have rz4 := (blk_cell BK.out 4).trans rfl
  have rf4 := blk_frozen BK.out 4
  have rz5 := (blk_cell BK.out 5).trans rfl
  have rf5 := blk_frozen BK.out 5
  have rz6 := (blk_cell BK.out 6).trans rfl
  have rf6 := blk_frozen BK.out 6
  have rz7 := (blk_cell BK.out 7).trans rfl
  have rf7 := blk_frozen BK.out 7
  have rz8 := (blk_cell BK.out 8).trans rfl
  have rf8 := blk_frozen BK.out 8
  have rz9 := (blk_cell BK.out 9).trans rfl
  have rf9 := blk_frozen BK.out 9
  have rz10 := (blk_cell BK.out 10).trans rfl
  have rf10 := blk_frozen BK.out 10
  have rz11 := (blk_cell BK.out 11).trans rfl
  have rf11 := blk_frozen BK.out 11
  go_upto_region 4 with (first | (go_at_call 45; (with_reducible refine (pandectref2_High.calls k _ _ x _ HX.out).mono ?_); rintro e w2 ⟨v2, rfl, ho_, hb_⟩; have n0_ := Aside0.mk (Kd.R_lower ho_ HB.out.size); have n1_ := Aside0.mk (below_step HB.out hb_); have n2_ := Aside0.mk (blk_below BK.out hb_); clear HB BK; have HB := n1_; have BK := n2_; have HO := n0_; clear n0_ n1_ n2_ ho_ hb_))
  clear rz0 rf0 rz1 rf1 rz2 rf2 rz3 rf3 rz4 rf4 rz5 rf5 rz6 rf6 rz7 rf7 rz8 rf8 rz9 rf9 rz10 rf10 rz11 rf11
  clear b0 HX
  go_wp2_with (fail)
  go_loopg [3, 4] 5 (fun kq v3 v4 w' => ∃ (b : List Int) (i : Int), v4 = .int .i64 i ∧ Aside0 (i + (kq : Int) = 5) ∧ Aside0 (0 ≤ i) ∧ Aside0 (pandectref6_PutRoot.go k ([(o0, c0), (o1, c1), (o2, c2), (o3, c3), (o4, c4)].drop i.toNat) b = some r) ∧ Aside0 (w'.heap[gb]? = some (.cells #[.int .u64 a0, .int .i64 a1, .int .i64 o0, .int .u64 c0, .int .i64 o1, .int .u64 c1, .int .i64 o2, .int .u64 c2, .int .i64 o3, .int .u64 c3, .int .i64 o4, .int .u64 c4] 44 (0, 0))) ∧ Aside0 (Kd.R (Kd.int .u8) 5 w' w.heap.size (fun _ => True) v3 b) ∧ Aside0 (Below w.heap.size w w'))
  case atStart => exact ⟨x, 0, rfl, ⟨rfl⟩, ⟨by decide⟩, HG, BK, HO, HB⟩
  case round =>
    clear HG HB HO BK
    obtain ⟨b, i, rfl, HI, HI0, HG, BK, HO, HB⟩ := hrel
    match gk with
    | 0 =>
      obtain rfl : i = 5 := by have := HI.out; omega
      obtain rfl := Option.some.inj (HG.out : some b = some r)
      go_wp2_with (fail)
      go_ret
      exact ⟨_, rfl, HO.out, HB.out⟩
    | 1 =>
      obtain rfl : i = 4 := by have := HI.out; omega
      have H : (if o4 < 0 then some [] else if (o4 == 0) != (c4 == 0) then some [] else (pandectref2_High.f k (IntKind.u64.wrap o4) 8).bind fun y1 => (pandectref2_High.f k c4 8).bind fun y2 => if b.length + y1.length + y2.length ≤ 1000 then pandectref6_PutRoot.go k [] (b ++ y1 ++ y2) else none) = some r := HG.out
      clear HG
      have rz0 := (blk_cell BK.out 0).trans rfl
      have rf0 := blk_frozen BK.out 0
      have rz1 := (blk_cell BK.out 1).trans rfl
      have rf1 := blk_frozen BK.out 1
      have rz2 := (blk_cell BK.out 2).trans rfl
      have rf2 := blk_frozen BK.out 2
      have rz3 := (blk_cell BK.out 3).trans rfl
      have rf3 := blk_frozen BK.out 3
      have rz4 := (blk_cell BK.out 4).trans rfl
      have rf4 := blk_frozen BK.out 4
      have rz5 := (blk_cell BK.out 5).trans rfl
      have rf5 := blk_frozen BK.out 5
      have rz6 := (blk_cell BK.out 6).trans rfl
      have rf6 := blk_frozen BK.out 6
      have rz7 := (blk_cell BK.out 7).trans rfl
      have rf7 := blk_frozen BK.out 7
      have rz8 := (blk_cell BK.out 8).trans rfl
      have rf8 := blk_frozen BK.out 8
      have rz9 := (blk_cell BK.out 9).trans rfl
      have rf9 := blk_frozen BK.out 9
      have rz10 := (blk_cell BK.out 10).trans rfl
      have rf10 := blk_frozen BK.out 10
      have rz11 := (blk_cell BK.out 11).trans rfl
      have rf11 := blk_frozen BK.out 11
      by_cases d1 : o4 < 0
      · rw [if_pos d1] at H
        have e1 := decide_eq_true d1
        clear d1
        obtain rfl := Option.some.inj (H : some [] = some r)
        go_upto_region 8 with (first | ((with_reducible refine gate_dst (N := 5) rfl ?_); (try (refine gate_guard (by rfl) ?_; dsimp only)); refine box_event ?hg (N := 5) ?hd (cs := #[.int .i64 0, .int .u64 0]) (t := 41) ?hr ?_; (case hd => rfl); (case hg => rfl); (case hr => first | (go_simp; done) | (go_simp; rfl)); intro g5 hg w5 hbox hb; have n0_ := Aside0.mk (below_step HB.out hb); have n1_ := Aside0.mk (Kd.R_below (Kd.R_mono (Kd.R_bound HO.out) (fun k hk => (show k < g5 by rw [hg]; exact hk.2.2.1))) hb); have n2_ := Aside0.mk (blk_below BK.out hb); have B5 := Aside0.mk hbox; have NE5 := Aside0.mk (show gb ≠ g5 by rw [hg]; exact Nat.ne_of_lt (blk_lt BK.out)); have G5 := Aside0.mk (show w.heap.size ≤ g5 by rw [hg]; exact HB.out.size); clear HB HO BK; have HB := n0_; have HO := n1_; have BK := n2_; clear n0_ n1_ n2_ hg hbox hb; have tz0 := (blk_cell B5.out 0).trans rfl; have tf0 := blk_frozen B5.out 0; have tz1 := (blk_cell B5.out 1).trans rfl; have tf1 := blk_frozen B5.out 1))
        have B6 := Aside0.mk (show ((w5.setCell ⟨g5, 0, none⟩ (.int .i64 o4)).setCell ⟨g5, 1, none⟩ (.int .u64 c4)).heap[g5]? = some (.cells #[.int .i64 o4, .int .u64 c4] 41 (0, 0)) by refine blk_put (cs := #[.int .i64 o4, .int .u64 0]) ?_ 1 _ rfl; refine blk_put (cs := #[.int .i64 0, .int .u64 0]) ?_ 0 _ rfl; exact B5.out)
        have n0_ := Aside0.mk (show Below w.heap.size w ((w5.setCell ⟨g5, 0, none⟩ (.int .i64 o4)).setCell ⟨g5, 1, none⟩ (.int .u64 c4)) by repeat (with_reducible first | exact HB.out | refine below_set ?_ G5.out))
        have n1_ := Aside0.mk (show Kd.R (Kd.int .u8) 5 ((w5.setCell ⟨g5, 0, none⟩ (.int .i64 o4)).setCell ⟨g5, 1, none⟩ (.int .u64 c4)) w.heap.size (fun k => k < g5) u3 b by repeat (with_reducible first | exact HO.out | refine Kd.R_far (p := ⟨g5, _, none⟩) ?_ (fun k hk => Nat.ne_of_lt hk) _))
        have n2_ := Aside0.mk (show ((w5.setCell ⟨g5, 0, none⟩ (.int .i64 o4)).setCell ⟨g5, 1, none⟩ (.int .u64 c4)).heap[gb]? = some (.cells #[.int .u64 a0, .int .i64 a1, .int .i64 o0, .int .u64 c0, .int .i64 o1, .int .u64 c1, .int .i64 o2, .int .u64 c2, .int .i64 o3, .int .u64 c3, .int .i64 o4, .int .u64 c4] 44 (0, 0)) by refine blk_far ?_ NE5.out _; refine blk_far ?_ NE5.out _; exact BK.out)
        clear HB HO B5 BK tz0 tf0 tz1 tf1
        have HB := n0_
        have HO := n1_
        have BK := n2_
        clear n0_ n1_ n2_
        have sz0 := (blk_cell B6.out 0).trans rfl
        have sf0 := blk_frozen B6.out 0
        have sz1 := (blk_cell B6.out 1).trans rfl
        have sf1 := blk_frozen B6.out 1
        go_wp2_with (fail)
        go_ret
        exact ⟨_, rfl, Kd.R_nil _ _ _ _ _, HB.out⟩
      · rw [if_neg d1] at H
        have e1 := decide_eq_false d1
        clear d1
        obtain ⟨p, hp⟩ : ∃ p, (o4 == 0) = p := ⟨_, rfl⟩
        obtain ⟨q, hq⟩ : ∃ q, (c4 == 0) = q := ⟨_, rfl⟩
        rw [hp, hq] at H
        rcases p with _ | _ <;> rcases q with _ | _
        · obtain ⟨y1, h1, hn⟩ := Option.bind_eq_some_iff.mp H
          clear H
          obtain ⟨y2, h2, H⟩ := Option.bind_eq_some_iff.mp hn
          clear hn
          by_cases hl : b.length + y1.length + y2.length ≤ 1000
          case neg => rw [if_neg hl] at H; cases H
          rw [if_pos hl] at H
          have LM := Aside0.mk hl
          have H1 := Aside0.mk h1
          have H2 := Aside0.mk h2
          have HG := Aside0.mk H
          clear H h1 h2 hl
          go_upto_region 8 with (first | ((with_reducible refine gate_dst (N := 5) rfl ?_); (try (refine gate_guard (by rfl) ?_; dsimp only)); refine box_event ?hg (N := 5) ?hd (cs := #[.int .i64 0, .int .u64 0]) (t := 41) ?hr ?_; (case hd => rfl); (case hg => rfl); (case hr => first | (go_simp; done) | (go_simp; rfl)); intro g5 hg w5 hbox hb; have n0_ := Aside0.mk (below_step HB.out hb); have n1_ := Aside0.mk (Kd.R_below (Kd.R_mono (Kd.R_bound HO.out) (fun k hk => (show k < g5 by rw [hg]; exact hk.2.2.1))) hb); have n2_ := Aside0.mk (blk_below BK.out hb); have B5 := Aside0.mk hbox; have NE5 := Aside0.mk (show gb ≠ g5 by rw [hg]; exact Nat.ne_of_lt (blk_lt BK.out)); have G5 := Aside0.mk (show w.heap.size ≤ g5 by rw [hg]; exact HB.out.size); clear HB HO BK; have HB := n0_; have HO := n1_; have BK := n2_; clear n0_ n1_ n2_ hg hbox hb; have tz0 := (blk_cell B5.out 0).trans rfl; have tf0 := blk_frozen B5.out 0; have tz1 := (blk_cell B5.out 1).trans rfl; have tf1 := blk_frozen B5.out 1))
          have B6 := Aside0.mk (show ((w5.setCell ⟨g5, 0, none⟩ (.int .i64 o4)).setCell ⟨g5, 1, none⟩ (.int .u64 c4)).heap[g5]? = some (.cells #[.int .i64 o4, .int .u64 c4] 41 (0, 0)) by refine blk_put (cs := #[.int .i64 o4, .int .u64 0]) ?_ 1 _ rfl; refine blk_put (cs := #[.int .i64 0, .int .u64 0]) ?_ 0 _ rfl; exact B5.out)
          have n0_ := Aside0.mk (show Below w.heap.size w ((w5.setCell ⟨g5, 0, none⟩ (.int .i64 o4)).setCell ⟨g5, 1, none⟩ (.int .u64 c4)) by repeat (with_reducible first | exact HB.out | refine below_set ?_ G5.out))
          have n1_ := Aside0.mk (show Kd.R (Kd.int .u8) 5 ((w5.setCell ⟨g5, 0, none⟩ (.int .i64 o4)).setCell ⟨g5, 1, none⟩ (.int .u64 c4)) w.heap.size (fun k => k < g5) u3 b by repeat (with_reducible first | exact HO.out | refine Kd.R_far (p := ⟨g5, _, none⟩) ?_ (fun k hk => Nat.ne_of_lt hk) _))
          have n2_ := Aside0.mk (show ((w5.setCell ⟨g5, 0, none⟩ (.int .i64 o4)).setCell ⟨g5, 1, none⟩ (.int .u64 c4)).heap[gb]? = some (.cells #[.int .u64 a0, .int .i64 a1, .int .i64 o0, .int .u64 c0, .int .i64 o1, .int .u64 c1, .int .i64 o2, .int .u64 c2, .int .i64 o3, .int .u64 c3, .int .i64 o4, .int .u64 c4] 44 (0, 0)) by refine blk_far ?_ NE5.out _; refine blk_far ?_ NE5.out _; exact BK.out)
          clear HB HO B5 BK tz0 tf0 tz1 tf1
          have HB := n0_
          have HO := n1_
          have BK := n2_
          clear n0_ n1_ n2_
          have sz0 := (blk_cell B6.out 0).trans rfl
          have sf0 := blk_frozen B6.out 0
          have sz1 := (blk_cell B6.out 1).trans rfl
          have sf1 := blk_frozen B6.out 1
          have n0_ := Aside0.mk (Kd.R_mono HO.out (ok' := fun _ => True) (fun _ _ => trivial))
          clear HO
          have HO := n0_
          clear n0_
          go_upto_region 10 with (fail)
          have n0_ := Aside0.mk (blk_drew B6.out)
          have n1_ := Aside0.mk (below_drew1 HB.out)
          have n2_ := Aside0.mk (Kd.R_drew HO.out)
          have n3_ := Aside0.mk (blk_drew BK.out)
          clear sz0 sf0 sz1 sf1 B6 HB HO BK
          have B6 := n0_
          have HB := n1_
          have HO := n2_
          have BK := n3_
          clear n0_ n1_ n2_ n3_
          refine start_ (n := 11) (S := fun w' => w'.cell? ⟨g5, 0, none⟩ = some (.int .i64 o4) ∧ w'.cell? ⟨g5, 1, none⟩ = some (.int .u64 c4)) (ds := []) #[false, false, false, false, false, false, false, false, false, false, false] (by kernel_rfl) rfl rfl ⟨(blk_cell B6.out 0).trans rfl, (blk_cell B6.out 1).trans rfl⟩ (fun hHeld => ?_)
          refine pure_ (i := 0) (N := some 33) (v := ?_) (a' := ?_) #[true, false, false, false, false, false, false, false, false, false, false] rfl rfl (by kernel_rfl) (fun _ _ _ h => h) (Or.inl ⟨by rfl, ?_⟩) ?_ ?_
          rotate_left
          · intro w'
            go_simp
            with_reducible rfl
          rotate_left
          · simp only [Act.put, List.setIfInBounds_toArray, List.set_cons_zero, List.set_cons_succ]
            rfl
          refine pure_ (i := 1) (N := some 34) (v := ?_) (a' := ?_) #[true, true, false, false, false, false, false, false, false, false, false] rfl rfl (by kernel_rfl) (fun _ _ _ h => h) (Or.inl ⟨by rfl, ?_⟩) ?_ ?_
          rotate_left
          · intro w'
            go_simp
            with_reducible rfl
          rotate_left
          · simp only [Act.put, List.setIfInBounds_toArray, List.set_cons_zero, List.set_cons_succ]
            rfl
          refine take_ (i := 2) (N := some 35) (v := ?_) (a' := ?_) #[true, true, true, false, false, false, false, false, false, false, false] rfl rfl (by kernel_rfl) (fun _ _ _ h => h) (Or.inl ⟨by rfl, ?_⟩) hHeld ?_ ?_
          rotate_left
          · rintro w' ⟨s0, s1⟩
            go_simp
            with_reducible rfl
          rotate_left
          · simp only [Act.put, List.setIfInBounds_toArray, List.set_cons_zero, List.set_cons_succ]
            rfl
          refine pure_ (i := 3) (N := some 36) (v := ?_) (a' := ?_) #[true, true, true, true, false, false, false, false, false, false, false] rfl rfl (by kernel_rfl) (fun _ _ _ h => h) (Or.inl ⟨by rfl, ?_⟩) ?_ ?_
          rotate_left
          · intro w'
            go_simp
            with_reducible rfl
          rotate_left
          · simp only [Act.put, List.setIfInBounds_toArray, List.set_cons_zero, List.set_cons_succ]
            rfl
          refine pure_ (i := 6) (N := some 39) (v := ?_) (a' := ?_) #[true, true, true, true, false, false, true, false, false, false, false] rfl rfl (by kernel_rfl) (fun _ _ _ h => h) (Or.inl ⟨by rfl, ?_⟩) ?_ ?_
          rotate_left
          · intro w'
            go_simp
            with_reducible rfl
          rotate_left
          · simp only [Act.put, List.setIfInBounds_toArray, List.set_cons_zero, List.set_cons_succ]
            rfl
          refine take_ (i := 7) (N := some 40) (v := ?_) (a' := ?_) #[true, true, true, true, false, false, true, true, false, false, false] rfl rfl (by kernel_rfl) (fun _ _ _ h => h) (Or.inl ⟨by rfl, ?_⟩) hHeld ?_ ?_
          rotate_left
          · rintro w' ⟨s0, s1⟩
            go_simp
            with_reducible rfl
          rotate_left
          · simp only [Act.put, List.setIfInBounds_toArray, List.set_cons_zero, List.set_cons_succ]
            rfl
          refine one_ (i := 4) (N := some 37) #[true, true, true, true, true, false, true, true, false, false, false] rfl rfl (by kernel_rfl) (by decide) (fun K hK => ?_)
          refine goes_ Try.func45 (by kernel_rfl) rfl #[.int .u64 (IntKind.u64.wrap o4), .int .i64 8] (by rfl) rfl rfl (by (try simp only [List.map_toArray, List.map_cons, List.map_nil]); first | done | rfl) ?_
          with_reducible refine (pandectref2_High.calls k _ _ y1 _ H1.out).mono ?_
          rintro e w6 ⟨v37, rfl, ho_, hb_⟩
          refine ⟨_, rfl, ?_⟩
          have n0_ := Aside0.mk (blk_below BK.out hb_)
          have n1_ := Aside0.mk (blk_below B6.out hb_)
          have n2_ := Aside0.mk (Kd.R_below HO.out hb_)
          have n3_ := Aside0.mk (below_step HB.out hb_)
          clear BK B6 HO HB
          have BK := n0_
          have B6 := n1_
          have HO := n2_
          have HB := n3_
          clear n0_ n1_ n2_ n3_
          obtain ⟨A_y1, c_y1, e_, hc_, hC_⟩ := Kd.R_reads ho_
          subst e_
          have HC_y1 := Aside0.mk hC_
          clear ho_ hb_ hc_ hC_
          refine hK.out _ _ ⟨(blk_cell B6.out 0).trans rfl, (blk_cell B6.out 1).trans rfl⟩ (fun hHeld => ?_)
          clear hK K
          refine norm_ (a' := ?_) ?_ ?_
          rotate_left
          · show Act.put _ (some 37) _ = _
            simp only [Act.put, List.setIfInBounds_toArray, List.set_cons_zero, List.set_cons_succ]
            rfl
          refine one_ (i := 5) (N := some 38) #[true, true, true, true, true, true, true, true, false, false, false] rfl rfl (by kernel_rfl) (by decide) (fun K hK => ?_)
          refine Kd.R_append_rows_step (Kd.int .u8) (w0 := w) w.heap.size (by rfl) (.tmp 33) (.tmp 37) 22 5 (.int .u8 0) 1 rfl Try.underlying22 info5 rfl (by decide) (by omega) u3 b y1 _ _ _ (fun _ => True) (fun _ => False) rfl rfl ?aO ?aR (fun _ _ h => h) (fun _ h => h.elim) ?aF ?aB ?aS ?aL ?_
          (case aR => exact HC_y1.out)
          (case aB => exact HB.out)
          (case aF => exact (fun _ _ => trivial))
          (case aO => exact HO.out)
          (case aS => exact (below_size HB.out))
          (case aL => have := LM.out; omega)
          intro v38 w7 ho hb hg hat
          have n0_ := Aside0.mk (blk_grown (g := gb) (o := .cells #[.int .u64 a0, .int .i64 a1, .int .i64 o0, .int .u64 c0, .int .i64 o1, .int .u64 c1, .int .i64 o2, .int .u64 c2, .int .i64 o3, .int .u64 c3, .int .i64 o4, .int .u64 c4] 44 (0, 0)) BK.out hg (Kd.R_ne HO.out BK.out (by decide)))
          have n1_ := Aside0.mk (blk_grown (g := g5) (o := .cells #[.int .i64 o4, .int .u64 c4] 41 (0, 0)) B6.out hg (Kd.R_ne HO.out B6.out (by decide)))
          have n2_ := Aside0.mk ho
          have n3_ := Aside0.mk hb
          clear BK B6 HO HB HC_y1
          have BK := n0_
          have B6 := n1_
          have HO := n2_
          have HB := n3_
          clear n0_ n1_ n2_ n3_ ho hb hg hat
          refine hK.out _ _ ⟨(blk_cell B6.out 0).trans rfl, (blk_cell B6.out 1).trans rfl⟩ (fun hHeld => ?_)
          clear hK K
          refine norm_ (a' := ?_) ?_ ?_
          rotate_left
          · show Act.put _ (some 38) _ = _
            simp only [Act.put, List.setIfInBounds_toArray, List.set_cons_zero, List.set_cons_succ]
            rfl
          refine one_ (i := 8) (N := some 41) #[true, true, true, true, true, true, true, true, true, false, false] rfl rfl (by kernel_rfl) (by decide) (fun K hK => ?_)
          refine goes_ Try.func45 (by kernel_rfl) rfl #[.int .u64 c4, .int .i64 8] (by rfl) rfl rfl (by (try simp only [List.map_toArray, List.map_cons, List.map_nil]); first | done | rfl) ?_
          with_reducible refine (pandectref2_High.calls k _ _ y2 _ H2.out).mono ?_
          rintro e w8 ⟨v41, rfl, ho_, hb_⟩
          refine ⟨_, rfl, ?_⟩
          have n0_ := Aside0.mk (blk_below BK.out hb_)
          have n1_ := Aside0.mk (blk_below B6.out hb_)
          have n2_ := Aside0.mk (Kd.R_below HO.out hb_)
          have n3_ := Aside0.mk (below_step HB.out hb_)
          clear BK B6 HO HB
          have BK := n0_
          have B6 := n1_
          have HO := n2_
          have HB := n3_
          clear n0_ n1_ n2_ n3_
          obtain ⟨A_y2, c_y2, e_, hc_, hC_⟩ := Kd.R_reads ho_
          subst e_
          have HC_y2 := Aside0.mk hC_
          clear ho_ hb_ hc_ hC_
          refine hK.out _ _ ⟨(blk_cell B6.out 0).trans rfl, (blk_cell B6.out 1).trans rfl⟩ (fun hHeld => ?_)
          clear hK K
          refine norm_ (a' := ?_) ?_ ?_
          rotate_left
          · show Act.put _ (some 41) _ = _
            simp only [Act.put, List.setIfInBounds_toArray, List.set_cons_zero, List.set_cons_succ]
            rfl
          refine one_ (i := 9) (N := some 42) #[true, true, true, true, true, true, true, true, true, true, false] rfl rfl (by kernel_rfl) (by decide) (fun K hK => ?_)
          refine Kd.R_append_rows_step (Kd.int .u8) (w0 := w) w.heap.size (by rfl) (.tmp 38) (.tmp 41) 22 5 (.int .u8 0) 1 rfl Try.underlying22 info5 rfl (by decide) (by omega) v38 (b ++ y1) y2 _ _ _ (fun _ => True) (fun _ => False) rfl rfl ?aO ?aR (fun _ _ h => h) (fun _ h => h.elim) ?aF ?aB ?aS ?aL ?_
          (case aR => exact HC_y2.out)
          (case aB => exact HB.out)
          (case aF => exact (fun _ _ => trivial))
          (case aO => exact HO.out)
          (case aS => exact (below_size HB.out))
          (case aL => have := LM.out; rw [List.length_append]; omega)
          intro v42 w9 ho hb hg hat
          have n0_ := Aside0.mk (blk_grown (g := gb) (o := .cells #[.int .u64 a0, .int .i64 a1, .int .i64 o0, .int .u64 c0, .int .i64 o1, .int .u64 c1, .int .i64 o2, .int .u64 c2, .int .i64 o3, .int .u64 c3, .int .i64 o4, .int .u64 c4] 44 (0, 0)) BK.out hg (Kd.R_ne HO.out BK.out (by decide)))
          have n1_ := Aside0.mk (blk_grown (g := g5) (o := .cells #[.int .i64 o4, .int .u64 c4] 41 (0, 0)) B6.out hg (Kd.R_ne HO.out B6.out (by decide)))
          have n2_ := Aside0.mk ho
          have n3_ := Aside0.mk hb
          clear BK B6 HO HB HC_y2
          have BK := n0_
          have B6 := n1_
          have HO := n2_
          have HB := n3_
          clear n0_ n1_ n2_ n3_ ho hb hg hat
          refine hK.out _ _ ⟨(blk_cell B6.out 0).trans rfl, (blk_cell B6.out 1).trans rfl⟩ (fun hHeld => ?_)
          clear hK K
          refine norm_ (a' := ?_) ?_ ?_
          rotate_left
          · show Act.put _ (some 42) _ = _
            simp only [Act.put, List.setIfInBounds_toArray, List.set_cons_zero, List.set_cons_succ]
            rfl
          refine pure_ (i := 10) (N := some 3) (v := ?_) (a' := ?_) #[true, true, true, true, true, true, true, true, true, true, true] rfl rfl (by kernel_rfl) (fun _ _ _ h => h) (Or.inl ⟨by rfl, ?_⟩) ?_ ?_
          rotate_left
          · intro w'
            go_simp
            with_reducible rfl
          rotate_left
          · simp only [Act.put, List.setIfInBounds_toArray, List.set_cons_zero, List.set_cons_succ]
            rfl
          refine done_ (by kernel_rfl) ?_
          go_wp2_with (fail)
          go_roundg 0
          case measure => omega
          case rel => exact ⟨b ++ y1 ++ y2, 5, (by first | rfl | kernel_rfl), ⟨by have := HI.out; omega⟩, ⟨by decide⟩, HG, BK, HO, HB⟩
        · obtain rfl := Option.some.inj (H : some [] = some r)
          go_upto_region 8 with (first | ((with_reducible refine gate_dst (N := 5) rfl ?_); (try (refine gate_guard (by rfl) ?_; dsimp only)); refine box_event ?hg (N := 5) ?hd (cs := #[.int .i64 0, .int .u64 0]) (t := 41) ?hr ?_; (case hd => rfl); (case hg => rfl); (case hr => first | (go_simp; done) | (go_simp; rfl)); intro g5 hg w5 hbox hb; have n0_ := Aside0.mk (below_step HB.out hb); have n1_ := Aside0.mk (Kd.R_below (Kd.R_mono (Kd.R_bound HO.out) (fun k hk => (show k < g5 by rw [hg]; exact hk.2.2.1))) hb); have n2_ := Aside0.mk (blk_below BK.out hb); have B5 := Aside0.mk hbox; have NE5 := Aside0.mk (show gb ≠ g5 by rw [hg]; exact Nat.ne_of_lt (blk_lt BK.out)); have G5 := Aside0.mk (show w.heap.size ≤ g5 by rw [hg]; exact HB.out.size); clear HB HO BK; have HB := n0_; have HO := n1_; have BK := n2_; clear n0_ n1_ n2_ hg hbox hb; have tz0 := (blk_cell B5.out 0).trans rfl; have tf0 := blk_frozen B5.out 0; have tz1 := (blk_cell B5.out 1).trans rfl; have tf1 := blk_frozen B5.out 1))
          have B6 := Aside0.mk (show ((w5.setCell ⟨g5, 0, none⟩ (.int .i64 o4)).setCell ⟨g5, 1, none⟩ (.int .u64 c4)).heap[g5]? = some (.cells #[.int .i64 o4, .int .u64 c4] 41 (0, 0)) by refine blk_put (cs := #[.int .i64 o4, .int .u64 0]) ?_ 1 _ rfl; refine blk_put (cs := #[.int .i64 0, .int .u64 0]) ?_ 0 _ rfl; exact B5.out)
          have n0_ := Aside0.mk (show Below w.heap.size w ((w5.setCell ⟨g5, 0, none⟩ (.int .i64 o4)).setCell ⟨g5, 1, none⟩ (.int .u64 c4)) by repeat (with_reducible first | exact HB.out | refine below_set ?_ G5.out))
          have n1_ := Aside0.mk (show Kd.R (Kd.int .u8) 5 ((w5.setCell ⟨g5, 0, none⟩ (.int .i64 o4)).setCell ⟨g5, 1, none⟩ (.int .u64 c4)) w.heap.size (fun k => k < g5) u3 b by repeat (with_reducible first | exact HO.out | refine Kd.R_far (p := ⟨g5, _, none⟩) ?_ (fun k hk => Nat.ne_of_lt hk) _))
          have n2_ := Aside0.mk (show ((w5.setCell ⟨g5, 0, none⟩ (.int .i64 o4)).setCell ⟨g5, 1, none⟩ (.int .u64 c4)).heap[gb]? = some (.cells #[.int .u64 a0, .int .i64 a1, .int .i64 o0, .int .u64 c0, .int .i64 o1, .int .u64 c1, .int .i64 o2, .int .u64 c2, .int .i64 o3, .int .u64 c3, .int .i64 o4, .int .u64 c4] 44 (0, 0)) by refine blk_far ?_ NE5.out _; refine blk_far ?_ NE5.out _; exact BK.out)
          clear HB HO B5 BK tz0 tf0 tz1 tf1
          have HB := n0_
          have HO := n1_
          have BK := n2_
          clear n0_ n1_ n2_
          have sz0 := (blk_cell B6.out 0).trans rfl
          have sf0 := blk_frozen B6.out 0
          have sz1 := (blk_cell B6.out 1).trans rfl
          have sf1 := blk_frozen B6.out 1
          go_wp2_with (fail)
          go_ret
          exact ⟨_, rfl, Kd.R_nil _ _ _ _ _, HB.out⟩
        · obtain rfl := Option.some.inj (H : some [] = some r)
          go_upto_region 8 with (first | ((with_reducible refine gate_dst (N := 5) rfl ?_); (try (refine gate_guard (by rfl) ?_; dsimp only)); refine box_event ?hg (N := 5) ?hd (cs := #[.int .i64 0, .int .u64 0]) (t := 41) ?hr ?_; (case hd => rfl); (case hg => rfl); (case hr => first | (go_simp; done) | (go_simp; rfl)); intro g5 hg w5 hbox hb; have n0_ := Aside0.mk (below_step HB.out hb); have n1_ := Aside0.mk (Kd.R_below (Kd.R_mono (Kd.R_bound HO.out) (fun k hk => (show k < g5 by rw [hg]; exact hk.2.2.1))) hb); have n2_ := Aside0.mk (blk_below BK.out hb); have B5 := Aside0.mk hbox; have NE5 := Aside0.mk (show gb ≠ g5 by rw [hg]; exact Nat.ne_of_lt (blk_lt BK.out)); have G5 := Aside0.mk (show w.heap.size ≤ g5 by rw [hg]; exact HB.out.size); clear HB HO BK; have HB := n0_; have HO := n1_; have BK := n2_; clear n0_ n1_ n2_ hg hbox hb; have tz0 := (blk_cell B5.out 0).trans rfl; have tf0 := blk_frozen B5.out 0; have tz1 := (blk_cell B5.out 1).trans rfl; have tf1 := blk_frozen B5.out 1))
          have B6 := Aside0.mk (show ((w5.setCell ⟨g5, 0, none⟩ (.int .i64 o4)).setCell ⟨g5, 1, none⟩ (.int .u64 c4)).heap[g5]? = some (.cells #[.int .i64 o4, .int .u64 c4] 41 (0, 0)) by refine blk_put (cs := #[.int .i64 o4, .int .u64 0]) ?_ 1 _ rfl; refine blk_put (cs := #[.int .i64 0, .int .u64 0]) ?_ 0 _ rfl; exact B5.out)
          have n0_ := Aside0.mk (show Below w.heap.size w ((w5.setCell ⟨g5, 0, none⟩ (.int .i64 o4)).setCell ⟨g5, 1, none⟩ (.int .u64 c4)) by repeat (with_reducible first | exact HB.out | refine below_set ?_ G5.out))
          have n1_ := Aside0.mk (show Kd.R (Kd.int .u8) 5 ((w5.setCell ⟨g5, 0, none⟩ (.int .i64 o4)).setCell ⟨g5, 1, none⟩ (.int .u64 c4)) w.heap.size (fun k => k < g5) u3 b by repeat (with_reducible first | exact HO.out | refine Kd.R_far (p := ⟨g5, _, none⟩) ?_ (fun k hk => Nat.ne_of_lt hk) _))
          have n2_ := Aside0.mk (show ((w5.setCell ⟨g5, 0, none⟩ (.int .i64 o4)).setCell ⟨g5, 1, none⟩ (.int .u64 c4)).heap[gb]? = some (.cells #[.int .u64 a0, .int .i64 a1, .int .i64 o0, .int .u64 c0, .int .i64 o1, .int .u64 c1, .int .i64 o2, .int .u64 c2, .int .i64 o3, .int .u64 c3, .int .i64 o4, .int .u64 c4] 44 (0, 0)) by refine blk_far ?_ NE5.out _; refine blk_far ?_ NE5.out _; exact BK.out)
          clear HB HO B5 BK tz0 tf0 tz1 tf1
          have HB := n0_
          have HO := n1_
          have BK := n2_
          clear n0_ n1_ n2_
          have sz0 := (blk_cell B6.out 0).trans rfl
          have sf0 := blk_frozen B6.out 0
          have sz1 := (blk_cell B6.out 1).trans rfl
          have sf1 := blk_frozen B6.out 1
          go_wp2_with (fail)
          go_ret
          exact ⟨_, rfl, Kd.R_nil _ _ _ _ _, HB.out⟩
        · obtain ⟨y1, h1, hn⟩ := Option.bind_eq_some_iff.mp H
          clear H
          obtain ⟨y2, h2, H⟩ := Option.bind_eq_some_iff.mp hn
          clear hn
          by_cases hl : b.length + y1.length + y2.length ≤ 1000
          case neg => rw [if_neg hl] at H; cases H
          rw [if_pos hl] at H
          have LM := Aside0.mk hl
          have H1 := Aside0.mk h1
          have H2 := Aside0.mk h2
          have HG := Aside0.mk H
          clear H h1 h2 hl
          go_upto_region 8 with (first | ((with_reducible refine gate_dst (N := 5) rfl ?_); (try (refine gate_guard (by rfl) ?_; dsimp only)); refine box_event ?hg (N := 5) ?hd (cs := #[.int .i64 0, .int .u64 0]) (t := 41) ?hr ?_; (case hd => rfl); (case hg => rfl); (case hr => first | (go_simp; done) | (go_simp; rfl)); intro g5 hg w5 hbox hb; have n0_ := Aside0.mk (below_step HB.out hb); have n1_ := Aside0.mk (Kd.R_below (Kd.R_mono (Kd.R_bound HO.out) (fun k hk => (show k < g5 by rw [hg]; exact hk.2.2.1))) hb); have n2_ := Aside0.mk (blk_below BK.out hb); have B5 := Aside0.mk hbox; have NE5 := Aside0.mk (show gb ≠ g5 by rw [hg]; exact Nat.ne_of_lt (blk_lt BK.out)); have G5 := Aside0.mk (show w.heap.size ≤ g5 by rw [hg]; exact HB.out.size); clear HB HO BK; have HB := n0_; have HO := n1_; have BK := n2_; clear n0_ n1_ n2_ hg hbox hb; have tz0 := (blk_cell B5.out 0).trans rfl; have tf0 := blk_frozen B5.out 0; have tz1 := (blk_cell B5.out 1).trans rfl; have tf1 := blk_frozen B5.out 1))
          have B6 := Aside0.mk (show ((w5.setCell ⟨g5, 0, none⟩ (.int .i64 o4)).setCell ⟨g5, 1, none⟩ (.int .u64 c4)).heap[g5]? = some (.cells #[.int .i64 o4, .int .u64 c4] 41 (0, 0)) by refine blk_put (cs := #[.int .i64 o4, .int .u64 0]) ?_ 1 _ rfl; refine blk_put (cs := #[.int .i64 0, .int .u64 0]) ?_ 0 _ rfl; exact B5.out)
          have n0_ := Aside0.mk (show Below w.heap.size w ((w5.setCell ⟨g5, 0, none⟩ (.int .i64 o4)).setCell ⟨g5, 1, none⟩ (.int .u64 c4)) by repeat (with_reducible first | exact HB.out | refine below_set ?_ G5.out))
          have n1_ := Aside0.mk (show Kd.R (Kd.int .u8) 5 ((w5.setCell ⟨g5, 0, none⟩ (.int .i64 o4)).setCell ⟨g5, 1, none⟩ (.int .u64 c4)) w.heap.size (fun k => k < g5) u3 b by repeat (with_reducible first | exact HO.out | refine Kd.R_far (p := ⟨g5, _, none⟩) ?_ (fun k hk => Nat.ne_of_lt hk) _))
          have n2_ := Aside0.mk (show ((w5.setCell ⟨g5, 0, none⟩ (.int .i64 o4)).setCell ⟨g5, 1, none⟩ (.int .u64 c4)).heap[gb]? = some (.cells #[.int .u64 a0, .int .i64 a1, .int .i64 o0, .int .u64 c0, .int .i64 o1, .int .u64 c1, .int .i64 o2, .int .u64 c2, .int .i64 o3, .int .u64 c3, .int .i64 o4, .int .u64 c4] 44 (0, 0)) by refine blk_far ?_ NE5.out _; refine blk_far ?_ NE5.out _; exact BK.out)
          clear HB HO B5 BK tz0 tf0 tz1 tf1
          have HB := n0_
          have HO := n1_
          have BK := n2_
          clear n0_ n1_ n2_
          have sz0 := (blk_cell B6.out 0).trans rfl
          have sf0 := blk_frozen B6.out 0
          have sz1 := (blk_cell B6.out 1).trans rfl
          have sf1 := blk_frozen B6.out 1
          have n0_ := Aside0.mk (Kd.R_mono HO.out (ok' := fun _ => True) (fun _ _ => trivial))
          clear HO
          have HO := n0_
          clear n0_
          go_upto_region 10 with (fail)
          have n0_ := Aside0.mk (blk_drew B6.out)
          have n1_ := Aside0.mk (below_drew1 HB.out)
          have n2_ := Aside0.mk (Kd.R_drew HO.out)
          have n3_ := Aside0.mk (blk_drew BK.out)
          clear sz0 sf0 sz1 sf1 B6 HB HO BK
          have B6 := n0_
          have HB := n1_
          have HO := n2_
          have BK := n3_
          clear n0_ n1_ n2_ n3_
          refine start_ (n := 11) (S := fun w' => w'.cell? ⟨g5, 0, none⟩ = some (.int .i64 o4) ∧ w'.cell? ⟨g5, 1, none⟩ = some (.int .u64 c4)) (ds := []) #[false, false, false, false, false, false, false, false, false, false, false] (by kernel_rfl) rfl rfl ⟨(blk_cell B6.out 0).trans rfl, (blk_cell B6.out 1).trans rfl⟩ (fun hHeld => ?_)
          refine pure_ (i := 0) (N := some 33) (v := ?_) (a' := ?_) #[true, false, false, false, false, false, false, false, false, false, false] rfl rfl (by kernel_rfl) (fun _ _ _ h => h) (Or.inl ⟨by rfl, ?_⟩) ?_ ?_
          rotate_left
          · intro w'
            go_simp
            with_reducible rfl
          rotate_left
          · simp only [Act.put, List.setIfInBounds_toArray, List.set_cons_zero, List.set_cons_succ]
            rfl
          refine pure_ (i := 1) (N := some 34) (v := ?_) (a' := ?_) #[true, true, false, false, false, false, false, false, false, false, false] rfl rfl (by kernel_rfl) (fun _ _ _ h => h) (Or.inl ⟨by rfl, ?_⟩) ?_ ?_
          rotate_left
          · intro w'
            go_simp
            with_reducible rfl
          rotate_left
          · simp only [Act.put, List.setIfInBounds_toArray, List.set_cons_zero, List.set_cons_succ]
            rfl
          refine take_ (i := 2) (N := some 35) (v := ?_) (a' := ?_) #[true, true, true, false, false, false, false, false, false, false, false] rfl rfl (by kernel_rfl) (fun _ _ _ h => h) (Or.inl ⟨by rfl, ?_⟩) hHeld ?_ ?_
          rotate_left
          · rintro w' ⟨s0, s1⟩
            go_simp
            with_reducible rfl
          rotate_left
          · simp only [Act.put, List.setIfInBounds_toArray, List.set_cons_zero, List.set_cons_succ]
            rfl
          refine pure_ (i := 3) (N := some 36) (v := ?_) (a' := ?_) #[true, true, true, true, false, false, false, false, false, false, false] rfl rfl (by kernel_rfl) (fun _ _ _ h => h) (Or.inl ⟨by rfl, ?_⟩) ?_ ?_
          rotate_left
          · intro w'
            go_simp
            with_reducible rfl
          rotate_left
          · simp only [Act.put, List.setIfInBounds_toArray, List.set_cons_zero, List.set_cons_succ]
            rfl
          refine pure_ (i := 6) (N := some 39) (v := ?_) (a' := ?_) #[true, true, true, true, false, false, true, false, false, false, false] rfl rfl (by kernel_rfl) (fun _ _ _ h => h) (Or.inl ⟨by rfl, ?_⟩) ?_ ?_
          rotate_left
          · intro w'
            go_simp
            with_reducible rfl
          rotate_left
          · simp only [Act.put, List.setIfInBounds_toArray, List.set_cons_zero, List.set_cons_succ]
            rfl
          refine take_ (i := 7) (N := some 40) (v := ?_) (a' := ?_) #[true, true, true, true, false, false, true, true, false, false, false] rfl rfl (by kernel_rfl) (fun _ _ _ h => h) (Or.inl ⟨by rfl, ?_⟩) hHeld ?_ ?_
          rotate_left
          · rintro w' ⟨s0, s1⟩
            go_simp
            with_reducible rfl
          rotate_left
          · simp only [Act.put, List.setIfInBounds_toArray, List.set_cons_zero, List.set_cons_succ]
            rfl
          refine one_ (i := 4) (N := some 37) #[true, true, true, true, true, false, true, true, false, false, false] rfl rfl (by kernel_rfl) (by decide) (fun K hK => ?_)
          refine goes_ Try.func45 (by kernel_rfl) rfl #[.int .u64 (IntKind.u64.wrap o4), .int .i64 8] (by rfl) rfl rfl (by (try simp only [List.map_toArray, List.map_cons, List.map_nil]); first | done | rfl) ?_
          with_reducible refine (pandectref2_High.calls k _ _ y1 _ H1.out).mono ?_
          rintro e w6 ⟨v37, rfl, ho_, hb_⟩
          refine ⟨_, rfl, ?_⟩
          have n0_ := Aside0.mk (blk_below BK.out hb_)
          have n1_ := Aside0.mk (blk_below B6.out hb_)
          have n2_ := Aside0.mk (Kd.R_below HO.out hb_)
          have n3_ := Aside0.mk (below_step HB.out hb_)
          clear BK B6 HO HB
          have BK := n0_
          have B6 := n1_
          have HO := n2_
          have HB := n3_
          clear n0_ n1_ n2_ n3_
          obtain ⟨A_y1, c_y1, e_, hc_, hC_⟩ := Kd.R_reads ho_
          subst e_
          have HC_y1 := Aside0.mk hC_
          clear ho_ hb_ hc_ hC_
          refine hK.out _ _ ⟨(blk_cell B6.out 0).trans rfl, (blk_cell B6.out 1).trans rfl⟩ (fun hHeld => ?_)
          clear hK K
          refine norm_ (a' := ?_) ?_ ?_
          rotate_left
          · show Act.put _ (some 37) _ = _
            simp only [Act.put, List.setIfInBounds_toArray, List.set_cons_zero, List.set_cons_succ]
            rfl
          refine one_ (i := 5) (N := some 38) #[true, true, true, true, true, true, true, true, false, false, false] rfl rfl (by kernel_rfl) (by decide) (fun K hK => ?_)
          refine Kd.R_append_rows_step (Kd.int .u8) (w0 := w) w.heap.size (by rfl) (.tmp 33) (.tmp 37) 22 5 (.int .u8 0) 1 rfl Try.underlying22 info5 rfl (by decide) (by omega) u3 b y1 _ _ _ (fun _ => True) (fun _ => False) rfl rfl ?aO ?aR (fun _ _ h => h) (fun _ h => h.elim) ?aF ?aB ?aS ?aL ?_
          (case aR => exact HC_y1.out)
          (case aB => exact HB.out)
          (case aF => exact (fun _ _ => trivial))
          (case aO => exact HO.out)
          (case aS => exact (below_size HB.out))
          (case aL => have := LM.out; omega)
          intro v38 w7 ho hb hg hat
          have n0_ := Aside0.mk (blk_grown (g := gb) (o := .cells #[.int .u64 a0, .int .i64 a1, .int .i64 o0, .int .u64 c0, .int .i64 o1, .int .u64 c1, .int .i64 o2, .int .u64 c2, .int .i64 o3, .int .u64 c3, .int .i64 o4, .int .u64 c4] 44 (0, 0)) BK.out hg (Kd.R_ne HO.out BK.out (by decide)))
          have n1_ := Aside0.mk (blk_grown (g := g5) (o := .cells #[.int .i64 o4, .int .u64 c4] 41 (0, 0)) B6.out hg (Kd.R_ne HO.out B6.out (by decide)))
          have n2_ := Aside0.mk ho
          have n3_ := Aside0.mk hb
          clear BK B6 HO HB HC_y1
          have BK := n0_
          have B6 := n1_
          have HO := n2_
          have HB := n3_
          clear n0_ n1_ n2_ n3_ ho hb hg hat
          refine hK.out _ _ ⟨(blk_cell B6.out 0).trans rfl, (blk_cell B6.out 1).trans rfl⟩ (fun hHeld => ?_)
          clear hK K
          refine norm_ (a' := ?_) ?_ ?_
          rotate_left
          · show Act.put _ (some 38) _ = _
            simp only [Act.put, List.setIfInBounds_toArray, List.set_cons_zero, List.set_cons_succ]
            rfl
          refine one_ (i := 8) (N := some 41) #[true, true, true, true, true, true, true, true, true, false, false] rfl rfl (by kernel_rfl) (by decide) (fun K hK => ?_)
          refine goes_ Try.func45 (by kernel_rfl) rfl #[.int .u64 c4, .int .i64 8] (by rfl) rfl rfl (by (try simp only [List.map_toArray, List.map_cons, List.map_nil]); first | done | rfl) ?_
          with_reducible refine (pandectref2_High.calls k _ _ y2 _ H2.out).mono ?_
          rintro e w8 ⟨v41, rfl, ho_, hb_⟩
          refine ⟨_, rfl, ?_⟩
          have n0_ := Aside0.mk (blk_below BK.out hb_)
          have n1_ := Aside0.mk (blk_below B6.out hb_)
          have n2_ := Aside0.mk (Kd.R_below HO.out hb_)
          have n3_ := Aside0.mk (below_step HB.out hb_)
          clear BK B6 HO HB
          have BK := n0_
          have B6 := n1_
          have HO := n2_
          have HB := n3_
          clear n0_ n1_ n2_ n3_
          obtain ⟨A_y2, c_y2, e_, hc_, hC_⟩ := Kd.R_reads ho_
          subst e_
          have HC_y2 := Aside0.mk hC_
          clear ho_ hb_ hc_ hC_
          refine hK.out _ _ ⟨(blk_cell B6.out 0).trans rfl, (blk_cell B6.out 1).trans rfl⟩ (fun hHeld => ?_)
          clear hK K
          refine norm_ (a' := ?_) ?_ ?_
          rotate_left
          · show Act.put _ (some 41) _ = _
            simp only [Act.put, List.setIfInBounds_toArray, List.set_cons_zero, List.set_cons_succ]
            rfl
          refine one_ (i := 9) (N := some 42) #[true, true, true, true, true, true, true, true, true, true, false] rfl rfl (by kernel_rfl) (by decide) (fun K hK => ?_)
          refine Kd.R_append_rows_step (Kd.int .u8) (w0 := w) w.heap.size (by rfl) (.tmp 38) (.tmp 41) 22 5 (.int .u8 0) 1 rfl Try.underlying22 info5 rfl (by decide) (by omega) v38 (b ++ y1) y2 _ _ _ (fun _ => True) (fun _ => False) rfl rfl ?aO ?aR (fun _ _ h => h) (fun _ h => h.elim) ?aF ?aB ?aS ?aL ?_
          (case aR => exact HC_y2.out)
          (case aB => exact HB.out)
          (case aF => exact (fun _ _ => trivial))
          (case aO => exact HO.out)
          (case aS => exact (below_size HB.out))
          (case aL => have := LM.out; rw [List.length_append]; omega)
          intro v42 w9 ho hb hg hat
          have n0_ := Aside0.mk (blk_grown (g := gb) (o := .cells #[.int .u64 a0, .int .i64 a1, .int .i64 o0, .int .u64 c0, .int .i64 o1, .int .u64 c1, .int .i64 o2, .int .u64 c2, .int .i64 o3, .int .u64 c3, .int .i64 o4, .int .u64 c4] 44 (0, 0)) BK.out hg (Kd.R_ne HO.out BK.out (by decide)))
          have n1_ := Aside0.mk (blk_grown (g := g5) (o := .cells #[.int .i64 o4, .int .u64 c4] 41 (0, 0)) B6.out hg (Kd.R_ne HO.out B6.out (by decide)))
          have n2_ := Aside0.mk ho
          have n3_ := Aside0.mk hb
          clear BK B6 HO HB HC_y2
          have BK := n0_
          have B6 := n1_
          have HO := n2_
          have HB := n3_
          clear n0_ n1_ n2_ n3_ ho hb hg hat
          refine hK.out _ _ ⟨(blk_cell B6.out 0).trans rfl, (blk_cell B6.out 1).trans rfl⟩ (fun hHeld => ?_)
          clear hK K
          refine norm_ (a' := ?_) ?_ ?_
          rotate_left
          · show Act.put _ (some 42) _ = _
            simp only [Act.put, List.setIfInBounds_toArray, List.set_cons_zero, List.set_cons_succ]
            rfl
          refine pure_ (i := 10) (N := some 3) (v := ?_) (a' := ?_) #[true, true, true, true, true, true, true, true, true, true, true] rfl rfl (by kernel_rfl) (fun _ _ _ h => h) (Or.inl ⟨by rfl, ?_⟩) ?_ ?_
          rotate_left
          · intro w'
            go_simp
            with_reducible rfl
          rotate_left
          · simp only [Act.put, List.setIfInBounds_toArray, List.set_cons_zero, List.set_cons_succ]
            rfl
          refine done_ (by kernel_rfl) ?_
          go_wp2_with (fail)
          go_roundg 0
          case measure => omega
          case rel => exact ⟨b ++ y1 ++ y2, 5, (by first | rfl | kernel_rfl), ⟨by have := HI.out; omega⟩, ⟨by decide⟩, HG, BK, HO, HB⟩
    | 2 =>
      obtain rfl : i = 3 := by have := HI.out; omega
      have H : (if o3 < 0 then some [] else if (o3 == 0) != (c3 == 0) then some [] else (pandectref2_High.f k (IntKind.u64.wrap o3) 8).bind fun y1 => (pandectref2_High.f k c3 8).bind fun y2 => if b.length + y1.length + y2.length ≤ 1000 then pandectref6_PutRoot.go k [(o4, c4)] (b ++ y1 ++ y2) else none) = some r := HG.out
      clear HG
      have rz0 := (blk_cell BK.out 0).trans rfl
      have rf0 := blk_frozen BK.out 0
      have rz1 := (blk_cell BK.out 1).trans rfl
      have rf1 := blk_frozen BK.out 1
      have rz2 := (blk_cell BK.out 2).trans rfl
      have rf2 := blk_frozen BK.out 2
      have rz3 := (blk_cell BK.out 3).trans rfl
      have rf3 := blk_frozen BK.out 3
      have rz4 := (blk_cell BK.out 4).trans rfl
      have rf4 := blk_frozen BK.out 4
      have rz5 := (blk_cell BK.out 5).trans rfl
      have rf5 := blk_frozen BK.out 5
      have rz6 := (blk_cell BK.out 6).trans rfl
      have rf6 := blk_frozen BK.out 6
      have rz7 := (blk_cell BK.out 7).trans rfl
      have rf7 := blk_frozen BK.out 7
      have rz8 := (blk_cell BK.out 8).trans rfl
      have rf8 := blk_frozen BK.out 8
      have rz9 := (blk_cell BK.out 9).trans rfl
      have rf9 := blk_frozen BK.out 9
      have rz10 := (blk_cell BK.out 10).trans rfl
      have rf10 := blk_frozen BK.out 10
      have rz11 := (blk_cell BK.out 11).trans rfl
      have rf11 := blk_frozen BK.out 11
      by_cases d1 : o3 < 0
      · rw [if_pos d1] at H
        have e1 := decide_eq_true d1
        clear d1
        obtain rfl := Option.some.inj (H : some [] = some r)
        go_upto_region 8 with (first | ((with_reducible refine gate_dst (N := 5) rfl ?_); (try (refine gate_guard (by rfl) ?_; dsimp only)); refine box_event ?hg (N := 5) ?hd (cs := #[.int .i64 0, .int .u64 0]) (t := 41) ?hr ?_; (case hd => rfl); (case hg => rfl); (case hr => first | (go_simp; done) | (go_simp; rfl)); intro g5 hg w5 hbox hb; have n0_ := Aside0.mk (below_step HB.out hb); have n1_ := Aside0.mk (Kd.R_below (Kd.R_mono (Kd.R_bound HO.out) (fun k hk => (show k < g5 by rw [hg]; exact hk.2.2.1))) hb); have n2_ := Aside0.mk (blk_below BK.out hb); have B5 := Aside0.mk hbox; have NE5 := Aside0.mk (show gb ≠ g5 by rw [hg]; exact Nat.ne_of_lt (blk_lt BK.out)); have G5 := Aside0.mk (show w.heap.size ≤ g5 by rw [hg]; exact HB.out.size); clear HB HO BK; have HB := n0_; have HO := n1_; have BK := n2_; clear n0_ n1_ n2_ hg hbox hb; have tz0 := (blk_cell B5.out 0).trans rfl; have tf0 := blk_frozen B5.out 0; have tz1 := (blk_cell B5.out 1).trans rfl; have tf1 := blk_frozen B5.out 1))
        have B6 := Aside0.mk (show ((w5.setCell ⟨g5, 0, none⟩ (.int .i64 o3)).setCell ⟨g5, 1, none⟩ (.int .u64 c3)).heap[g5]? = some (.cells #[.int .i64 o3, .int .u64 c3] 41 (0, 0)) by refine blk_put (cs := #[.int .i64 o3, .int .u64 0]) ?_ 1 _ rfl; refine blk_put (cs := #[.int .i64 0, .int .u64 0]) ?_ 0 _ rfl; exact B5.out)
        have n0_ := Aside0.mk (show Below w.heap.size w ((w5.setCell ⟨g5, 0, none⟩ (.int .i64 o3)).setCell ⟨g5, 1, none⟩ (.int .u64 c3)) by repeat (with_reducible first | exact HB.out | refine below_set ?_ G5.out))
        have n1_ := Aside0.mk (show Kd.R (Kd.int .u8) 5 ((w5.setCell ⟨g5, 0, none⟩ (.int .i64 o3)).setCell ⟨g5, 1, none⟩ (.int .u64 c3)) w.heap.size (fun k => k < g5) u3 b by repeat (with_reducible first | exact HO.out | refine Kd.R_far (p := ⟨g5, _, none⟩) ?_ (fun k hk => Nat.ne_of_lt hk) _))
        have n2_ := Aside0.mk (show ((w5.setCell ⟨g5, 0, none⟩ (.int .i64 o3)).setCell ⟨g5, 1, none⟩ (.int .u64 c3)).heap[gb]? = some (.cells #[.int .u64 a0, .int .i64 a1, .int .i64 o0, .int .u64 c0, .int .i64 o1, .int .u64 c1, .int .i64 o2, .int .u64 c2, .int .i64 o3, .int .u64 c3, .int .i64 o4, .int .u64 c4] 44 (0, 0)) by refine blk_far ?_ NE5.out _; refine blk_far ?_ NE5.out _; exact BK.out)
        clear HB HO B5 BK tz0 tf0 tz1 tf1
        have HB := n0_
        have HO := n1_
        have BK := n2_
        clear n0_ n1_ n2_
        have sz0 := (blk_cell B6.out 0).trans rfl
        have sf0 := blk_frozen B6.out 0
        have sz1 := (blk_cell B6.out 1).trans rfl
        have sf1 := blk_frozen B6.out 1
        go_wp2_with (fail)
        go_ret
        exact ⟨_, rfl, Kd.R_nil _ _ _ _ _, HB.out⟩
      · rw [if_neg d1] at H
        have e1 := decide_eq_false d1
        clear d1
        obtain ⟨p, hp⟩ : ∃ p, (o3 == 0) = p := ⟨_, rfl⟩
        obtain ⟨q, hq⟩ : ∃ q, (c3 == 0) = q := ⟨_, rfl⟩
        rw [hp, hq] at H
        rcases p with _ | _ <;> rcases q with _ | _
        · obtain ⟨y1, h1, hn⟩ := Option.bind_eq_some_iff.mp H
          clear H
          obtain ⟨y2, h2, H⟩ := Option.bind_eq_some_iff.mp hn
          clear hn
          by_cases hl : b.length + y1.length + y2.length ≤ 1000
          case neg => rw [if_neg hl] at H; cases H
          rw [if_pos hl] at H
          have LM := Aside0.mk hl
          have H1 := Aside0.mk h1
          have H2 := Aside0.mk h2
          have HG := Aside0.mk H
          clear H h1 h2 hl
          go_upto_region 8 with (first | ((with_reducible refine gate_dst (N := 5) rfl ?_); (try (refine gate_guard (by rfl) ?_; dsimp only)); refine box_event ?hg (N := 5) ?hd (cs := #[.int .i64 0, .int .u64 0]) (t := 41) ?hr ?_; (case hd => rfl); (case hg => rfl); (case hr => first | (go_simp; done) | (go_simp; rfl)); intro g5 hg w5 hbox hb; have n0_ := Aside0.mk (below_step HB.out hb); have n1_ := Aside0.mk (Kd.R_below (Kd.R_mono (Kd.R_bound HO.out) (fun k hk => (show k < g5 by rw [hg]; exact hk.2.2.1))) hb); have n2_ := Aside0.mk (blk_below BK.out hb); have B5 := Aside0.mk hbox; have NE5 := Aside0.mk (show gb ≠ g5 by rw [hg]; exact Nat.ne_of_lt (blk_lt BK.out)); have G5 := Aside0.mk (show w.heap.size ≤ g5 by rw [hg]; exact HB.out.size); clear HB HO BK; have HB := n0_; have HO := n1_; have BK := n2_; clear n0_ n1_ n2_ hg hbox hb; have tz0 := (blk_cell B5.out 0).trans rfl; have tf0 := blk_frozen B5.out 0; have tz1 := (blk_cell B5.out 1).trans rfl; have tf1 := blk_frozen B5.out 1))
          have B6 := Aside0.mk (show ((w5.setCell ⟨g5, 0, none⟩ (.int .i64 o3)).setCell ⟨g5, 1, none⟩ (.int .u64 c3)).heap[g5]? = some (.cells #[.int .i64 o3, .int .u64 c3] 41 (0, 0)) by refine blk_put (cs := #[.int .i64 o3, .int .u64 0]) ?_ 1 _ rfl; refine blk_put (cs := #[.int .i64 0, .int .u64 0]) ?_ 0 _ rfl; exact B5.out)
          have n0_ := Aside0.mk (show Below w.heap.size w ((w5.setCell ⟨g5, 0, none⟩ (.int .i64 o3)).setCell ⟨g5, 1, none⟩ (.int .u64 c3)) by repeat (with_reducible first | exact HB.out | refine below_set ?_ G5.out))
          have n1_ := Aside0.mk (show Kd.R (Kd.int .u8) 5 ((w5.setCell ⟨g5, 0, none⟩ (.int .i64 o3)).setCell ⟨g5, 1, none⟩ (.int .u64 c3)) w.heap.size (fun k => k < g5) u3 b by repeat (with_reducible first | exact HO.out | refine Kd.R_far (p := ⟨g5, _, none⟩) ?_ (fun k hk => Nat.ne_of_lt hk) _))
          have n2_ := Aside0.mk (show ((w5.setCell ⟨g5, 0, none⟩ (.int .i64 o3)).setCell ⟨g5, 1, none⟩ (.int .u64 c3)).heap[gb]? = some (.cells #[.int .u64 a0, .int .i64 a1, .int .i64 o0, .int .u64 c0, .int .i64 o1, .int .u64 c1, .int .i64 o2, .int .u64 c2, .int .i64 o3, .int .u64 c3, .int .i64 o4, .int .u64 c4] 44 (0, 0)) by refine blk_far ?_ NE5.out _; refine blk_far ?_ NE5.out _; exact BK.out)
          clear HB HO B5 BK tz0 tf0 tz1 tf1
          have HB := n0_
          have HO := n1_
          have BK := n2_
          clear n0_ n1_ n2_
          have sz0 := (blk_cell B6.out 0).trans rfl
          have sf0 := blk_frozen B6.out 0
          have sz1 := (blk_cell B6.out 1).trans rfl
          have sf1 := blk_frozen B6.out 1
          have n0_ := Aside0.mk (Kd.R_mono HO.out (ok' := fun _ => True) (fun _ _ => trivial))
          clear HO
          have HO := n0_
          clear n0_
          go_upto_region 10 with (fail)
          have n0_ := Aside0.mk (blk_drew B6.out)
          have n1_ := Aside0.mk (below_drew1 HB.out)
          have n2_ := Aside0.mk (Kd.R_drew HO.out)
          have n3_ := Aside0.mk (blk_drew BK.out)
          clear sz0 sf0 sz1 sf1 B6 HB HO BK
          have B6 := n0_
          have HB := n1_
          have HO := n2_
          have BK := n3_
          clear n0_ n1_ n2_ n3_
          refine start_ (n := 11) (S := fun w' => w'.cell? ⟨g5, 0, none⟩ = some (.int .i64 o3) ∧ w'.cell? ⟨g5, 1, none⟩ = some (.int .u64 c3)) (ds := []) #[false, false, false, false, false, false, false, false, false, false, false] (by kernel_rfl) rfl rfl ⟨(blk_cell B6.out 0).trans rfl, (blk_cell B6.out 1).trans rfl⟩ (fun hHeld => ?_)
          refine pure_ (i := 0) (N := some 33) (v := ?_) (a' := ?_) #[true, false, false, false, false, false, false, false, false, false, false] rfl rfl (by kernel_rfl) (fun _ _ _ h => h) (Or.inl ⟨by rfl, ?_⟩) ?_ ?_
          rotate_left
          · intro w'
            go_simp
            with_reducible rfl
          rotate_left
          · simp only [Act.put, List.setIfInBounds_toArray, List.set_cons_zero, List.set_cons_succ]
            rfl
          refine pure_ (i := 1) (N := some 34) (v := ?_) (a' := ?_) #[true, true, false, false, false, false, false, false, false, false, false] rfl rfl (by kernel_rfl) (fun _ _ _ h => h) (Or.inl ⟨by rfl, ?_⟩) ?_ ?_
          rotate_left
          · intro w'
            go_simp
            with_reducible rfl
          rotate_left
          · simp only [Act.put, List.setIfInBounds_toArray, List.set_cons_zero, List.set_cons_succ]
            rfl
          refine take_ (i := 2) (N := some 35) (v := ?_) (a' := ?_) #[true, true, true, false, false, false, false, false, false, false, false] rfl rfl (by kernel_rfl) (fun _ _ _ h => h) (Or.inl ⟨by rfl, ?_⟩) hHeld ?_ ?_
          rotate_left
          · rintro w' ⟨s0, s1⟩
            go_simp
            with_reducible rfl
          rotate_left
          · simp only [Act.put, List.setIfInBounds_toArray, List.set_cons_zero, List.set_cons_succ]
            rfl
          refine pure_ (i := 3) (N := some 36) (v := ?_) (a' := ?_) #[true, true, true, true, false, false, false, false, false, false, false] rfl rfl (by kernel_rfl) (fun _ _ _ h => h) (Or.inl ⟨by rfl, ?_⟩) ?_ ?_
          rotate_left
          · intro w'
            go_simp
            with_reducible rfl
          rotate_left
          · simp only [Act.put, List.setIfInBounds_toArray, List.set_cons_zero, List.set_cons_succ]
            rfl
          refine pure_ (i := 6) (N := some 39) (v := ?_) (a' := ?_) #[true, true, true, true, false, false, true, false, false, false, false] rfl rfl (by kernel_rfl) (fun _ _ _ h => h) (Or.inl ⟨by rfl, ?_⟩) ?_ ?_
          rotate_left
          · intro w'
            go_simp
            with_reducible rfl
          rotate_left
          · simp only [Act.put, List.setIfInBounds_toArray, List.set_cons_zero, List.set_cons_succ]
            rfl
          refine take_ (i := 7) (N := some 40) (v := ?_) (a' := ?_) #[true, true, true, true, false, false, true, true, false, false, false] rfl rfl (by kernel_rfl) (fun _ _ _ h => h) (Or.inl ⟨by rfl, ?_⟩) hHeld ?_ ?_
          rotate_left
          · rintro w' ⟨s0, s1⟩
            go_simp
            with_reducible rfl
          rotate_left
          · simp only [Act.put, List.setIfInBounds_toArray, List.set_cons_zero, List.set_cons_succ]
            rfl
          refine one_ (i := 4) (N := some 37) #[true, true, true, true, true, false, true, true, false, false, false] rfl rfl (by kernel_rfl) (by decide) (fun K hK => ?_)
          refine goes_ Try.func45 (by kernel_rfl) rfl #[.int .u64 (IntKind.u64.wrap o3), .int .i64 8] (by rfl) rfl rfl (by (try simp only [List.map_toArray, List.map_cons, List.map_nil]); first | done | rfl) ?_
          with_reducible refine (pandectref2_High.calls k _ _ y1 _ H1.out).mono ?_
          rintro e w6 ⟨v37, rfl, ho_, hb_⟩
          refine ⟨_, rfl, ?_⟩
          have n0_ := Aside0.mk (blk_below BK.out hb_)
          have n1_ := Aside0.mk (blk_below B6.out hb_)
          have n2_ := Aside0.mk (Kd.R_below HO.out hb_)
          have n3_ := Aside0.mk (below_step HB.out hb_)
          clear BK B6 HO HB
          have BK := n0_
          have B6 := n1_
          have HO := n2_
          have HB := n3_
          clear n0_ n1_ n2_ n3_
          obtain ⟨A_y1, c_y1, e_, hc_, hC_⟩ := Kd.R_reads ho_
          subst e_
          have HC_y1 := Aside0.mk hC_
          clear ho_ hb_ hc_ hC_
          refine hK.out _ _ ⟨(blk_cell B6.out 0).trans rfl, (blk_cell B6.out 1).trans rfl⟩ (fun hHeld => ?_)
          clear hK K
          refine norm_ (a' := ?_) ?_ ?_
          rotate_left
          · show Act.put _ (some 37) _ = _
            simp only [Act.put, List.setIfInBounds_toArray, List.set_cons_zero, List.set_cons_succ]
            rfl
          refine one_ (i := 5) (N := some 38) #[true, true, true, true, true, true, true, true, false, false, false] rfl rfl (by kernel_rfl) (by decide) (fun K hK => ?_)
          refine Kd.R_append_rows_step (Kd.int .u8) (w0 := w) w.heap.size (by rfl) (.tmp 33) (.tmp 37) 22 5 (.int .u8 0) 1 rfl Try.underlying22 info5 rfl (by decide) (by omega) u3 b y1 _ _ _ (fun _ => True) (fun _ => False) rfl rfl ?aO ?aR (fun _ _ h => h) (fun _ h => h.elim) ?aF ?aB ?aS ?aL ?_
          (case aR => exact HC_y1.out)
          (case aB => exact HB.out)
          (case aF => exact (fun _ _ => trivial))
          (case aO => exact HO.out)
          (case aS => exact (below_size HB.out))
          (case aL => have := LM.out; omega)
          intro v38 w7 ho hb hg hat
          have n0_ := Aside0.mk (blk_grown (g := gb) (o := .cells #[.int .u64 a0, .int .i64 a1, .int .i64 o0, .int .u64 c0, .int .i64 o1, .int .u64 c1, .int .i64 o2, .int .u64 c2, .int .i64 o3, .int .u64 c3, .int .i64 o4, .int .u64 c4] 44 (0, 0)) BK.out hg (Kd.R_ne HO.out BK.out (by decide)))
          have n1_ := Aside0.mk (blk_grown (g := g5) (o := .cells #[.int .i64 o3, .int .u64 c3] 41 (0, 0)) B6.out hg (Kd.R_ne HO.out B6.out (by decide)))
          have n2_ := Aside0.mk ho
          have n3_ := Aside0.mk hb
          clear BK B6 HO HB HC_y1
          have BK := n0_
          have B6 := n1_
          have HO := n2_
          have HB := n3_
          clear n0_ n1_ n2_ n3_ ho hb hg hat
          refine hK.out _ _ ⟨(blk_cell B6.out 0).trans rfl, (blk_cell B6.out 1).trans rfl⟩ (fun hHeld => ?_)
          clear hK K
          refine norm_ (a' := ?_) ?_ ?_
          rotate_left
          · show Act.put _ (some 38) _ = _
            simp only [Act.put, List.setIfInBounds_toArray, List.set_cons_zero, List.set_cons_succ]
            rfl
          refine one_ (i := 8) (N := some 41) #[true, true, true, true, true, true, true, true, true, false, false] rfl rfl (by kernel_rfl) (by decide) (fun K hK => ?_)
          refine goes_ Try.func45 (by kernel_rfl) rfl #[.int .u64 c3, .int .i64 8] (by rfl) rfl rfl (by (try simp only [List.map_toArray, List.map_cons, List.map_nil]); first | done | rfl) ?_
          with_reducible refine (pandectref2_High.calls k _ _ y2 _ H2.out).mono ?_
          rintro e w8 ⟨v41, rfl, ho_, hb_⟩
          refine ⟨_, rfl, ?_⟩
          have n0_ := Aside0.mk (blk_below BK.out hb_)
          have n1_ := Aside0.mk (blk_below B6.out hb_)
          have n2_ := Aside0.mk (Kd.R_below HO.out hb_)
          have n3_ := Aside0.mk (below_step HB.out hb_)
          clear BK B6 HO HB
          have BK := n0_
          have B6 := n1_
          have HO := n2_
          have HB := n3_
          clear n0_ n1_ n2_ n3_
          obtain ⟨A_y2, c_y2, e_, hc_, hC_⟩ := Kd.R_reads ho_
          subst e_
          have HC_y2 := Aside0.mk hC_
          clear ho_ hb_ hc_ hC_
          refine hK.out _ _ ⟨(blk_cell B6.out 0).trans rfl, (blk_cell B6.out 1).trans rfl⟩ (fun hHeld => ?_)
          clear hK K
          refine norm_ (a' := ?_) ?_ ?_
          rotate_left
          · show Act.put _ (some 41) _ = _
            simp only [Act.put, List.setIfInBounds_toArray, List.set_cons_zero, List.set_cons_succ]
            rfl
          refine one_ (i := 9) (N := some 42) #[true, true, true, true, true, true, true, true, true, true, false] rfl rfl (by kernel_rfl) (by decide) (fun K hK => ?_)
          refine Kd.R_append_rows_step (Kd.int .u8) (w0 := w) w.heap.size (by rfl) (.tmp 38) (.tmp 41) 22 5 (.int .u8 0) 1 rfl Try.underlying22 info5 rfl (by decide) (by omega) v38 (b ++ y1) y2 _ _ _ (fun _ => True) (fun _ => False) rfl rfl ?aO ?aR (fun _ _ h => h) (fun _ h => h.elim) ?aF ?aB ?aS ?aL ?_
          (case aR => exact HC_y2.out)
          (case aB => exact HB.out)
          (case aF => exact (fun _ _ => trivial))
          (case aO => exact HO.out)
          (case aS => exact (below_size HB.out))
          (case aL => have := LM.out; rw [List.length_append]; omega)
          intro v42 w9 ho hb hg hat
          have n0_ := Aside0.mk (blk_grown (g := gb) (o := .cells #[.int .u64 a0, .int .i64 a1, .int .i64 o0, .int .u64 c0, .int .i64 o1, .int .u64 c1, .int .i64 o2, .int .u64 c2, .int .i64 o3, .int .u64 c3, .int .i64 o4, .int .u64 c4] 44 (0, 0)) BK.out hg (Kd.R_ne HO.out BK.out (by decide)))
          have n1_ := Aside0.mk (blk_grown (g := g5) (o := .cells #[.int .i64 o3, .int .u64 c3] 41 (0, 0)) B6.out hg (Kd.R_ne HO.out B6.out (by decide)))
          have n2_ := Aside0.mk ho
          have n3_ := Aside0.mk hb
          clear BK B6 HO HB HC_y2
          have BK := n0_
          have B6 := n1_
          have HO := n2_
          have HB := n3_
          clear n0_ n1_ n2_ n3_ ho hb hg hat
          refine hK.out _ _ ⟨(blk_cell B6.out 0).trans rfl, (blk_cell B6.out 1).trans rfl⟩ (fun hHeld => ?_)
          clear hK K
          refine norm_ (a' := ?_) ?_ ?_
          rotate_left
          · show Act.put _ (some 42) _ = _
            simp only [Act.put, List.setIfInBounds_toArray, List.set_cons_zero, List.set_cons_succ]
            rfl
          refine pure_ (i := 10) (N := some 3) (v := ?_) (a' := ?_) #[true, true, true, true, true, true, true, true, true, true, true] rfl rfl (by kernel_rfl) (fun _ _ _ h => h) (Or.inl ⟨by rfl, ?_⟩) ?_ ?_
          rotate_left
          · intro w'
            go_simp
            with_reducible rfl
          rotate_left
          · simp only [Act.put, List.setIfInBounds_toArray, List.set_cons_zero, List.set_cons_succ]
            rfl
          refine done_ (by kernel_rfl) ?_
          go_wp2_with (fail)
          go_roundg 1
          case measure => omega
          case rel => exact ⟨b ++ y1 ++ y2, 4, (by first | rfl | kernel_rfl), ⟨by have := HI.out; omega⟩, ⟨by decide⟩, HG, BK, HO, HB⟩
        · obtain rfl := Option.some.inj (H : some [] = some r)
          go_upto_region 8 with (first | ((with_reducible refine gate_dst (N := 5) rfl ?_); (try (refine gate_guard (by rfl) ?_; dsimp only)); refine box_event ?hg (N := 5) ?hd (cs := #[.int .i64 0, .int .u64 0]) (t := 41) ?hr ?_; (case hd => rfl); (case hg => rfl); (case hr => first | (go_simp; done) | (go_simp; rfl)); intro g5 hg w5 hbox hb; have n0_ := Aside0.mk (below_step HB.out hb); have n1_ := Aside0.mk (Kd.R_below (Kd.R_mono (Kd.R_bound HO.out) (fun k hk => (show k < g5 by rw [hg]; exact hk.2.2.1))) hb); have n2_ := Aside0.mk (blk_below BK.out hb); have B5 := Aside0.mk hbox; have NE5 := Aside0.mk (show gb ≠ g5 by rw [hg]; exact Nat.ne_of_lt (blk_lt BK.out)); have G5 := Aside0.mk (show w.heap.size ≤ g5 by rw [hg]; exact HB.out.size); clear HB HO BK; have HB := n0_; have HO := n1_; have BK := n2_; clear n0_ n1_ n2_ hg hbox hb; have tz0 := (blk_cell B5.out 0).trans rfl; have tf0 := blk_frozen B5.out 0; have tz1 := (blk_cell B5.out 1).trans rfl; have tf1 := blk_frozen B5.out 1))
          have B6 := Aside0.mk (show ((w5.setCell ⟨g5, 0, none⟩ (.int .i64 o3)).setCell ⟨g5, 1, none⟩ (.int .u64 c3)).heap[g5]? = some (.cells #[.int .i64 o3, .int .u64 c3] 41 (0, 0)) by refine blk_put (cs := #[.int .i64 o3, .int .u64 0]) ?_ 1 _ rfl; refine blk_put (cs := #[.int .i64 0, .int .u64 0]) ?_ 0 _ rfl; exact B5.out)
          have n0_ := Aside0.mk (show Below w.heap.size w ((w5.setCell ⟨g5, 0, none⟩ (.int .i64 o3)).setCell ⟨g5, 1, none⟩ (.int .u64 c3)) by repeat (with_reducible first | exact HB.out | refine below_set ?_ G5.out))
          have n1_ := Aside0.mk (show Kd.R (Kd.int .u8) 5 ((w5.setCell ⟨g5, 0, none⟩ (.int .i64 o3)).setCell ⟨g5, 1, none⟩ (.int .u64 c3)) w.heap.size (fun k => k < g5) u3 b by repeat (with_reducible first | exact HO.out | refine Kd.R_far (p := ⟨g5, _, none⟩) ?_ (fun k hk => Nat.ne_of_lt hk) _))
          have n2_ := Aside0.mk (show ((w5.setCell ⟨g5, 0, none⟩ (.int .i64 o3)).setCell ⟨g5, 1, none⟩ (.int .u64 c3)).heap[gb]? = some (.cells #[.int .u64 a0, .int .i64 a1, .int .i64 o0, .int .u64 c0, .int .i64 o1, .int .u64 c1, .int .i64 o2, .int .u64 c2, .int .i64 o3, .int .u64 c3, .int .i64 o4, .int .u64 c4] 44 (0, 0)) by refine blk_far ?_ NE5.out _; refine blk_far ?_ NE5.out _; exact BK.out)
          clear HB HO B5 BK tz0 tf0 tz1 tf1
          have HB := n0_
          have HO := n1_
          have BK := n2_
          clear n0_ n1_ n2_
          have sz0 := (blk_cell B6.out 0).trans rfl
          have sf0 := blk_frozen B6.out 0
          have sz1 := (blk_cell B6.out 1).trans rfl
          have sf1 := blk_frozen B6.out 1
          go_wp2_with (fail)
          go_ret
          exact ⟨_, rfl, Kd.R_nil _ _ _ _ _, HB.out⟩
        · obtain rfl := Option.some.inj (H : some [] = some r)
          go_upto_region 8 with (first | ((with_reducible refine gate_dst (N := 5) rfl ?_); (try (refine gate_guard (by rfl) ?_; dsimp only)); refine box_event ?hg (N := 5) ?hd (cs := #[.int .i64 0, .int .u64 0]) (t := 41) ?hr ?_; (case hd => rfl); (case hg => rfl); (case hr => first | (go_simp; done) | (go_simp; rfl)); intro g5 hg w5 hbox hb; have n0_ := Aside0.mk (below_step HB.out hb); have n1_ := Aside0.mk (Kd.R_below (Kd.R_mono (Kd.R_bound HO.out) (fun k hk => (show k < g5 by rw [hg]; exact hk.2.2.1))) hb); have n2_ := Aside0.mk (blk_below BK.out hb); have B5 := Aside0.mk hbox; have NE5 := Aside0.mk (show gb ≠ g5 by rw [hg]; exact Nat.ne_of_lt (blk_lt BK.out)); have G5 := Aside0.mk (show w.heap.size ≤ g5 by rw [hg]; exact HB.out.size); clear HB HO BK; have HB := n0_; have HO := n1_; have BK := n2_; clear n0_ n1_ n2_ hg hbox hb; have tz0 := (blk_cell B5.out 0).trans rfl; have tf0 := blk_frozen B5.out 0; have tz1 := (blk_cell B5.out 1).trans rfl; have tf1 := blk_frozen B5.out 1))
          have B6 := Aside0.mk (show ((w5.setCell ⟨g5, 0, none⟩ (.int .i64 o3)).setCell ⟨g5, 1, none⟩ (.int .u64 c3)).heap[g5]? = some (.cells #[.int .i64 o3, .int .u64 c3] 41 (0, 0)) by refine blk_put (cs := #[.int .i64 o3, .int .u64 0]) ?_ 1 _ rfl; refine blk_put (cs := #[.int .i64 0, .int .u64 0]) ?_ 0 _ rfl; exact B5.out)
          have n0_ := Aside0.mk (show Below w.heap.size w ((w5.setCell ⟨g5, 0, none⟩ (.int .i64 o3)).setCell ⟨g5, 1, none⟩ (.int .u64 c3)) by repeat (with_reducible first | exact HB.out | refine below_set ?_ G5.out))
          have n1_ := Aside0.mk (show Kd.R (Kd.int .u8) 5 ((w5.setCell ⟨g5, 0, none⟩ (.int .i64 o3)).setCell ⟨g5, 1, none⟩ (.int .u64 c3)) w.heap.size (fun k => k < g5) u3 b by repeat (with_reducible first | exact HO.out | refine Kd.R_far (p := ⟨g5, _, none⟩) ?_ (fun k hk => Nat.ne_of_lt hk) _))
          have n2_ := Aside0.mk (show ((w5.setCell ⟨g5, 0, none⟩ (.int .i64 o3)).setCell ⟨g5, 1, none⟩ (.int .u64 c3)).heap[gb]? = some (.cells #[.int .u64 a0, .int .i64 a1, .int .i64 o0, .int .u64 c0, .int .i64 o1, .int .u64 c1, .int .i64 o2, .int .u64 c2, .int .i64 o3, .int .u64 c3, .int .i64 o4, .int .u64 c4] 44 (0, 0)) by refine blk_far ?_ NE5.out _; refine blk_far ?_ NE5.out _; exact BK.out)
          clear HB HO B5 BK tz0 tf0 tz1 tf1
          have HB := n0_
          have HO := n1_
          have BK := n2_
          clear n0_ n1_ n2_
          have sz0 := (blk_cell B6.out 0).trans rfl
          have sf0 := blk_frozen B6.out 0
          have sz1 := (blk_cell B6.out 1).trans rfl
          have sf1 := blk_frozen B6.out 1
          go_wp2_with (fail)
          go_ret
          exact ⟨_, rfl, Kd.R_nil _ _ _ _ _, HB.out⟩
        · obtain ⟨y1, h1, hn⟩ := Option.bind_eq_some_iff.mp H
          clear H
          obtain ⟨y2, h2, H⟩ := Option.bind_eq_some_iff.mp hn
          clear hn
          by_cases hl : b.length + y1.length + y2.length ≤ 1000
          case neg => rw [if_neg hl] at H; cases H
          rw [if_pos hl] at H
          have LM := Aside0.mk hl
          have H1 := Aside0.mk h1
          have H2 := Aside0.mk h2
          have HG := Aside0.mk H
          clear H h1 h2 hl
          go_upto_region 8 with (first | ((with_reducible refine gate_dst (N := 5) rfl ?_); (try (refine gate_guard (by rfl) ?_; dsimp only)); refine box_event ?hg (N := 5) ?hd (cs := #[.int .i64 0, .int .u64 0]) (t := 41) ?hr ?_; (case hd => rfl); (case hg => rfl); (case hr => first | (go_simp; done) | (go_simp; rfl)); intro g5 hg w5 hbox hb; have n0_ := Aside0.mk (below_step HB.out hb); have n1_ := Aside0.mk (Kd.R_below (Kd.R_mono (Kd.R_bound HO.out) (fun k hk => (show k < g5 by rw [hg]; exact hk.2.2.1))) hb); have n2_ := Aside0.mk (blk_below BK.out hb); have B5 := Aside0.mk hbox; have NE5 := Aside0.mk (show gb ≠ g5 by rw [hg]; exact Nat.ne_of_lt (blk_lt BK.out)); have G5 := Aside0.mk (show w.heap.size ≤ g5 by rw [hg]; exact HB.out.size); clear HB HO BK; have HB := n0_; have HO := n1_; have BK := n2_; clear n0_ n1_ n2_ hg hbox hb; have tz0 := (blk_cell B5.out 0).trans rfl; have tf0 := blk_frozen B5.out 0; have tz1 := (blk_cell B5.out 1).trans rfl; have tf1 := blk_frozen B5.out 1))
          have B6 := Aside0.mk (show ((w5.setCell ⟨g5, 0, none⟩ (.int .i64 o3)).setCell ⟨g5, 1, none⟩ (.int .u64 c3)).heap[g5]? = some (.cells #[.int .i64 o3, .int .u64 c3] 41 (0, 0)) by refine blk_put (cs := #[.int .i64 o3, .int .u64 0]) ?_ 1 _ rfl; refine blk_put (cs := #[.int .i64 0, .int .u64 0]) ?_ 0 _ rfl; exact B5.out)
          have n0_ := Aside0.mk (show Below w.heap.size w ((w5.setCell ⟨g5, 0, none⟩ (.int .i64 o3)).setCell ⟨g5, 1, none⟩ (.int .u64 c3)) by repeat (with_reducible first | exact HB.out | refine below_set ?_ G5.out))
          have n1_ := Aside0.mk (show Kd.R (Kd.int .u8) 5 ((w5.setCell ⟨g5, 0, none⟩ (.int .i64 o3)).setCell ⟨g5, 1, none⟩ (.int .u64 c3)) w.heap.size (fun k => k < g5) u3 b by repeat (with_reducible first | exact HO.out | refine Kd.R_far (p := ⟨g5, _, none⟩) ?_ (fun k hk => Nat.ne_of_lt hk) _))
          have n2_ := Aside0.mk (show ((w5.setCell ⟨g5, 0, none⟩ (.int .i64 o3)).setCell ⟨g5, 1, none⟩ (.int .u64 c3)).heap[gb]? = some (.cells #[.int .u64 a0, .int .i64 a1, .int .i64 o0, .int .u64 c0, .int .i64 o1, .int .u64 c1, .int .i64 o2, .int .u64 c2, .int .i64 o3, .int .u64 c3, .int .i64 o4, .int .u64 c4] 44 (0, 0)) by refine blk_far ?_ NE5.out _; refine blk_far ?_ NE5.out _; exact BK.out)
          clear HB HO B5 BK tz0 tf0 tz1 tf1
          have HB := n0_
          have HO := n1_
          have BK := n2_
          clear n0_ n1_ n2_
          have sz0 := (blk_cell B6.out 0).trans rfl
          have sf0 := blk_frozen B6.out 0
          have sz1 := (blk_cell B6.out 1).trans rfl
          have sf1 := blk_frozen B6.out 1
          have n0_ := Aside0.mk (Kd.R_mono HO.out (ok' := fun _ => True) (fun _ _ => trivial))
          clear HO
          have HO := n0_
          clear n0_
          go_upto_region 10 with (fail)
          have n0_ := Aside0.mk (blk_drew B6.out)
          have n1_ := Aside0.mk (below_drew1 HB.out)
          have n2_ := Aside0.mk (Kd.R_drew HO.out)
          have n3_ := Aside0.mk (blk_drew BK.out)
          clear sz0 sf0 sz1 sf1 B6 HB HO BK
          have B6 := n0_
          have HB := n1_
          have HO := n2_
          have BK := n3_
          clear n0_ n1_ n2_ n3_
          refine start_ (n := 11) (S := fun w' => w'.cell? ⟨g5, 0, none⟩ = some (.int .i64 o3) ∧ w'.cell? ⟨g5, 1, none⟩ = some (.int .u64 c3)) (ds := []) #[false, false, false, false, false, false, false, false, false, false, false] (by kernel_rfl) rfl rfl ⟨(blk_cell B6.out 0).trans rfl, (blk_cell B6.out 1).trans rfl⟩ (fun hHeld => ?_)
          refine pure_ (i := 0) (N := some 33) (v := ?_) (a' := ?_) #[true, false, false, false, false, false, false, false, false, false, false] rfl rfl (by kernel_rfl) (fun _ _ _ h => h) (Or.inl ⟨by rfl, ?_⟩) ?_ ?_
          rotate_left
          · intro w'
            go_simp
            with_reducible rfl
          rotate_left
          · simp only [Act.put, List.setIfInBounds_toArray, List.set_cons_zero, List.set_cons_succ]
            rfl
          refine pure_ (i := 1) (N := some 34) (v := ?_) (a' := ?_) #[true, true, false, false, false, false, false, false, false, false, false] rfl rfl (by kernel_rfl) (fun _ _ _ h => h) (Or.inl ⟨by rfl, ?_⟩) ?_ ?_
          rotate_left
          · intro w'
            go_simp
            with_reducible rfl
          rotate_left
          · simp only [Act.put, List.setIfInBounds_toArray, List.set_cons_zero, List.set_cons_succ]
            rfl
          refine take_ (i := 2) (N := some 35) (v := ?_) (a' := ?_) #[true, true, true, false, false, false, false, false, false, false, false] rfl rfl (by kernel_rfl) (fun _ _ _ h => h) (Or.inl ⟨by rfl, ?_⟩) hHeld ?_ ?_
          rotate_left
          · rintro w' ⟨s0, s1⟩
            go_simp
            with_reducible rfl
          rotate_left
          · simp only [Act.put, List.setIfInBounds_toArray, List.set_cons_zero, List.set_cons_succ]
            rfl
          refine pure_ (i := 3) (N := some 36) (v := ?_) (a' := ?_) #[true, true, true, true, false, false, false, false, false, false, false] rfl rfl (by kernel_rfl) (fun _ _ _ h => h) (Or.inl ⟨by rfl, ?_⟩) ?_ ?_
          rotate_left
          · intro w'
            go_simp
            with_reducible rfl
          rotate_left
          · simp only [Act.put, List.setIfInBounds_toArray, List.set_cons_zero, List.set_cons_succ]
            rfl
          refine pure_ (i := 6) (N := some 39) (v := ?_) (a' := ?_) #[true, true, true, true, false, false, true, false, false, false, false] rfl rfl (by kernel_rfl) (fun _ _ _ h => h) (Or.inl ⟨by rfl, ?_⟩) ?_ ?_
          rotate_left
          · intro w'
            go_simp
            with_reducible rfl
          rotate_left
          · simp only [Act.put, List.setIfInBounds_toArray, List.set_cons_zero, List.set_cons_succ]
            rfl
          refine take_ (i := 7) (N := some 40) (v := ?_) (a' := ?_) #[true, true, true, true, false, false, true, true, false, false, false] rfl rfl (by kernel_rfl) (fun _ _ _ h => h) (Or.inl ⟨by rfl, ?_⟩) hHeld ?_ ?_
          rotate_left
          · rintro w' ⟨s0, s1⟩
            go_simp
            with_reducible rfl
          rotate_left
          · simp only [Act.put, List.setIfInBounds_toArray, List.set_cons_zero, List.set_cons_succ]
            rfl
          refine one_ (i := 4) (N := some 37) #[true, true, true, true, true, false, true, true, false, false, false] rfl rfl (by kernel_rfl) (by decide) (fun K hK => ?_)
          refine goes_ Try.func45 (by kernel_rfl) rfl #[.int .u64 (IntKind.u64.wrap o3), .int .i64 8] (by rfl) rfl rfl (by (try simp only [List.map_toArray, List.map_cons, List.map_nil]); first | done | rfl) ?_
          with_reducible refine (pandectref2_High.calls k _ _ y1 _ H1.out).mono ?_
          rintro e w6 ⟨v37, rfl, ho_, hb_⟩
          refine ⟨_, rfl, ?_⟩
          have n0_ := Aside0.mk (blk_below BK.out hb_)
          have n1_ := Aside0.mk (blk_below B6.out hb_)
          have n2_ := Aside0.mk (Kd.R_below HO.out hb_)
          have n3_ := Aside0.mk (below_step HB.out hb_)
          clear BK B6 HO HB
          have BK := n0_
          have B6 := n1_
          have HO := n2_
          have HB := n3_
          clear n0_ n1_ n2_ n3_
          obtain ⟨A_y1, c_y1, e_, hc_, hC_⟩ := Kd.R_reads ho_
          subst e_
          have HC_y1 := Aside0.mk hC_
          clear ho_ hb_ hc_ hC_
          refine hK.out _ _ ⟨(blk_cell B6.out 0).trans rfl, (blk_cell B6.out 1).trans rfl⟩ (fun hHeld => ?_)
          clear hK K
          refine norm_ (a' := ?_) ?_ ?_
          rotate_left
          · show Act.put _ (some 37) _ = _
            simp only [Act.put, List.setIfInBounds_toArray, List.set_cons_zero, List.set_cons_succ]
            rfl
          refine one_ (i := 5) (N := some 38) #[true, true, true, true, true, true, true, true, false, false, false] rfl rfl (by kernel_rfl) (by decide) (fun K hK => ?_)
          refine Kd.R_append_rows_step (Kd.int .u8) (w0 := w) w.heap.size (by rfl) (.tmp 33) (.tmp 37) 22 5 (.int .u8 0) 1 rfl Try.underlying22 info5 rfl (by decide) (by omega) u3 b y1 _ _ _ (fun _ => True) (fun _ => False) rfl rfl ?aO ?aR (fun _ _ h => h) (fun _ h => h.elim) ?aF ?aB ?aS ?aL ?_
          (case aR => exact HC_y1.out)
          (case aB => exact HB.out)
          (case aF => exact (fun _ _ => trivial))
          (case aO => exact HO.out)
          (case aS => exact (below_size HB.out))
          (case aL => have := LM.out; omega)
          intro v38 w7 ho hb hg hat
          have n0_ := Aside0.mk (blk_grown (g := gb) (o := .cells #[.int .u64 a0, .int .i64 a1, .int .i64 o0, .int .u64 c0, .int .i64 o1, .int .u64 c1, .int .i64 o2, .int .u64 c2, .int .i64 o3, .int .u64 c3, .int .i64 o4, .int .u64 c4] 44 (0, 0)) BK.out hg (Kd.R_ne HO.out BK.out (by decide)))
          have n1_ := Aside0.mk (blk_grown (g := g5) (o := .cells #[.int .i64 o3, .int .u64 c3] 41 (0, 0)) B6.out hg (Kd.R_ne HO.out B6.out (by decide)))
          have n2_ := Aside0.mk ho
          have n3_ := Aside0.mk hb
          clear BK B6 HO HB HC_y1
          have BK := n0_
          have B6 := n1_
          have HO := n2_
          have HB := n3_
          clear n0_ n1_ n2_ n3_ ho hb hg hat
          refine hK.out _ _ ⟨(blk_cell B6.out 0).trans rfl, (blk_cell B6.out 1).trans rfl⟩ (fun hHeld => ?_)
          clear hK K
          refine norm_ (a' := ?_) ?_ ?_
          rotate_left
          · show Act.put _ (some 38) _ = _
            simp only [Act.put, List.setIfInBounds_toArray, List.set_cons_zero, List.set_cons_succ]
            rfl
          refine one_ (i := 8) (N := some 41) #[true, true, true, true, true, true, true, true, true, false, false] rfl rfl (by kernel_rfl) (by decide) (fun K hK => ?_)
          refine goes_ Try.func45 (by kernel_rfl) rfl #[.int .u64 c3, .int .i64 8] (by rfl) rfl rfl (by (try simp only [List.map_toArray, List.map_cons, List.map_nil]); first | done | rfl) ?_
          with_reducible refine (pandectref2_High.calls k _ _ y2 _ H2.out).mono ?_
          rintro e w8 ⟨v41, rfl, ho_, hb_⟩
          refine ⟨_, rfl, ?_⟩
          have n0_ := Aside0.mk (blk_below BK.out hb_)
          have n1_ := Aside0.mk (blk_below B6.out hb_)
          have n2_ := Aside0.mk (Kd.R_below HO.out hb_)
          have n3_ := Aside0.mk (below_step HB.out hb_)
          clear BK B6 HO HB
          have BK := n0_
          have B6 := n1_
          have HO := n2_
          have HB := n3_
          clear n0_ n1_ n2_ n3_
          obtain ⟨A_y2, c_y2, e_, hc_, hC_⟩ := Kd.R_reads ho_
          subst e_
          have HC_y2 := Aside0.mk hC_
          clear ho_ hb_ hc_ hC_
          refine hK.out _ _ ⟨(blk_cell B6.out 0).trans rfl, (blk_cell B6.out 1).trans rfl⟩ (fun hHeld => ?_)
          clear hK K
          refine norm_ (a' := ?_) ?_ ?_
          rotate_left
          · show Act.put _ (some 41) _ = _
            simp only [Act.put, List.setIfInBounds_toArray, List.set_cons_zero, List.set_cons_succ]
            rfl
          refine one_ (i := 9) (N := some 42) #[true, true, true, true, true, true, true, true, true, true, false] rfl rfl (by kernel_rfl) (by decide) (fun K hK => ?_)
          refine Kd.R_append_rows_step (Kd.int .u8) (w0 := w) w.heap.size (by rfl) (.tmp 38) (.tmp 41) 22 5 (.int .u8 0) 1 rfl Try.underlying22 info5 rfl (by decide) (by omega) v38 (b ++ y1) y2 _ _ _ (fun _ => True) (fun _ => False) rfl rfl ?aO ?aR (fun _ _ h => h) (fun _ h => h.elim) ?aF ?aB ?aS ?aL ?_
          (case aR => exact HC_y2.out)
          (case aB => exact HB.out)
          (case aF => exact (fun _ _ => trivial))
          (case aO => exact HO.out)
          (case aS => exact (below_size HB.out))
          (case aL => have := LM.out; rw [List.length_append]; omega)
          intro v42 w9 ho hb hg hat
          have n0_ := Aside0.mk (blk_grown (g := gb) (o := .cells #[.int .u64 a0, .int .i64 a1, .int .i64 o0, .int .u64 c0, .int .i64 o1, .int .u64 c1, .int .i64 o2, .int .u64 c2, .int .i64 o3, .int .u64 c3, .int .i64 o4, .int .u64 c4] 44 (0, 0)) BK.out hg (Kd.R_ne HO.out BK.out (by decide)))
          have n1_ := Aside0.mk (blk_grown (g := g5) (o := .cells #[.int .i64 o3, .int .u64 c3] 41 (0, 0)) B6.out hg (Kd.R_ne HO.out B6.out (by decide)))
          have n2_ := Aside0.mk ho
          have n3_ := Aside0.mk hb
          clear BK B6 HO HB HC_y2
          have BK := n0_
          have B6 := n1_
          have HO := n2_
          have HB := n3_
          clear n0_ n1_ n2_ n3_ ho hb hg hat
          refine hK.out _ _ ⟨(blk_cell B6.out 0).trans rfl, (blk_cell B6.out 1).trans rfl⟩ (fun hHeld => ?_)
          clear hK K
          refine norm_ (a' := ?_) ?_ ?_
          rotate_left
          · show Act.put _ (some 42) _ = _
            simp only [Act.put, List.setIfInBounds_toArray, List.set_cons_zero, List.set_cons_succ]
            rfl
          refine pure_ (i := 10) (N := some 3) (v := ?_) (a' := ?_) #[true, true, true, true, true, true, true, true, true, true, true] rfl rfl (by kernel_rfl) (fun _ _ _ h => h) (Or.inl ⟨by rfl, ?_⟩) ?_ ?_
          rotate_left
          · intro w'
            go_simp
            with_reducible rfl
          rotate_left
          · simp only [Act.put, List.setIfInBounds_toArray, List.set_cons_zero, List.set_cons_succ]
            rfl
          refine done_ (by kernel_rfl) ?_
          go_wp2_with (fail)
          go_roundg 1
          case measure => omega
          case rel => exact ⟨b ++ y1 ++ y2, 4, (by first | rfl | kernel_rfl), ⟨by have := HI.out; omega⟩, ⟨by decide⟩, HG, BK, HO, HB⟩
    | 3 =>
      obtain rfl : i = 2 := by have := HI.out; omega
      have H : (if o2 < 0 then some [] else if (o2 == 0) != (c2 == 0) then some [] else (pandectref2_High.f k (IntKind.u64.wrap o2) 8).bind fun y1 => (pandectref2_High.f k c2 8).bind fun y2 => if b.length + y1.length + y2.length ≤ 1000 then pandectref6_PutRoot.go k [(o3, c3), (o4, c4)] (b ++ y1 ++ y2) else none) = some r := HG.out
      clear HG
      have rz0 := (blk_cell BK.out 0).trans rfl
      have rf0 := blk_frozen BK.out 0
      have rz1 := (blk_cell BK.out 1).trans rfl
      have rf1 := blk_frozen BK.out 1
      have rz2 := (blk_cell BK.out 2).trans rfl
      have rf2 := blk_frozen BK.out 2
      have rz3 := (blk_cell BK.out 3).trans rfl
      have rf3 := blk_frozen BK.out 3
      have rz4 := (blk_cell BK.out 4).trans rfl
      have rf4 := blk_frozen BK.out 4
      have rz5 := (blk_cell BK.out 5).trans rfl
      have rf5 := blk_frozen BK.out 5
      have rz6 := (blk_cell BK.out 6).trans rfl
      have rf6 := blk_frozen BK.out 6
      have rz7 := (blk_cell BK.out 7).trans rfl
      have rf7 := blk_frozen BK.out 7
      have rz8 := (blk_cell BK.out 8).trans rfl
      have rf8 := blk_frozen BK.out 8
      have rz9 := (blk_cell BK.out 9).trans rfl
      have rf9 := blk_frozen BK.out 9
      have rz10 := (blk_cell BK.out 10).trans rfl
      have rf10 := blk_frozen BK.out 10
      have rz11 := (blk_cell BK.out 11).trans rfl
      have rf11 := blk_frozen BK.out 11
      by_cases d1 : o2 < 0
      · rw [if_pos d1] at H
        have e1 := decide_eq_true d1
        clear d1
        obtain rfl := Option.some.inj (H : some [] = some r)
        go_upto_region 8 with (first | ((with_reducible refine gate_dst (N := 5) rfl ?_); (try (refine gate_guard (by rfl) ?_; dsimp only)); refine box_event ?hg (N := 5) ?hd (cs := #[.int .i64 0, .int .u64 0]) (t := 41) ?hr ?_; (case hd => rfl); (case hg => rfl); (case hr => first | (go_simp; done) | (go_simp; rfl)); intro g5 hg w5 hbox hb; have n0_ := Aside0.mk (below_step HB.out hb); have n1_ := Aside0.mk (Kd.R_below (Kd.R_mono (Kd.R_bound HO.out) (fun k hk => (show k < g5 by rw [hg]; exact hk.2.2.1))) hb); have n2_ := Aside0.mk (blk_below BK.out hb); have B5 := Aside0.mk hbox; have NE5 := Aside0.mk (show gb ≠ g5 by rw [hg]; exact Nat.ne_of_lt (blk_lt BK.out)); have G5 := Aside0.mk (show w.heap.size ≤ g5 by rw [hg]; exact HB.out.size); clear HB HO BK; have HB := n0_; have HO := n1_; have BK := n2_; clear n0_ n1_ n2_ hg hbox hb; have tz0 := (blk_cell B5.out 0).trans rfl; have tf0 := blk_frozen B5.out 0; have tz1 := (blk_cell B5.out 1).trans rfl; have tf1 := blk_frozen B5.out 1))
        have B6 := Aside0.mk (show ((w5.setCell ⟨g5, 0, none⟩ (.int .i64 o2)).setCell ⟨g5, 1, none⟩ (.int .u64 c2)).heap[g5]? = some (.cells #[.int .i64 o2, .int .u64 c2] 41 (0, 0)) by refine blk_put (cs := #[.int .i64 o2, .int .u64 0]) ?_ 1 _ rfl; refine blk_put (cs := #[.int .i64 0, .int .u64 0]) ?_ 0 _ rfl; exact B5.out)
        have n0_ := Aside0.mk (show Below w.heap.size w ((w5.setCell ⟨g5, 0, none⟩ (.int .i64 o2)).setCell ⟨g5, 1, none⟩ (.int .u64 c2)) by repeat (with_reducible first | exact HB.out | refine below_set ?_ G5.out))
        have n1_ := Aside0.mk (show Kd.R (Kd.int .u8) 5 ((w5.setCell ⟨g5, 0, none⟩ (.int .i64 o2)).setCell ⟨g5, 1, none⟩ (.int .u64 c2)) w.heap.size (fun k => k < g5) u3 b by repeat (with_reducible first | exact HO.out | refine Kd.R_far (p := ⟨g5, _, none⟩) ?_ (fun k hk => Nat.ne_of_lt hk) _))
        have n2_ := Aside0.mk (show ((w5.setCell ⟨g5, 0, none⟩ (.int .i64 o2)).setCell ⟨g5, 1, none⟩ (.int .u64 c2)).heap[gb]? = some (.cells #[.int .u64 a0, .int .i64 a1, .int .i64 o0, .int .u64 c0, .int .i64 o1, .int .u64 c1, .int .i64 o2, .int .u64 c2, .int .i64 o3, .int .u64 c3, .int .i64 o4, .int .u64 c4] 44 (0, 0)) by refine blk_far ?_ NE5.out _; refine blk_far ?_ NE5.out _; exact BK.out)
        clear HB HO B5 BK tz0 tf0 tz1 tf1
        have HB := n0_
        have HO := n1_
        have BK := n2_
        clear n0_ n1_ n2_
        have sz0 := (blk_cell B6.out 0).trans rfl
        have sf0 := blk_frozen B6.out 0
        have sz1 := (blk_cell B6.out 1).trans rfl
        have sf1 := blk_frozen B6.out 1
        go_wp2_with (fail)
        go_ret
        exact ⟨_, rfl, Kd.R_nil _ _ _ _ _, HB.out⟩
      · rw [if_neg d1] at H
        have e1 := decide_eq_false d1
        clear d1
        obtain ⟨p, hp⟩ : ∃ p, (o2 == 0) = p := ⟨_, rfl⟩
        obtain ⟨q, hq⟩ : ∃ q, (c2 == 0) = q := ⟨_, rfl⟩
        rw [hp, hq] at H
        rcases p with _ | _ <;> rcases q with _ | _
        · obtain ⟨y1, h1, hn⟩ := Option.bind_eq_some_iff.mp H
          clear H
          obtain ⟨y2, h2, H⟩ := Option.bind_eq_some_iff.mp hn
          clear hn
          by_cases hl : b.length + y1.length + y2.length ≤ 1000
          case neg => rw [if_neg hl] at H; cases H
          rw [if_pos hl] at H
          have LM := Aside0.mk hl
          have H1 := Aside0.mk h1
          have H2 := Aside0.mk h2
          have HG := Aside0.mk H
          clear H h1 h2 hl
          go_upto_region 8 with (first | ((with_reducible refine gate_dst (N := 5) rfl ?_); (try (refine gate_guard (by rfl) ?_; dsimp only)); refine box_event ?hg (N := 5) ?hd (cs := #[.int .i64 0, .int .u64 0]) (t := 41) ?hr ?_; (case hd => rfl); (case hg => rfl); (case hr => first | (go_simp; done) | (go_simp; rfl)); intro g5 hg w5 hbox hb; have n0_ := Aside0.mk (below_step HB.out hb); have n1_ := Aside0.mk (Kd.R_below (Kd.R_mono (Kd.R_bound HO.out) (fun k hk => (show k < g5 by rw [hg]; exact hk.2.2.1))) hb); have n2_ := Aside0.mk (blk_below BK.out hb); have B5 := Aside0.mk hbox; have NE5 := Aside0.mk (show gb ≠ g5 by rw [hg]; exact Nat.ne_of_lt (blk_lt BK.out)); have G5 := Aside0.mk (show w.heap.size ≤ g5 by rw [hg]; exact HB.out.size); clear HB HO BK; have HB := n0_; have HO := n1_; have BK := n2_; clear n0_ n1_ n2_ hg hbox hb; have tz0 := (blk_cell B5.out 0).trans rfl; have tf0 := blk_frozen B5.out 0; have tz1 := (blk_cell B5.out 1).trans rfl; have tf1 := blk_frozen B5.out 1))
          have B6 := Aside0.mk (show ((w5.setCell ⟨g5, 0, none⟩ (.int .i64 o2)).setCell ⟨g5, 1, none⟩ (.int .u64 c2)).heap[g5]? = some (.cells #[.int .i64 o2, .int .u64 c2] 41 (0, 0)) by refine blk_put (cs := #[.int .i64 o2, .int .u64 0]) ?_ 1 _ rfl; refine blk_put (cs := #[.int .i64 0, .int .u64 0]) ?_ 0 _ rfl; exact B5.out)
          have n0_ := Aside0.mk (show Below w.heap.size w ((w5.setCell ⟨g5, 0, none⟩ (.int .i64 o2)).setCell ⟨g5, 1, none⟩ (.int .u64 c2)) by repeat (with_reducible first | exact HB.out | refine below_set ?_ G5.out))
          have n1_ := Aside0.mk (show Kd.R (Kd.int .u8) 5 ((w5.setCell ⟨g5, 0, none⟩ (.int .i64 o2)).setCell ⟨g5, 1, none⟩ (.int .u64 c2)) w.heap.size (fun k => k < g5) u3 b by repeat (with_reducible first | exact HO.out | refine Kd.R_far (p := ⟨g5, _, none⟩) ?_ (fun k hk => Nat.ne_of_lt hk) _))
          have n2_ := Aside0.mk (show ((w5.setCell ⟨g5, 0, none⟩ (.int .i64 o2)).setCell ⟨g5, 1, none⟩ (.int .u64 c2)).heap[gb]? = some (.cells #[.int .u64 a0, .int .i64 a1, .int .i64 o0, .int .u64 c0, .int .i64 o1, .int .u64 c1, .int .i64 o2, .int .u64 c2, .int .i64 o3, .int .u64 c3, .int .i64 o4, .int .u64 c4] 44 (0, 0)) by refine blk_far ?_ NE5.out _; refine blk_far ?_ NE5.out _; exact BK.out)
          clear HB HO B5 BK tz0 tf0 tz1 tf1
          have HB := n0_
          have HO := n1_
          have BK := n2_
          clear n0_ n1_ n2_
          have sz0 := (blk_cell B6.out 0).trans rfl
          have sf0 := blk_frozen B6.out 0
          have sz1 := (blk_cell B6.out 1).trans rfl
          have sf1 := blk_frozen B6.out 1
          have n0_ := Aside0.mk (Kd.R_mono HO.out (ok' := fun _ => True) (fun _ _ => trivial))
          clear HO
          have HO := n0_
          clear n0_
          go_upto_region 10 with (fail)
          have n0_ := Aside0.mk (blk_drew B6.out)
          have n1_ := Aside0.mk (below_drew1 HB.out)
          have n2_ := Aside0.mk (Kd.R_drew HO.out)
          have n3_ := Aside0.mk (blk_drew BK.out)
          clear sz0 sf0 sz1 sf1 B6 HB HO BK
          have B6 := n0_
          have HB := n1_
          have HO := n2_
          have BK := n3_
          clear n0_ n1_ n2_ n3_
          refine start_ (n := 11) (S := fun w' => w'.cell? ⟨g5, 0, none⟩ = some (.int .i64 o2) ∧ w'.cell? ⟨g5, 1, none⟩ = some (.int .u64 c2)) (ds := []) #[false, false, false, false, false, false, false, false, false, false, false] (by kernel_rfl) rfl rfl ⟨(blk_cell B6.out 0).trans rfl, (blk_cell B6.out 1).trans rfl⟩ (fun hHeld => ?_)
          refine pure_ (i := 0) (N := some 33) (v := ?_) (a' := ?_) #[true, false, false, false, false, false, false, false, false, false, false] rfl rfl (by kernel_rfl) (fun _ _ _ h => h) (Or.inl ⟨by rfl, ?_⟩) ?_ ?_
          rotate_left
          · intro w'
            go_simp
            with_reducible rfl
          rotate_left
          · simp only [Act.put, List.setIfInBounds_toArray, List.set_cons_zero, List.set_cons_succ]
            rfl
          refine pure_ (i := 1) (N := some 34) (v := ?_) (a' := ?_) #[true, true, false, false, false, false, false, false, false, false, false] rfl rfl (by kernel_rfl) (fun _ _ _ h => h) (Or.inl ⟨by rfl, ?_⟩) ?_ ?_
          rotate_left
          · intro w'
            go_simp
            with_reducible rfl
          rotate_left
          · simp only [Act.put, List.setIfInBounds_toArray, List.set_cons_zero, List.set_cons_succ]
            rfl
          refine take_ (i := 2) (N := some 35) (v := ?_) (a' := ?_) #[true, true, true, false, false, false, false, false, false, false, false] rfl rfl (by kernel_rfl) (fun _ _ _ h => h) (Or.inl ⟨by rfl, ?_⟩) hHeld ?_ ?_
          rotate_left
          · rintro w' ⟨s0, s1⟩
            go_simp
            with_reducible rfl
          rotate_left
          · simp only [Act.put, List.setIfInBounds_toArray, List.set_cons_zero, List.set_cons_succ]
            rfl
          refine pure_ (i := 3) (N := some 36) (v := ?_) (a' := ?_) #[true, true, true, true, false, false, false, false, false, false, false] rfl rfl (by kernel_rfl) (fun _ _ _ h => h) (Or.inl ⟨by rfl, ?_⟩) ?_ ?_
          rotate_left
          · intro w'
            go_simp
            with_reducible rfl
          rotate_left
          · simp only [Act.put, List.setIfInBounds_toArray, List.set_cons_zero, List.set_cons_succ]
            rfl
          refine pure_ (i := 6) (N := some 39) (v := ?_) (a' := ?_) #[true, true, true, true, false, false, true, false, false, false, false] rfl rfl (by kernel_rfl) (fun _ _ _ h => h) (Or.inl ⟨by rfl, ?_⟩) ?_ ?_
          rotate_left
          · intro w'
            go_simp
            with_reducible rfl
          rotate_left
          · simp only [Act.put, List.setIfInBounds_toArray, List.set_cons_zero, List.set_cons_succ]
            rfl
          refine take_ (i := 7) (N := some 40) (v := ?_) (a' := ?_) #[true, true, true, true, false, false, true, true, false, false, false] rfl rfl (by kernel_rfl) (fun _ _ _ h => h) (Or.inl ⟨by rfl, ?_⟩) hHeld ?_ ?_
          rotate_left
          · rintro w' ⟨s0, s1⟩
            go_simp
            with_reducible rfl
          rotate_left
          · simp only [Act.put, List.setIfInBounds_toArray, List.set_cons_zero, List.set_cons_succ]
            rfl
          refine one_ (i := 4) (N := some 37) #[true, true, true, true, true, false, true, true, false, false, false] rfl rfl (by kernel_rfl) (by decide) (fun K hK => ?_)
          refine goes_ Try.func45 (by kernel_rfl) rfl #[.int .u64 (IntKind.u64.wrap o2), .int .i64 8] (by rfl) rfl rfl (by (try simp only [List.map_toArray, List.map_cons, List.map_nil]); first | done | rfl) ?_
          with_reducible refine (pandectref2_High.calls k _ _ y1 _ H1.out).mono ?_
          rintro e w6 ⟨v37, rfl, ho_, hb_⟩
          refine ⟨_, rfl, ?_⟩
          have n0_ := Aside0.mk (blk_below BK.out hb_)
          have n1_ := Aside0.mk (blk_below B6.out hb_)
          have n2_ := Aside0.mk (Kd.R_below HO.out hb_)
          have n3_ := Aside0.mk (below_step HB.out hb_)
          clear BK B6 HO HB
          have BK := n0_
          have B6 := n1_
          have HO := n2_
          have HB := n3_
          clear n0_ n1_ n2_ n3_
          obtain ⟨A_y1, c_y1, e_, hc_, hC_⟩ := Kd.R_reads ho_
          subst e_
          have HC_y1 := Aside0.mk hC_
          clear ho_ hb_ hc_ hC_
          refine hK.out _ _ ⟨(blk_cell B6.out 0).trans rfl, (blk_cell B6.out 1).trans rfl⟩ (fun hHeld => ?_)
          clear hK K
          refine norm_ (a' := ?_) ?_ ?_
          rotate_left
          · show Act.put _ (some 37) _ = _
            simp only [Act.put, List.setIfInBounds_toArray, List.set_cons_zero, List.set_cons_succ]
            rfl
          refine one_ (i := 5) (N := some 38) #[true, true, true, true, true, true, true, true, false, false, false] rfl rfl (by kernel_rfl) (by decide) (fun K hK => ?_)
          refine Kd.R_append_rows_step (Kd.int .u8) (w0 := w) w.heap.size (by rfl) (.tmp 33) (.tmp 37) 22 5 (.int .u8 0) 1 rfl Try.underlying22 info5 rfl (by decide) (by omega) u3 b y1 _ _ _ (fun _ => True) (fun _ => False) rfl rfl ?aO ?aR (fun _ _ h => h) (fun _ h => h.elim) ?aF ?aB ?aS ?aL ?_
          (case aR => exact HC_y1.out)
          (case aB => exact HB.out)
          (case aF => exact (fun _ _ => trivial))
          (case aO => exact HO.out)
          (case aS => exact (below_size HB.out))
          (case aL => have := LM.out; omega)
          intro v38 w7 ho hb hg hat
          have n0_ := Aside0.mk (blk_grown (g := gb) (o := .cells #[.int .u64 a0, .int .i64 a1, .int .i64 o0, .int .u64 c0, .int .i64 o1, .int .u64 c1, .int .i64 o2, .int .u64 c2, .int .i64 o3, .int .u64 c3, .int .i64 o4, .int .u64 c4] 44 (0, 0)) BK.out hg (Kd.R_ne HO.out BK.out (by decide)))
          have n1_ := Aside0.mk (blk_grown (g := g5) (o := .cells #[.int .i64 o2, .int .u64 c2] 41 (0, 0)) B6.out hg (Kd.R_ne HO.out B6.out (by decide)))
          have n2_ := Aside0.mk ho
          have n3_ := Aside0.mk hb
          clear BK B6 HO HB HC_y1
          have BK := n0_
          have B6 := n1_
          have HO := n2_
          have HB := n3_
          clear n0_ n1_ n2_ n3_ ho hb hg hat
          refine hK.out _ _ ⟨(blk_cell B6.out 0).trans rfl, (blk_cell B6.out 1).trans rfl⟩ (fun hHeld => ?_)
          clear hK K
          refine norm_ (a' := ?_) ?_ ?_
          rotate_left
          · show Act.put _ (some 38) _ = _
            simp only [Act.put, List.setIfInBounds_toArray, List.set_cons_zero, List.set_cons_succ]
            rfl
          refine one_ (i := 8) (N := some 41) #[true, true, true, true, true, true, true, true, true, false, false] rfl rfl (by kernel_rfl) (by decide) (fun K hK => ?_)
          refine goes_ Try.func45 (by kernel_rfl) rfl #[.int .u64 c2, .int .i64 8] (by rfl) rfl rfl (by (try simp only [List.map_toArray, List.map_cons, List.map_nil]); first | done | rfl) ?_
          with_reducible refine (pandectref2_High.calls k _ _ y2 _ H2.out).mono ?_
          rintro e w8 ⟨v41, rfl, ho_, hb_⟩
          refine ⟨_, rfl, ?_⟩
          have n0_ := Aside0.mk (blk_below BK.out hb_)
          have n1_ := Aside0.mk (blk_below B6.out hb_)
          have n2_ := Aside0.mk (Kd.R_below HO.out hb_)
          have n3_ := Aside0.mk (below_step HB.out hb_)
          clear BK B6 HO HB
          have BK := n0_
          have B6 := n1_
          have HO := n2_
          have HB := n3_
          clear n0_ n1_ n2_ n3_
          obtain ⟨A_y2, c_y2, e_, hc_, hC_⟩ := Kd.R_reads ho_
          subst e_
          have HC_y2 := Aside0.mk hC_
          clear ho_ hb_ hc_ hC_
          refine hK.out _ _ ⟨(blk_cell B6.out 0).trans rfl, (blk_cell B6.out 1).trans rfl⟩ (fun hHeld => ?_)
          clear hK K
          refine norm_ (a' := ?_) ?_ ?_
          rotate_left
          · show Act.put _ (some 41) _ = _
            simp only [Act.put, List.setIfInBounds_toArray, List.set_cons_zero, List.set_cons_succ]
            rfl
          refine one_ (i := 9) (N := some 42) #[true, true, true, true, true, true, true, true, true, true, false] rfl rfl (by kernel_rfl) (by decide) (fun K hK => ?_)
          refine Kd.R_append_rows_step (Kd.int .u8) (w0 := w) w.heap.size (by rfl) (.tmp 38) (.tmp 41) 22 5 (.int .u8 0) 1 rfl Try.underlying22 info5 rfl (by decide) (by omega) v38 (b ++ y1) y2 _ _ _ (fun _ => True) (fun _ => False) rfl rfl ?aO ?aR (fun _ _ h => h) (fun _ h => h.elim) ?aF ?aB ?aS ?aL ?_
          (case aR => exact HC_y2.out)
          (case aB => exact HB.out)
          (case aF => exact (fun _ _ => trivial))
          (case aO => exact HO.out)
          (case aS => exact (below_size HB.out))
          (case aL => have := LM.out; rw [List.length_append]; omega)
          intro v42 w9 ho hb hg hat
          have n0_ := Aside0.mk (blk_grown (g := gb) (o := .cells #[.int .u64 a0, .int .i64 a1, .int .i64 o0, .int .u64 c0, .int .i64 o1, .int .u64 c1, .int .i64 o2, .int .u64 c2, .int .i64 o3, .int .u64 c3, .int .i64 o4, .int .u64 c4] 44 (0, 0)) BK.out hg (Kd.R_ne HO.out BK.out (by decide)))
          have n1_ := Aside0.mk (blk_grown (g := g5) (o := .cells #[.int .i64 o2, .int .u64 c2] 41 (0, 0)) B6.out hg (Kd.R_ne HO.out B6.out (by decide)))
          have n2_ := Aside0.mk ho
          have n3_ := Aside0.mk hb
          clear BK B6 HO HB HC_y2
          have BK := n0_
          have B6 := n1_
          have HO := n2_
          have HB := n3_
          clear n0_ n1_ n2_ n3_ ho hb hg hat
          refine hK.out _ _ ⟨(blk_cell B6.out 0).trans rfl, (blk_cell B6.out 1).trans rfl⟩ (fun hHeld => ?_)
          clear hK K
          refine norm_ (a' := ?_) ?_ ?_
          rotate_left
          · show Act.put _ (some 42) _ = _
            simp only [Act.put, List.setIfInBounds_toArray, List.set_cons_zero, List.set_cons_succ]
            rfl
          refine pure_ (i := 10) (N := some 3) (v := ?_) (a' := ?_) #[true, true, true, true, true, true, true, true, true, true, true] rfl rfl (by kernel_rfl) (fun _ _ _ h => h) (Or.inl ⟨by rfl, ?_⟩) ?_ ?_
          rotate_left
          · intro w'
            go_simp
            with_reducible rfl
          rotate_left
          · simp only [Act.put, List.setIfInBounds_toArray, List.set_cons_zero, List.set_cons_succ]
            rfl
          refine done_ (by kernel_rfl) ?_
          go_wp2_with (fail)
          go_roundg 2
          case measure => omega
          case rel => exact ⟨b ++ y1 ++ y2, 3, (by first | rfl | kernel_rfl), ⟨by have := HI.out; omega⟩, ⟨by decide⟩, HG, BK, HO, HB⟩
        · obtain rfl := Option.some.inj (H : some [] = some r)
          go_upto_region 8 with (first | ((with_reducible refine gate_dst (N := 5) rfl ?_); (try (refine gate_guard (by rfl) ?_; dsimp only)); refine box_event ?hg (N := 5) ?hd (cs := #[.int .i64 0, .int .u64 0]) (t := 41) ?hr ?_; (case hd => rfl); (case hg => rfl); (case hr => first | (go_simp; done) | (go_simp; rfl)); intro g5 hg w5 hbox hb; have n0_ := Aside0.mk (below_step HB.out hb); have n1_ := Aside0.mk (Kd.R_below (Kd.R_mono (Kd.R_bound HO.out) (fun k hk => (show k < g5 by rw [hg]; exact hk.2.2.1))) hb); have n2_ := Aside0.mk (blk_below BK.out hb); have B5 := Aside0.mk hbox; have NE5 := Aside0.mk (show gb ≠ g5 by rw [hg]; exact Nat.ne_of_lt (blk_lt BK.out)); have G5 := Aside0.mk (show w.heap.size ≤ g5 by rw [hg]; exact HB.out.size); clear HB HO BK; have HB := n0_; have HO := n1_; have BK := n2_; clear n0_ n1_ n2_ hg hbox hb; have tz0 := (blk_cell B5.out 0).trans rfl; have tf0 := blk_frozen B5.out 0; have tz1 := (blk_cell B5.out 1).trans rfl; have tf1 := blk_frozen B5.out 1))
          have B6 := Aside0.mk (show ((w5.setCell ⟨g5, 0, none⟩ (.int .i64 o2)).setCell ⟨g5, 1, none⟩ (.int .u64 c2)).heap[g5]? = some (.cells #[.int .i64 o2, .int .u64 c2] 41 (0, 0)) by refine blk_put (cs := #[.int .i64 o2, .int .u64 0]) ?_ 1 _ rfl; refine blk_put (cs := #[.int .i64 0, .int .u64 0]) ?_ 0 _ rfl; exact B5.out)
          have n0_ := Aside0.mk (show Below w.heap.size w ((w5.setCell ⟨g5, 0, none⟩ (.int .i64 o2)).setCell ⟨g5, 1, none⟩ (.int .u64 c2)) by repeat (with_reducible first | exact HB.out | refine below_set ?_ G5.out))
          have n1_ := Aside0.mk (show Kd.R (Kd.int .u8) 5 ((w5.setCell ⟨g5, 0, none⟩ (.int .i64 o2)).setCell ⟨g5, 1, none⟩ (.int .u64 c2)) w.heap.size (fun k => k < g5) u3 b by repeat (with_reducible first | exact HO.out | refine Kd.R_far (p := ⟨g5, _, none⟩) ?_ (fun k hk => Nat.ne_of_lt hk) _))
          have n2_ := Aside0.mk (show ((w5.setCell ⟨g5, 0, none⟩ (.int .i64 o2)).setCell ⟨g5, 1, none⟩ (.int .u64 c2)).heap[gb]? = some (.cells #[.int .u64 a0, .int .i64 a1, .int .i64 o0, .int .u64 c0, .int .i64 o1, .int .u64 c1, .int .i64 o2, .int .u64 c2, .int .i64 o3, .int .u64 c3, .int .i64 o4, .int .u64 c4] 44 (0, 0)) by refine blk_far ?_ NE5.out _; refine blk_far ?_ NE5.out _; exact BK.out)
          clear HB HO B5 BK tz0 tf0 tz1 tf1
          have HB := n0_
          have HO := n1_
          have BK := n2_
          clear n0_ n1_ n2_
          have sz0 := (blk_cell B6.out 0).trans rfl
          have sf0 := blk_frozen B6.out 0
          have sz1 := (blk_cell B6.out 1).trans rfl
          have sf1 := blk_frozen B6.out 1
          go_wp2_with (fail)
          go_ret
          exact ⟨_, rfl, Kd.R_nil _ _ _ _ _, HB.out⟩
        · obtain rfl := Option.some.inj (H : some [] = some r)
          go_upto_region 8 with (first | ((with_reducible refine gate_dst (N := 5) rfl ?_); (try (refine gate_guard (by rfl) ?_; dsimp only)); refine box_event ?hg (N := 5) ?hd (cs := #[.int .i64 0, .int .u64 0]) (t := 41) ?hr ?_; (case hd => rfl); (case hg => rfl); (case hr => first | (go_simp; done) | (go_simp; rfl)); intro g5 hg w5 hbox hb; have n0_ := Aside0.mk (below_step HB.out hb); have n1_ := Aside0.mk (Kd.R_below (Kd.R_mono (Kd.R_bound HO.out) (fun k hk => (show k < g5 by rw [hg]; exact hk.2.2.1))) hb); have n2_ := Aside0.mk (blk_below BK.out hb); have B5 := Aside0.mk hbox; have NE5 := Aside0.mk (show gb ≠ g5 by rw [hg]; exact Nat.ne_of_lt (blk_lt BK.out)); have G5 := Aside0.mk (show w.heap.size ≤ g5 by rw [hg]; exact HB.out.size); clear HB HO BK; have HB := n0_; have HO := n1_; have BK := n2_; clear n0_ n1_ n2_ hg hbox hb; have tz0 := (blk_cell B5.out 0).trans rfl; have tf0 := blk_frozen B5.out 0; have tz1 := (blk_cell B5.out 1).trans rfl; have tf1 := blk_frozen B5.out 1))
          have B6 := Aside0.mk (show ((w5.setCell ⟨g5, 0, none⟩ (.int .i64 o2)).setCell ⟨g5, 1, none⟩ (.int .u64 c2)).heap[g5]? = some (.cells #[.int .i64 o2, .int .u64 c2] 41 (0, 0)) by refine blk_put (cs := #[.int .i64 o2, .int .u64 0]) ?_ 1 _ rfl; refine blk_put (cs := #[.int .i64 0, .int .u64 0]) ?_ 0 _ rfl; exact B5.out)
          have n0_ := Aside0.mk (show Below w.heap.size w ((w5.setCell ⟨g5, 0, none⟩ (.int .i64 o2)).setCell ⟨g5, 1, none⟩ (.int .u64 c2)) by repeat (with_reducible first | exact HB.out | refine below_set ?_ G5.out))
          have n1_ := Aside0.mk (show Kd.R (Kd.int .u8) 5 ((w5.setCell ⟨g5, 0, none⟩ (.int .i64 o2)).setCell ⟨g5, 1, none⟩ (.int .u64 c2)) w.heap.size (fun k => k < g5) u3 b by repeat (with_reducible first | exact HO.out | refine Kd.R_far (p := ⟨g5, _, none⟩) ?_ (fun k hk => Nat.ne_of_lt hk) _))
          have n2_ := Aside0.mk (show ((w5.setCell ⟨g5, 0, none⟩ (.int .i64 o2)).setCell ⟨g5, 1, none⟩ (.int .u64 c2)).heap[gb]? = some (.cells #[.int .u64 a0, .int .i64 a1, .int .i64 o0, .int .u64 c0, .int .i64 o1, .int .u64 c1, .int .i64 o2, .int .u64 c2, .int .i64 o3, .int .u64 c3, .int .i64 o4, .int .u64 c4] 44 (0, 0)) by refine blk_far ?_ NE5.out _; refine blk_far ?_ NE5.out _; exact BK.out)
          clear HB HO B5 BK tz0 tf0 tz1 tf1
          have HB := n0_
          have HO := n1_
          have BK := n2_
          clear n0_ n1_ n2_
          have sz0 := (blk_cell B6.out 0).trans rfl
          have sf0 := blk_frozen B6.out 0
          have sz1 := (blk_cell B6.out 1).trans rfl
          have sf1 := blk_frozen B6.out 1
          go_wp2_with (fail)
          go_ret
          exact ⟨_, rfl, Kd.R_nil _ _ _ _ _, HB.out⟩
        · obtain ⟨y1, h1, hn⟩ := Option.bind_eq_some_iff.mp H
          clear H
          obtain ⟨y2, h2, H⟩ := Option.bind_eq_some_iff.mp hn
          clear hn
          by_cases hl : b.length + y1.length + y2.length ≤ 1000
          case neg => rw [if_neg hl] at H; cases H
          rw [if_pos hl] at H
          have LM := Aside0.mk hl
          have H1 := Aside0.mk h1
          have H2 := Aside0.mk h2
          have HG := Aside0.mk H
          clear H h1 h2 hl
          go_upto_region 8 with (first | ((with_reducible refine gate_dst (N := 5) rfl ?_); (try (refine gate_guard (by rfl) ?_; dsimp only)); refine box_event ?hg (N := 5) ?hd (cs := #[.int .i64 0, .int .u64 0]) (t := 41) ?hr ?_; (case hd => rfl); (case hg => rfl); (case hr => first | (go_simp; done) | (go_simp; rfl)); intro g5 hg w5 hbox hb; have n0_ := Aside0.mk (below_step HB.out hb); have n1_ := Aside0.mk (Kd.R_below (Kd.R_mono (Kd.R_bound HO.out) (fun k hk => (show k < g5 by rw [hg]; exact hk.2.2.1))) hb); have n2_ := Aside0.mk (blk_below BK.out hb); have B5 := Aside0.mk hbox; have NE5 := Aside0.mk (show gb ≠ g5 by rw [hg]; exact Nat.ne_of_lt (blk_lt BK.out)); have G5 := Aside0.mk (show w.heap.size ≤ g5 by rw [hg]; exact HB.out.size); clear HB HO BK; have HB := n0_; have HO := n1_; have BK := n2_; clear n0_ n1_ n2_ hg hbox hb; have tz0 := (blk_cell B5.out 0).trans rfl; have tf0 := blk_frozen B5.out 0; have tz1 := (blk_cell B5.out 1).trans rfl; have tf1 := blk_frozen B5.out 1))
          have B6 := Aside0.mk (show ((w5.setCell ⟨g5, 0, none⟩ (.int .i64 o2)).setCell ⟨g5, 1, none⟩ (.int .u64 c2)).heap[g5]? = some (.cells #[.int .i64 o2, .int .u64 c2] 41 (0, 0)) by refine blk_put (cs := #[.int .i64 o2, .int .u64 0]) ?_ 1 _ rfl; refine blk_put (cs := #[.int .i64 0, .int .u64 0]) ?_ 0 _ rfl; exact B5.out)
          have n0_ := Aside0.mk (show Below w.heap.size w ((w5.setCell ⟨g5, 0, none⟩ (.int .i64 o2)).setCell ⟨g5, 1, none⟩ (.int .u64 c2)) by repeat (with_reducible first | exact HB.out | refine below_set ?_ G5.out))
          have n1_ := Aside0.mk (show Kd.R (Kd.int .u8) 5 ((w5.setCell ⟨g5, 0, none⟩ (.int .i64 o2)).setCell ⟨g5, 1, none⟩ (.int .u64 c2)) w.heap.size (fun k => k < g5) u3 b by repeat (with_reducible first | exact HO.out | refine Kd.R_far (p := ⟨g5, _, none⟩) ?_ (fun k hk => Nat.ne_of_lt hk) _))
          have n2_ := Aside0.mk (show ((w5.setCell ⟨g5, 0, none⟩ (.int .i64 o2)).setCell ⟨g5, 1, none⟩ (.int .u64 c2)).heap[gb]? = some (.cells #[.int .u64 a0, .int .i64 a1, .int .i64 o0, .int .u64 c0, .int .i64 o1, .int .u64 c1, .int .i64 o2, .int .u64 c2, .int .i64 o3, .int .u64 c3, .int .i64 o4, .int .u64 c4] 44 (0, 0)) by refine blk_far ?_ NE5.out _; refine blk_far ?_ NE5.out _; exact BK.out)
          clear HB HO B5 BK tz0 tf0 tz1 tf1
          have HB := n0_
          have HO := n1_
          have BK := n2_
          clear n0_ n1_ n2_
          have sz0 := (blk_cell B6.out 0).trans rfl
          have sf0 := blk_frozen B6.out 0
          have sz1 := (blk_cell B6.out 1).trans rfl
          have sf1 := blk_frozen B6.out 1
          have n0_ := Aside0.mk (Kd.R_mono HO.out (ok' := fun _ => True) (fun _ _ => trivial))
          clear HO
          have HO := n0_
          clear n0_
          go_upto_region 10 with (fail)
          have n0_ := Aside0.mk (blk_drew B6.out)
          have n1_ := Aside0.mk (below_drew1 HB.out)
          have n2_ := Aside0.mk (Kd.R_drew HO.out)
          have n3_ := Aside0.mk (blk_drew BK.out)
          clear sz0 sf0 sz1 sf1 B6 HB HO BK
          have B6 := n0_
          have HB := n1_
          have HO := n2_
          have BK := n3_
          clear n0_ n1_ n2_ n3_
          refine start_ (n := 11) (S := fun w' => w'.cell? ⟨g5, 0, none⟩ = some (.int .i64 o2) ∧ w'.cell? ⟨g5, 1, none⟩ = some (.int .u64 c2)) (ds := []) #[false, false, false, false, false, false, false, false, false, false, false] (by kernel_rfl) rfl rfl ⟨(blk_cell B6.out 0).trans rfl, (blk_cell B6.out 1).trans rfl⟩ (fun hHeld => ?_)
          refine pure_ (i := 0) (N := some 33) (v := ?_) (a' := ?_) #[true, false, false, false, false, false, false, false, false, false, false] rfl rfl (by kernel_rfl) (fun _ _ _ h => h) (Or.inl ⟨by rfl, ?_⟩) ?_ ?_
          rotate_left
          · intro w'
            go_simp
            with_reducible rfl
          rotate_left
          · simp only [Act.put, List.setIfInBounds_toArray, List.set_cons_zero, List.set_cons_succ]
            rfl
          refine pure_ (i := 1) (N := some 34) (v := ?_) (a' := ?_) #[true, true, false, false, false, false, false, false, false, false, false] rfl rfl (by kernel_rfl) (fun _ _ _ h => h) (Or.inl ⟨by rfl, ?_⟩) ?_ ?_
          rotate_left
          · intro w'
            go_simp
            with_reducible rfl
          rotate_left
          · simp only [Act.put, List.setIfInBounds_toArray, List.set_cons_zero, List.set_cons_succ]
            rfl
          refine take_ (i := 2) (N := some 35) (v := ?_) (a' := ?_) #[true, true, true, false, false, false, false, false, false, false, false] rfl rfl (by kernel_rfl) (fun _ _ _ h => h) (Or.inl ⟨by rfl, ?_⟩) hHeld ?_ ?_
          rotate_left
          · rintro w' ⟨s0, s1⟩
            go_simp
            with_reducible rfl
          rotate_left
          · simp only [Act.put, List.setIfInBounds_toArray, List.set_cons_zero, List.set_cons_succ]
            rfl
          refine pure_ (i := 3) (N := some 36) (v := ?_) (a' := ?_) #[true, true, true, true, false, false, false, false, false, false, false] rfl rfl (by kernel_rfl) (fun _ _ _ h => h) (Or.inl ⟨by rfl, ?_⟩) ?_ ?_
          rotate_left
          · intro w'
            go_simp
            with_reducible rfl
          rotate_left
          · simp only [Act.put, List.setIfInBounds_toArray, List.set_cons_zero, List.set_cons_succ]
            rfl
          refine pure_ (i := 6) (N := some 39) (v := ?_) (a' := ?_) #[true, true, true, true, false, false, true, false, false, false, false] rfl rfl (by kernel_rfl) (fun _ _ _ h => h) (Or.inl ⟨by rfl, ?_⟩) ?_ ?_
          rotate_left
          · intro w'
            go_simp
            with_reducible rfl
          rotate_left
          · simp only [Act.put, List.setIfInBounds_toArray, List.set_cons_zero, List.set_cons_succ]
            rfl
          refine take_ (i := 7) (N := some 40) (v := ?_) (a' := ?_) #[true, true, true, true, false, false, true, true, false, false, false] rfl rfl (by kernel_rfl) (fun _ _ _ h => h) (Or.inl ⟨by rfl, ?_⟩) hHeld ?_ ?_
          rotate_left
          · rintro w' ⟨s0, s1⟩
            go_simp
            with_reducible rfl
          rotate_left
          · simp only [Act.put, List.setIfInBounds_toArray, List.set_cons_zero, List.set_cons_succ]
            rfl
          refine one_ (i := 4) (N := some 37) #[true, true, true, true, true, false, true, true, false, false, false] rfl rfl (by kernel_rfl) (by decide) (fun K hK => ?_)
          refine goes_ Try.func45 (by kernel_rfl) rfl #[.int .u64 (IntKind.u64.wrap o2), .int .i64 8] (by rfl) rfl rfl (by (try simp only [List.map_toArray, List.map_cons, List.map_nil]); first | done | rfl) ?_
          with_reducible refine (pandectref2_High.calls k _ _ y1 _ H1.out).mono ?_
          rintro e w6 ⟨v37, rfl, ho_, hb_⟩
          refine ⟨_, rfl, ?_⟩
          have n0_ := Aside0.mk (blk_below BK.out hb_)
          have n1_ := Aside0.mk (blk_below B6.out hb_)
          have n2_ := Aside0.mk (Kd.R_below HO.out hb_)
          have n3_ := Aside0.mk (below_step HB.out hb_)
          clear BK B6 HO HB
          have BK := n0_
          have B6 := n1_
          have HO := n2_
          have HB := n3_
          clear n0_ n1_ n2_ n3_
          obtain ⟨A_y1, c_y1, e_, hc_, hC_⟩ := Kd.R_reads ho_
          subst e_
          have HC_y1 := Aside0.mk hC_
          clear ho_ hb_ hc_ hC_
          refine hK.out _ _ ⟨(blk_cell B6.out 0).trans rfl, (blk_cell B6.out 1).trans rfl⟩ (fun hHeld => ?_)
          clear hK K
          refine norm_ (a' := ?_) ?_ ?_
          rotate_left
          · show Act.put _ (some 37) _ = _
            simp only [Act.put, List.setIfInBounds_toArray, List.set_cons_zero, List.set_cons_succ]
            rfl
          refine one_ (i := 5) (N := some 38) #[true, true, true, true, true, true, true, true, false, false, false] rfl rfl (by kernel_rfl) (by decide) (fun K hK => ?_)
          refine Kd.R_append_rows_step (Kd.int .u8) (w0 := w) w.heap.size (by rfl) (.tmp 33) (.tmp 37) 22 5 (.int .u8 0) 1 rfl Try.underlying22 info5 rfl (by decide) (by omega) u3 b y1 _ _ _ (fun _ => True) (fun _ => False) rfl rfl ?aO ?aR (fun _ _ h => h) (fun _ h => h.elim) ?aF ?aB ?aS ?aL ?_
          (case aR => exact HC_y1.out)
          (case aB => exact HB.out)
          (case aF => exact (fun _ _ => trivial))
          (case aO => exact HO.out)
          (case aS => exact (below_size HB.out))
          (case aL => have := LM.out; omega)
          intro v38 w7 ho hb hg hat
          have n0_ := Aside0.mk (blk_grown (g := gb) (o := .cells #[.int .u64 a0, .int .i64 a1, .int .i64 o0, .int .u64 c0, .int .i64 o1, .int .u64 c1, .int .i64 o2, .int .u64 c2, .int .i64 o3, .int .u64 c3, .int .i64 o4, .int .u64 c4] 44 (0, 0)) BK.out hg (Kd.R_ne HO.out BK.out (by decide)))
          have n1_ := Aside0.mk (blk_grown (g := g5) (o := .cells #[.int .i64 o2, .int .u64 c2] 41 (0, 0)) B6.out hg (Kd.R_ne HO.out B6.out (by decide)))
          have n2_ := Aside0.mk ho
          have n3_ := Aside0.mk hb
          clear BK B6 HO HB HC_y1
          have BK := n0_
          have B6 := n1_
          have HO := n2_
          have HB := n3_
          clear n0_ n1_ n2_ n3_ ho hb hg hat
          refine hK.out _ _ ⟨(blk_cell B6.out 0).trans rfl, (blk_cell B6.out 1).trans rfl⟩ (fun hHeld => ?_)
          clear hK K
          refine norm_ (a' := ?_) ?_ ?_
          rotate_left
          · show Act.put _ (some 38) _ = _
            simp only [Act.put, List.setIfInBounds_toArray, List.set_cons_zero, List.set_cons_succ]
            rfl
          refine one_ (i := 8) (N := some 41) #[true, true, true, true, true, true, true, true, true, false, false] rfl rfl (by kernel_rfl) (by decide) (fun K hK => ?_)
          refine goes_ Try.func45 (by kernel_rfl) rfl #[.int .u64 c2, .int .i64 8] (by rfl) rfl rfl (by (try simp only [List.map_toArray, List.map_cons, List.map_nil]); first | done | rfl) ?_
          with_reducible refine (pandectref2_High.calls k _ _ y2 _ H2.out).mono ?_
          rintro e w8 ⟨v41, rfl, ho_, hb_⟩
          refine ⟨_, rfl, ?_⟩
          have n0_ := Aside0.mk (blk_below BK.out hb_)
          have n1_ := Aside0.mk (blk_below B6.out hb_)
          have n2_ := Aside0.mk (Kd.R_below HO.out hb_)
          have n3_ := Aside0.mk (below_step HB.out hb_)
          clear BK B6 HO HB
          have BK := n0_
          have B6 := n1_
          have HO := n2_
          have HB := n3_
          clear n0_ n1_ n2_ n3_
          obtain ⟨A_y2, c_y2, e_, hc_, hC_⟩ := Kd.R_reads ho_
          subst e_
          have HC_y2 := Aside0.mk hC_
          clear ho_ hb_ hc_ hC_
          refine hK.out _ _ ⟨(blk_cell B6.out 0).trans rfl, (blk_cell B6.out 1).trans rfl⟩ (fun hHeld => ?_)
          clear hK K
          refine norm_ (a' := ?_) ?_ ?_
          rotate_left
          · show Act.put _ (some 41) _ = _
            simp only [Act.put, List.setIfInBounds_toArray, List.set_cons_zero, List.set_cons_succ]
            rfl
          refine one_ (i := 9) (N := some 42) #[true, true, true, true, true, true, true, true, true, true, false] rfl rfl (by kernel_rfl) (by decide) (fun K hK => ?_)
          refine Kd.R_append_rows_step (Kd.int .u8) (w0 := w) w.heap.size (by rfl) (.tmp 38) (.tmp 41) 22 5 (.int .u8 0) 1 rfl Try.underlying22 info5 rfl (by decide) (by omega) v38 (b ++ y1) y2 _ _ _ (fun _ => True) (fun _ => False) rfl rfl ?aO ?aR (fun _ _ h => h) (fun _ h => h.elim) ?aF ?aB ?aS ?aL ?_
          (case aR => exact HC_y2.out)
          (case aB => exact HB.out)
          (case aF => exact (fun _ _ => trivial))
          (case aO => exact HO.out)
          (case aS => exact (below_size HB.out))
          (case aL => have := LM.out; rw [List.length_append]; omega)
          intro v42 w9 ho hb hg hat
          have n0_ := Aside0.mk (blk_grown (g := gb) (o := .cells #[.int .u64 a0, .int .i64 a1, .int .i64 o0, .int .u64 c0, .int .i64 o1, .int .u64 c1, .int .i64 o2, .int .u64 c2, .int .i64 o3, .int .u64 c3, .int .i64 o4, .int .u64 c4] 44 (0, 0)) BK.out hg (Kd.R_ne HO.out BK.out (by decide)))
          have n1_ := Aside0.mk (blk_grown (g := g5) (o := .cells #[.int .i64 o2, .int .u64 c2] 41 (0, 0)) B6.out hg (Kd.R_ne HO.out B6.out (by decide)))
          have n2_ := Aside0.mk ho
          have n3_ := Aside0.mk hb
          clear BK B6 HO HB HC_y2
          have BK := n0_
          have B6 := n1_
          have HO := n2_
          have HB := n3_
          clear n0_ n1_ n2_ n3_ ho hb hg hat
          refine hK.out _ _ ⟨(blk_cell B6.out 0).trans rfl, (blk_cell B6.out 1).trans rfl⟩ (fun hHeld => ?_)
          clear hK K
          refine norm_ (a' := ?_) ?_ ?_
          rotate_left
          · show Act.put _ (some 42) _ = _
            simp only [Act.put, List.setIfInBounds_toArray, List.set_cons_zero, List.set_cons_succ]
            rfl
          refine pure_ (i := 10) (N := some 3) (v := ?_) (a' := ?_) #[true, true, true, true, true, true, true, true, true, true, true] rfl rfl (by kernel_rfl) (fun _ _ _ h => h) (Or.inl ⟨by rfl, ?_⟩) ?_ ?_
          rotate_left
          · intro w'
            go_simp
            with_reducible rfl
          rotate_left
          · simp only [Act.put, List.setIfInBounds_toArray, List.set_cons_zero, List.set_cons_succ]
            rfl
          refine done_ (by kernel_rfl) ?_
          go_wp2_with (fail)
          go_roundg 2
          case measure => omega
          case rel => exact ⟨b ++ y1 ++ y2, 3, (by first | rfl | kernel_rfl), ⟨by have := HI.out; omega⟩, ⟨by decide⟩, HG, BK, HO, HB⟩
    | 4 =>
      obtain rfl : i = 1 := by have := HI.out; omega
      have H : (if o1 < 0 then some [] else if (o1 == 0) != (c1 == 0) then some [] else (pandectref2_High.f k (IntKind.u64.wrap o1) 8).bind fun y1 => (pandectref2_High.f k c1 8).bind fun y2 => if b.length + y1.length + y2.length ≤ 1000 then pandectref6_PutRoot.go k [(o2, c2), (o3, c3), (o4, c4)] (b ++ y1 ++ y2) else none) = some r := HG.out
      clear HG
      have rz0 := (blk_cell BK.out 0).trans rfl
      have rf0 := blk_frozen BK.out 0
      have rz1 := (blk_cell BK.out 1).trans rfl
      have rf1 := blk_frozen BK.out 1
      have rz2 := (blk_cell BK.out 2).trans rfl
      have rf2 := blk_frozen BK.out 2
      have rz3 := (blk_cell BK.out 3).trans rfl
      have rf3 := blk_frozen BK.out 3
      have rz4 := (blk_cell BK.out 4).trans rfl
      have rf4 := blk_frozen BK.out 4
      have rz5 := (blk_cell BK.out 5).trans rfl
      have rf5 := blk_frozen BK.out 5
      have rz6 := (blk_cell BK.out 6).trans rfl
      have rf6 := blk_frozen BK.out 6
      have rz7 := (blk_cell BK.out 7).trans rfl
      have rf7 := blk_frozen BK.out 7
      have rz8 := (blk_cell BK.out 8).trans rfl
      have rf8 := blk_frozen BK.out 8
      have rz9 := (blk_cell BK.out 9).trans rfl
      have rf9 := blk_frozen BK.out 9
      have rz10 := (blk_cell BK.out 10).trans rfl
      have rf10 := blk_frozen BK.out 10
      have rz11 := (blk_cell BK.out 11).trans rfl
      have rf11 := blk_frozen BK.out 11
      by_cases d1 : o1 < 0
      · rw [if_pos d1] at H
        have e1 := decide_eq_true d1
        clear d1
        obtain rfl := Option.some.inj (H : some [] = some r)
        go_upto_region 8 with (first | ((with_reducible refine gate_dst (N := 5) rfl ?_); (try (refine gate_guard (by rfl) ?_; dsimp only)); refine box_event ?hg (N := 5) ?hd (cs := #[.int .i64 0, .int .u64 0]) (t := 41) ?hr ?_; (case hd => rfl); (case hg => rfl); (case hr => first | (go_simp; done) | (go_simp; rfl)); intro g5 hg w5 hbox hb; have n0_ := Aside0.mk (below_step HB.out hb); have n1_ := Aside0.mk (Kd.R_below (Kd.R_mono (Kd.R_bound HO.out) (fun k hk => (show k < g5 by rw [hg]; exact hk.2.2.1))) hb); have n2_ := Aside0.mk (blk_below BK.out hb); have B5 := Aside0.mk hbox; have NE5 := Aside0.mk (show gb ≠ g5 by rw [hg]; exact Nat.ne_of_lt (blk_lt BK.out)); have G5 := Aside0.mk (show w.heap.size ≤ g5 by rw [hg]; exact HB.out.size); clear HB HO BK; have HB := n0_; have HO := n1_; have BK := n2_; clear n0_ n1_ n2_ hg hbox hb; have tz0 := (blk_cell B5.out 0).trans rfl; have tf0 := blk_frozen B5.out 0; have tz1 := (blk_cell B5.out 1).trans rfl; have tf1 := blk_frozen B5.out 1))
        have B6 := Aside0.mk (show ((w5.setCell ⟨g5, 0, none⟩ (.int .i64 o1)).setCell ⟨g5, 1, none⟩ (.int .u64 c1)).heap[g5]? = some (.cells #[.int .i64 o1, .int .u64 c1] 41 (0, 0)) by refine blk_put (cs := #[.int .i64 o1, .int .u64 0]) ?_ 1 _ rfl; refine blk_put (cs := #[.int .i64 0, .int .u64 0]) ?_ 0 _ rfl; exact B5.out)
        have n0_ := Aside0.mk (show Below w.heap.size w ((w5.setCell ⟨g5, 0, none⟩ (.int .i64 o1)).setCell ⟨g5, 1, none⟩ (.int .u64 c1)) by repeat (with_reducible first | exact HB.out | refine below_set ?_ G5.out))
        have n1_ := Aside0.mk (show Kd.R (Kd.int .u8) 5 ((w5.setCell ⟨g5, 0, none⟩ (.int .i64 o1)).setCell ⟨g5, 1, none⟩ (.int .u64 c1)) w.heap.size (fun k => k < g5) u3 b by repeat (with_reducible first | exact HO.out | refine Kd.R_far (p := ⟨g5, _, none⟩) ?_ (fun k hk => Nat.ne_of_lt hk) _))
        have n2_ := Aside0.mk (show ((w5.setCell ⟨g5, 0, none⟩ (.int .i64 o1)).setCell ⟨g5, 1, none⟩ (.int .u64 c1)).heap[gb]? = some (.cells #[.int .u64 a0, .int .i64 a1, .int .i64 o0, .int .u64 c0, .int .i64 o1, .int .u64 c1, .int .i64 o2, .int .u64 c2, .int .i64 o3, .int .u64 c3, .int .i64 o4, .int .u64 c4] 44 (0, 0)) by refine blk_far ?_ NE5.out _; refine blk_far ?_ NE5.out _; exact BK.out)
        clear HB HO B5 BK tz0 tf0 tz1 tf1
        have HB := n0_
        have HO := n1_
        have BK := n2_
        clear n0_ n1_ n2_
        have sz0 := (blk_cell B6.out 0).trans rfl
        have sf0 := blk_frozen B6.out 0
        have sz1 := (blk_cell B6.out 1).trans rfl
        have sf1 := blk_frozen B6.out 1
        go_wp2_with (fail)
        go_ret
        exact ⟨_, rfl, Kd.R_nil _ _ _ _ _, HB.out⟩
      · rw [if_neg d1] at H
        have e1 := decide_eq_false d1
        clear d1
        obtain ⟨p, hp⟩ : ∃ p, (o1 == 0) = p := ⟨_, rfl⟩
        obtain ⟨q, hq⟩ : ∃ q, (c1 == 0) = q := ⟨_, rfl⟩
        rw [hp, hq] at H
        rcases p with _ | _ <;> rcases q with _ | _
        · obtain ⟨y1, h1, hn⟩ := Option.bind_eq_some_iff.mp H
          clear H
          obtain ⟨y2, h2, H⟩ := Option.bind_eq_some_iff.mp hn
          clear hn
          by_cases hl : b.length + y1.length + y2.length ≤ 1000
          case neg => rw [if_neg hl] at H; cases H
          rw [if_pos hl] at H
          have LM := Aside0.mk hl
          have H1 := Aside0.mk h1
          have H2 := Aside0.mk h2
          have HG := Aside0.mk H
          clear H h1 h2 hl
          go_upto_region 8 with (first | ((with_reducible refine gate_dst (N := 5) rfl ?_); (try (refine gate_guard (by rfl) ?_; dsimp only)); refine box_event ?hg (N := 5) ?hd (cs := #[.int .i64 0, .int .u64 0]) (t := 41) ?hr ?_; (case hd => rfl); (case hg => rfl); (case hr => first | (go_simp; done) | (go_simp; rfl)); intro g5 hg w5 hbox hb; have n0_ := Aside0.mk (below_step HB.out hb); have n1_ := Aside0.mk (Kd.R_below (Kd.R_mono (Kd.R_bound HO.out) (fun k hk => (show k < g5 by rw [hg]; exact hk.2.2.1))) hb); have n2_ := Aside0.mk (blk_below BK.out hb); have B5 := Aside0.mk hbox; have NE5 := Aside0.mk (show gb ≠ g5 by rw [hg]; exact Nat.ne_of_lt (blk_lt BK.out)); have G5 := Aside0.mk (show w.heap.size ≤ g5 by rw [hg]; exact HB.out.size); clear HB HO BK; have HB := n0_; have HO := n1_; have BK := n2_; clear n0_ n1_ n2_ hg hbox hb; have tz0 := (blk_cell B5.out 0).trans rfl; have tf0 := blk_frozen B5.out 0; have tz1 := (blk_cell B5.out 1).trans rfl; have tf1 := blk_frozen B5.out 1))
          have B6 := Aside0.mk (show ((w5.setCell ⟨g5, 0, none⟩ (.int .i64 o1)).setCell ⟨g5, 1, none⟩ (.int .u64 c1)).heap[g5]? = some (.cells #[.int .i64 o1, .int .u64 c1] 41 (0, 0)) by refine blk_put (cs := #[.int .i64 o1, .int .u64 0]) ?_ 1 _ rfl; refine blk_put (cs := #[.int .i64 0, .int .u64 0]) ?_ 0 _ rfl; exact B5.out)
          have n0_ := Aside0.mk (show Below w.heap.size w ((w5.setCell ⟨g5, 0, none⟩ (.int .i64 o1)).setCell ⟨g5, 1, none⟩ (.int .u64 c1)) by repeat (with_reducible first | exact HB.out | refine below_set ?_ G5.out))
          have n1_ := Aside0.mk (show Kd.R (Kd.int .u8) 5 ((w5.setCell ⟨g5, 0, none⟩ (.int .i64 o1)).setCell ⟨g5, 1, none⟩ (.int .u64 c1)) w.heap.size (fun k => k < g5) u3 b by repeat (with_reducible first | exact HO.out | refine Kd.R_far (p := ⟨g5, _, none⟩) ?_ (fun k hk => Nat.ne_of_lt hk) _))
          have n2_ := Aside0.mk (show ((w5.setCell ⟨g5, 0, none⟩ (.int .i64 o1)).setCell ⟨g5, 1, none⟩ (.int .u64 c1)).heap[gb]? = some (.cells #[.int .u64 a0, .int .i64 a1, .int .i64 o0, .int .u64 c0, .int .i64 o1, .int .u64 c1, .int .i64 o2, .int .u64 c2, .int .i64 o3, .int .u64 c3, .int .i64 o4, .int .u64 c4] 44 (0, 0)) by refine blk_far ?_ NE5.out _; refine blk_far ?_ NE5.out _; exact BK.out)
          clear HB HO B5 BK tz0 tf0 tz1 tf1
          have HB := n0_
          have HO := n1_
          have BK := n2_
          clear n0_ n1_ n2_
          have sz0 := (blk_cell B6.out 0).trans rfl
          have sf0 := blk_frozen B6.out 0
          have sz1 := (blk_cell B6.out 1).trans rfl
          have sf1 := blk_frozen B6.out 1
          have n0_ := Aside0.mk (Kd.R_mono HO.out (ok' := fun _ => True) (fun _ _ => trivial))
          clear HO
          have HO := n0_
          clear n0_
          go_upto_region 10 with (fail)
          have n0_ := Aside0.mk (blk_drew B6.out)
          have n1_ := Aside0.mk (below_drew1 HB.out)
          have n2_ := Aside0.mk (Kd.R_drew HO.out)
          have n3_ := Aside0.mk (blk_drew BK.out)
          clear sz0 sf0 sz1 sf1 B6 HB HO BK
          have B6 := n0_
          have HB := n1_
          have HO := n2_
          have BK := n3_
          clear n0_ n1_ n2_ n3_
          refine start_ (n := 11) (S := fun w' => w'.cell? ⟨g5, 0, none⟩ = some (.int .i64 o1) ∧ w'.cell? ⟨g5, 1, none⟩ = some (.int .u64 c1)) (ds := []) #[false, false, false, false, false, false, false, false, false, false, false] (by kernel_rfl) rfl rfl ⟨(blk_cell B6.out 0).trans rfl, (blk_cell B6.out 1).trans rfl⟩ (fun hHeld => ?_)
          refine pure_ (i := 0) (N := some 33) (v := ?_) (a' := ?_) #[true, false, false, false, false, false, false, false, false, false, false] rfl rfl (by kernel_rfl) (fun _ _ _ h => h) (Or.inl ⟨by rfl, ?_⟩) ?_ ?_
          rotate_left
          · intro w'
            go_simp
            with_reducible rfl
          rotate_left
          · simp only [Act.put, List.setIfInBounds_toArray, List.set_cons_zero, List.set_cons_succ]
            rfl
          refine pure_ (i := 1) (N := some 34) (v := ?_) (a' := ?_) #[true, true, false, false, false, false, false, false, false, false, false] rfl rfl (by kernel_rfl) (fun _ _ _ h => h) (Or.inl ⟨by rfl, ?_⟩) ?_ ?_
          rotate_left
          · intro w'
            go_simp
            with_reducible rfl
          rotate_left
          · simp only [Act.put, List.setIfInBounds_toArray, List.set_cons_zero, List.set_cons_succ]
            rfl
          refine take_ (i := 2) (N := some 35) (v := ?_) (a' := ?_) #[true, true, true, false, false, false, false, false, false, false, false] rfl rfl (by kernel_rfl) (fun _ _ _ h => h) (Or.inl ⟨by rfl, ?_⟩) hHeld ?_ ?_
          rotate_left
          · rintro w' ⟨s0, s1⟩
            go_simp
            with_reducible rfl
          rotate_left
          · simp only [Act.put, List.setIfInBounds_toArray, List.set_cons_zero, List.set_cons_succ]
            rfl
          refine pure_ (i := 3) (N := some 36) (v := ?_) (a' := ?_) #[true, true, true, true, false, false, false, false, false, false, false] rfl rfl (by kernel_rfl) (fun _ _ _ h => h) (Or.inl ⟨by rfl, ?_⟩) ?_ ?_
          rotate_left
          · intro w'
            go_simp
            with_reducible rfl
          rotate_left
          · simp only [Act.put, List.setIfInBounds_toArray, List.set_cons_zero, List.set_cons_succ]
            rfl
          refine pure_ (i := 6) (N := some 39) (v := ?_) (a' := ?_) #[true, true, true, true, false, false, true, false, false, false, false] rfl rfl (by kernel_rfl) (fun _ _ _ h => h) (Or.inl ⟨by rfl, ?_⟩) ?_ ?_
          rotate_left
          · intro w'
            go_simp
            with_reducible rfl
          rotate_left
          · simp only [Act.put, List.setIfInBounds_toArray, List.set_cons_zero, List.set_cons_succ]
            rfl
          refine take_ (i := 7) (N := some 40) (v := ?_) (a' := ?_) #[true, true, true, true, false, false, true, true, false, false, false] rfl rfl (by kernel_rfl) (fun _ _ _ h => h) (Or.inl ⟨by rfl, ?_⟩) hHeld ?_ ?_
          rotate_left
          · rintro w' ⟨s0, s1⟩
            go_simp
            with_reducible rfl
          rotate_left
          · simp only [Act.put, List.setIfInBounds_toArray, List.set_cons_zero, List.set_cons_succ]
            rfl
          refine one_ (i := 4) (N := some 37) #[true, true, true, true, true, false, true, true, false, false, false] rfl rfl (by kernel_rfl) (by decide) (fun K hK => ?_)
          refine goes_ Try.func45 (by kernel_rfl) rfl #[.int .u64 (IntKind.u64.wrap o1), .int .i64 8] (by rfl) rfl rfl (by (try simp only [List.map_toArray, List.map_cons, List.map_nil]); first | done | rfl) ?_
          with_reducible refine (pandectref2_High.calls k _ _ y1 _ H1.out).mono ?_
          rintro e w6 ⟨v37, rfl, ho_, hb_⟩
          refine ⟨_, rfl, ?_⟩
          have n0_ := Aside0.mk (blk_below BK.out hb_)
          have n1_ := Aside0.mk (blk_below B6.out hb_)
          have n2_ := Aside0.mk (Kd.R_below HO.out hb_)
          have n3_ := Aside0.mk (below_step HB.out hb_)
          clear BK B6 HO HB
          have BK := n0_
          have B6 := n1_
          have HO := n2_
          have HB := n3_
          clear n0_ n1_ n2_ n3_
          obtain ⟨A_y1, c_y1, e_, hc_, hC_⟩ := Kd.R_reads ho_
          subst e_
          have HC_y1 := Aside0.mk hC_
          clear ho_ hb_ hc_ hC_
          refine hK.out _ _ ⟨(blk_cell B6.out 0).trans rfl, (blk_cell B6.out 1).trans rfl⟩ (fun hHeld => ?_)
          clear hK K
          refine norm_ (a' := ?_) ?_ ?_
          rotate_left
          · show Act.put _ (some 37) _ = _
            simp only [Act.put, List.setIfInBounds_toArray, List.set_cons_zero, List.set_cons_succ]
            rfl
          refine one_ (i := 5) (N := some 38) #[true, true, true, true, true, true, true, true, false, false, false] rfl rfl (by kernel_rfl) (by decide) (fun K hK => ?_)
          refine Kd.R_append_rows_step (Kd.int .u8) (w0 := w) w.heap.size (by rfl) (.tmp 33) (.tmp 37) 22 5 (.int .u8 0) 1 rfl Try.underlying22 info5 rfl (by decide) (by omega) u3 b y1 _ _ _ (fun _ => True) (fun _ => False) rfl rfl ?aO ?aR (fun _ _ h => h) (fun _ h => h.elim) ?aF ?aB ?aS ?aL ?_
          (case aR => exact HC_y1.out)
          (case aB => exact HB.out)
          (case aF => exact (fun _ _ => trivial))
          (case aO => exact HO.out)
          (case aS => exact (below_size HB.out))
          (case aL => have := LM.out; omega)
          intro v38 w7 ho hb hg hat
          have n0_ := Aside0.mk (blk_grown (g := gb) (o := .cells #[.int .u64 a0, .int .i64 a1, .int .i64 o0, .int .u64 c0, .int .i64 o1, .int .u64 c1, .int .i64 o2, .int .u64 c2, .int .i64 o3, .int .u64 c3, .int .i64 o4, .int .u64 c4] 44 (0, 0)) BK.out hg (Kd.R_ne HO.out BK.out (by decide)))
          have n1_ := Aside0.mk (blk_grown (g := g5) (o := .cells #[.int .i64 o1, .int .u64 c1] 41 (0, 0)) B6.out hg (Kd.R_ne HO.out B6.out (by decide)))
          have n2_ := Aside0.mk ho
          have n3_ := Aside0.mk hb
          clear BK B6 HO HB HC_y1
          have BK := n0_
          have B6 := n1_
          have HO := n2_
          have HB := n3_
          clear n0_ n1_ n2_ n3_ ho hb hg hat
          refine hK.out _ _ ⟨(blk_cell B6.out 0).trans rfl, (blk_cell B6.out 1).trans rfl⟩ (fun hHeld => ?_)
          clear hK K
          refine norm_ (a' := ?_) ?_ ?_
          rotate_left
          · show Act.put _ (some 38) _ = _
            simp only [Act.put, List.setIfInBounds_toArray, List.set_cons_zero, List.set_cons_succ]
            rfl
          refine one_ (i := 8) (N := some 41) #[true, true, true, true, true, true, true, true, true, false, false] rfl rfl (by kernel_rfl) (by decide) (fun K hK => ?_)
          refine goes_ Try.func45 (by kernel_rfl) rfl #[.int .u64 c1, .int .i64 8] (by rfl) rfl rfl (by (try simp only [List.map_toArray, List.map_cons, List.map_nil]); first | done | rfl) ?_
          with_reducible refine (pandectref2_High.calls k _ _ y2 _ H2.out).mono ?_
          rintro e w8 ⟨v41, rfl, ho_, hb_⟩
          refine ⟨_, rfl, ?_⟩
          have n0_ := Aside0.mk (blk_below BK.out hb_)
          have n1_ := Aside0.mk (blk_below B6.out hb_)
          have n2_ := Aside0.mk (Kd.R_below HO.out hb_)
          have n3_ := Aside0.mk (below_step HB.out hb_)
          clear BK B6 HO HB
          have BK := n0_
          have B6 := n1_
          have HO := n2_
          have HB := n3_
          clear n0_ n1_ n2_ n3_
          obtain ⟨A_y2, c_y2, e_, hc_, hC_⟩ := Kd.R_reads ho_
          subst e_
          have HC_y2 := Aside0.mk hC_
          clear ho_ hb_ hc_ hC_
          refine hK.out _ _ ⟨(blk_cell B6.out 0).trans rfl, (blk_cell B6.out 1).trans rfl⟩ (fun hHeld => ?_)
          clear hK K
          refine norm_ (a' := ?_) ?_ ?_
          rotate_left
          · show Act.put _ (some 41) _ = _
            simp only [Act.put, List.setIfInBounds_toArray, List.set_cons_zero, List.set_cons_succ]
            rfl
          refine one_ (i := 9) (N := some 42) #[true, true, true, true, true, true, true, true, true, true, false] rfl rfl (by kernel_rfl) (by decide) (fun K hK => ?_)
          refine Kd.R_append_rows_step (Kd.int .u8) (w0 := w) w.heap.size (by rfl) (.tmp 38) (.tmp 41) 22 5 (.int .u8 0) 1 rfl Try.underlying22 info5 rfl (by decide) (by omega) v38 (b ++ y1) y2 _ _ _ (fun _ => True) (fun _ => False) rfl rfl ?aO ?aR (fun _ _ h => h) (fun _ h => h.elim) ?aF ?aB ?aS ?aL ?_
          (case aR => exact HC_y2.out)
          (case aB => exact HB.out)
          (case aF => exact (fun _ _ => trivial))
          (case aO => exact HO.out)
          (case aS => exact (below_size HB.out))
          (case aL => have := LM.out; rw [List.length_append]; omega)
          intro v42 w9 ho hb hg hat
          have n0_ := Aside0.mk (blk_grown (g := gb) (o := .cells #[.int .u64 a0, .int .i64 a1, .int .i64 o0, .int .u64 c0, .int .i64 o1, .int .u64 c1, .int .i64 o2, .int .u64 c2, .int .i64 o3, .int .u64 c3, .int .i64 o4, .int .u64 c4] 44 (0, 0)) BK.out hg (Kd.R_ne HO.out BK.out (by decide)))
          have n1_ := Aside0.mk (blk_grown (g := g5) (o := .cells #[.int .i64 o1, .int .u64 c1] 41 (0, 0)) B6.out hg (Kd.R_ne HO.out B6.out (by decide)))
          have n2_ := Aside0.mk ho
          have n3_ := Aside0.mk hb
          clear BK B6 HO HB HC_y2
          have BK := n0_
          have B6 := n1_
          have HO := n2_
          have HB := n3_
          clear n0_ n1_ n2_ n3_ ho hb hg hat
          refine hK.out _ _ ⟨(blk_cell B6.out 0).trans rfl, (blk_cell B6.out 1).trans rfl⟩ (fun hHeld => ?_)
          clear hK K
          refine norm_ (a' := ?_) ?_ ?_
          rotate_left
          · show Act.put _ (some 42) _ = _
            simp only [Act.put, List.setIfInBounds_toArray, List.set_cons_zero, List.set_cons_succ]
            rfl
          refine pure_ (i := 10) (N := some 3) (v := ?_) (a' := ?_) #[true, true, true, true, true, true, true, true, true, true, true] rfl rfl (by kernel_rfl) (fun _ _ _ h => h) (Or.inl ⟨by rfl, ?_⟩) ?_ ?_
          rotate_left
          · intro w'
            go_simp
            with_reducible rfl
          rotate_left
          · simp only [Act.put, List.setIfInBounds_toArray, List.set_cons_zero, List.set_cons_succ]
            rfl
          refine done_ (by kernel_rfl) ?_
          go_wp2_with (fail)
          go_roundg 3
          case measure => omega
          case rel => exact ⟨b ++ y1 ++ y2, 2, (by first | rfl | kernel_rfl), ⟨by have := HI.out; omega⟩, ⟨by decide⟩, HG, BK, HO, HB⟩
        · obtain rfl := Option.some.inj (H : some [] = some r)
          go_upto_region 8 with (first | ((with_reducible refine gate_dst (N := 5) rfl ?_); (try (refine gate_guard (by rfl) ?_; dsimp only)); refine box_event ?hg (N := 5) ?hd (cs := #[.int .i64 0, .int .u64 0]) (t := 41) ?hr ?_; (case hd => rfl); (case hg => rfl); (case hr => first | (go_simp; done) | (go_simp; rfl)); intro g5 hg w5 hbox hb; have n0_ := Aside0.mk (below_step HB.out hb); have n1_ := Aside0.mk (Kd.R_below (Kd.R_mono (Kd.R_bound HO.out) (fun k hk => (show k < g5 by rw [hg]; exact hk.2.2.1))) hb); have n2_ := Aside0.mk (blk_below BK.out hb); have B5 := Aside0.mk hbox; have NE5 := Aside0.mk (show gb ≠ g5 by rw [hg]; exact Nat.ne_of_lt (blk_lt BK.out)); have G5 := Aside0.mk (show w.heap.size ≤ g5 by rw [hg]; exact HB.out.size); clear HB HO BK; have HB := n0_; have HO := n1_; have BK := n2_; clear n0_ n1_ n2_ hg hbox hb; have tz0 := (blk_cell B5.out 0).trans rfl; have tf0 := blk_frozen B5.out 0; have tz1 := (blk_cell B5.out 1).trans rfl; have tf1 := blk_frozen B5.out 1))
          have B6 := Aside0.mk (show ((w5.setCell ⟨g5, 0, none⟩ (.int .i64 o1)).setCell ⟨g5, 1, none⟩ (.int .u64 c1)).heap[g5]? = some (.cells #[.int .i64 o1, .int .u64 c1] 41 (0, 0)) by refine blk_put (cs := #[.int .i64 o1, .int .u64 0]) ?_ 1 _ rfl; refine blk_put (cs := #[.int .i64 0, .int .u64 0]) ?_ 0 _ rfl; exact B5.out)
          have n0_ := Aside0.mk (show Below w.heap.size w ((w5.setCell ⟨g5, 0, none⟩ (.int .i64 o1)).setCell ⟨g5, 1, none⟩ (.int .u64 c1)) by repeat (with_reducible first | exact HB.out | refine below_set ?_ G5.out))
          have n1_ := Aside0.mk (show Kd.R (Kd.int .u8) 5 ((w5.setCell ⟨g5, 0, none⟩ (.int .i64 o1)).setCell ⟨g5, 1, none⟩ (.int .u64 c1)) w.heap.size (fun k => k < g5) u3 b by repeat (with_reducible first | exact HO.out | refine Kd.R_far (p := ⟨g5, _, none⟩) ?_ (fun k hk => Nat.ne_of_lt hk) _))
          have n2_ := Aside0.mk (show ((w5.setCell ⟨g5, 0, none⟩ (.int .i64 o1)).setCell ⟨g5, 1, none⟩ (.int .u64 c1)).heap[gb]? = some (.cells #[.int .u64 a0, .int .i64 a1, .int .i64 o0, .int .u64 c0, .int .i64 o1, .int .u64 c1, .int .i64 o2, .int .u64 c2, .int .i64 o3, .int .u64 c3, .int .i64 o4, .int .u64 c4] 44 (0, 0)) by refine blk_far ?_ NE5.out _; refine blk_far ?_ NE5.out _; exact BK.out)
          clear HB HO B5 BK tz0 tf0 tz1 tf1
          have HB := n0_
          have HO := n1_
          have BK := n2_
          clear n0_ n1_ n2_
          have sz0 := (blk_cell B6.out 0).trans rfl
          have sf0 := blk_frozen B6.out 0
          have sz1 := (blk_cell B6.out 1).trans rfl
          have sf1 := blk_frozen B6.out 1
          go_wp2_with (fail)
          go_ret
          exact ⟨_, rfl, Kd.R_nil _ _ _ _ _, HB.out⟩
        · obtain rfl := Option.some.inj (H : some [] = some r)
          go_upto_region 8 with (first | ((with_reducible refine gate_dst (N := 5) rfl ?_); (try (refine gate_guard (by rfl) ?_; dsimp only)); refine box_event ?hg (N := 5) ?hd (cs := #[.int .i64 0, .int .u64 0]) (t := 41) ?hr ?_; (case hd => rfl); (case hg => rfl); (case hr => first | (go_simp; done) | (go_simp; rfl)); intro g5 hg w5 hbox hb; have n0_ := Aside0.mk (below_step HB.out hb); have n1_ := Aside0.mk (Kd.R_below (Kd.R_mono (Kd.R_bound HO.out) (fun k hk => (show k < g5 by rw [hg]; exact hk.2.2.1))) hb); have n2_ := Aside0.mk (blk_below BK.out hb); have B5 := Aside0.mk hbox; have NE5 := Aside0.mk (show gb ≠ g5 by rw [hg]; exact Nat.ne_of_lt (blk_lt BK.out)); have G5 := Aside0.mk (show w.heap.size ≤ g5 by rw [hg]; exact HB.out.size); clear HB HO BK; have HB := n0_; have HO := n1_; have BK := n2_; clear n0_ n1_ n2_ hg hbox hb; have tz0 := (blk_cell B5.out 0).trans rfl; have tf0 := blk_frozen B5.out 0; have tz1 := (blk_cell B5.out 1).trans rfl; have tf1 := blk_frozen B5.out 1))
          have B6 := Aside0.mk (show ((w5.setCell ⟨g5, 0, none⟩ (.int .i64 o1)).setCell ⟨g5, 1, none⟩ (.int .u64 c1)).heap[g5]? = some (.cells #[.int .i64 o1, .int .u64 c1] 41 (0, 0)) by refine blk_put (cs := #[.int .i64 o1, .int .u64 0]) ?_ 1 _ rfl; refine blk_put (cs := #[.int .i64 0, .int .u64 0]) ?_ 0 _ rfl; exact B5.out)
          have n0_ := Aside0.mk (show Below w.heap.size w ((w5.setCell ⟨g5, 0, none⟩ (.int .i64 o1)).setCell ⟨g5, 1, none⟩ (.int .u64 c1)) by repeat (with_reducible first | exact HB.out | refine below_set ?_ G5.out))
          have n1_ := Aside0.mk (show Kd.R (Kd.int .u8) 5 ((w5.setCell ⟨g5, 0, none⟩ (.int .i64 o1)).setCell ⟨g5, 1, none⟩ (.int .u64 c1)) w.heap.size (fun k => k < g5) u3 b by repeat (with_reducible first | exact HO.out | refine Kd.R_far (p := ⟨g5, _, none⟩) ?_ (fun k hk => Nat.ne_of_lt hk) _))
          have n2_ := Aside0.mk (show ((w5.setCell ⟨g5, 0, none⟩ (.int .i64 o1)).setCell ⟨g5, 1, none⟩ (.int .u64 c1)).heap[gb]? = some (.cells #[.int .u64 a0, .int .i64 a1, .int .i64 o0, .int .u64 c0, .int .i64 o1, .int .u64 c1, .int .i64 o2, .int .u64 c2, .int .i64 o3, .int .u64 c3, .int .i64 o4, .int .u64 c4] 44 (0, 0)) by refine blk_far ?_ NE5.out _; refine blk_far ?_ NE5.out _; exact BK.out)
          clear HB HO B5 BK tz0 tf0 tz1 tf1
          have HB := n0_
          have HO := n1_
          have BK := n2_
          clear n0_ n1_ n2_
          have sz0 := (blk_cell B6.out 0).trans rfl
          have sf0 := blk_frozen B6.out 0
          have sz1 := (blk_cell B6.out 1).trans rfl
          have sf1 := blk_frozen B6.out 1
          go_wp2_with (fail)
          go_ret
          exact ⟨_, rfl, Kd.R_nil _ _ _ _ _, HB.out⟩
        · obtain ⟨y1, h1, hn⟩ := Option.bind_eq_some_iff.mp H
          clear H
          obtain ⟨y2, h2, H⟩ := Option.bind_eq_some_iff.mp hn
          clear hn
          by_cases hl : b.length + y1.length + y2.length ≤ 1000
          case neg => rw [if_neg hl] at H; cases H
          rw [if_pos hl] at H
          have LM := Aside0.mk hl
          have H1 := Aside0.mk h1
          have H2 := Aside0.mk h2
          have HG := Aside0.mk H
          clear H h1 h2 hl
          go_upto_region 8 with (first | ((with_reducible refine gate_dst (N := 5) rfl ?_); (try (refine gate_guard (by rfl) ?_; dsimp only)); refine box_event ?hg (N := 5) ?hd (cs := #[.int .i64 0, .int .u64 0]) (t := 41) ?hr ?_; (case hd => rfl); (case hg => rfl); (case hr => first | (go_simp; done) | (go_simp; rfl)); intro g5 hg w5 hbox hb; have n0_ := Aside0.mk (below_step HB.out hb); have n1_ := Aside0.mk (Kd.R_below (Kd.R_mono (Kd.R_bound HO.out) (fun k hk => (show k < g5 by rw [hg]; exact hk.2.2.1))) hb); have n2_ := Aside0.mk (blk_below BK.out hb); have B5 := Aside0.mk hbox; have NE5 := Aside0.mk (show gb ≠ g5 by rw [hg]; exact Nat.ne_of_lt (blk_lt BK.out)); have G5 := Aside0.mk (show w.heap.size ≤ g5 by rw [hg]; exact HB.out.size); clear HB HO BK; have HB := n0_; have HO := n1_; have BK := n2_; clear n0_ n1_ n2_ hg hbox hb; have tz0 := (blk_cell B5.out 0).trans rfl; have tf0 := blk_frozen B5.out 0; have tz1 := (blk_cell B5.out 1).trans rfl; have tf1 := blk_frozen B5.out 1))
          have B6 := Aside0.mk (show ((w5.setCell ⟨g5, 0, none⟩ (.int .i64 o1)).setCell ⟨g5, 1, none⟩ (.int .u64 c1)).heap[g5]? = some (.cells #[.int .i64 o1, .int .u64 c1] 41 (0, 0)) by refine blk_put (cs := #[.int .i64 o1, .int .u64 0]) ?_ 1 _ rfl; refine blk_put (cs := #[.int .i64 0, .int .u64 0]) ?_ 0 _ rfl; exact B5.out)
          have n0_ := Aside0.mk (show Below w.heap.size w ((w5.setCell ⟨g5, 0, none⟩ (.int .i64 o1)).setCell ⟨g5, 1, none⟩ (.int .u64 c1)) by repeat (with_reducible first | exact HB.out | refine below_set ?_ G5.out))
          have n1_ := Aside0.mk (show Kd.R (Kd.int .u8) 5 ((w5.setCell ⟨g5, 0, none⟩ (.int .i64 o1)).setCell ⟨g5, 1, none⟩ (.int .u64 c1)) w.heap.size (fun k => k < g5) u3 b by repeat (with_reducible first | exact HO.out | refine Kd.R_far (p := ⟨g5, _, none⟩) ?_ (fun k hk => Nat.ne_of_lt hk) _))
          have n2_ := Aside0.mk (show ((w5.setCell ⟨g5, 0, none⟩ (.int .i64 o1)).setCell ⟨g5, 1, none⟩ (.int .u64 c1)).heap[gb]? = some (.cells #[.int .u64 a0, .int .i64 a1, .int .i64 o0, .int .u64 c0, .int .i64 o1, .int .u64 c1, .int .i64 o2, .int .u64 c2, .int .i64 o3, .int .u64 c3, .int .i64 o4, .int .u64 c4] 44 (0, 0)) by refine blk_far ?_ NE5.out _; refine blk_far ?_ NE5.out _; exact BK.out)
          clear HB HO B5 BK tz0 tf0 tz1 tf1
          have HB := n0_
          have HO := n1_
          have BK := n2_
          clear n0_ n1_ n2_
          have sz0 := (blk_cell B6.out 0).trans rfl
          have sf0 := blk_frozen B6.out 0
          have sz1 := (blk_cell B6.out 1).trans rfl
          have sf1 := blk_frozen B6.out 1
          have n0_ := Aside0.mk (Kd.R_mono HO.out (ok' := fun _ => True) (fun _ _ => trivial))
          clear HO
          have HO := n0_
          clear n0_
          go_upto_region 10 with (fail)
          have n0_ := Aside0.mk (blk_drew B6.out)
          have n1_ := Aside0.mk (below_drew1 HB.out)
          have n2_ := Aside0.mk (Kd.R_drew HO.out)
          have n3_ := Aside0.mk (blk_drew BK.out)
          clear sz0 sf0 sz1 sf1 B6 HB HO BK
          have B6 := n0_
          have HB := n1_
          have HO := n2_
          have BK := n3_
          clear n0_ n1_ n2_ n3_
          refine start_ (n := 11) (S := fun w' => w'.cell? ⟨g5, 0, none⟩ = some (.int .i64 o1) ∧ w'.cell? ⟨g5, 1, none⟩ = some (.int .u64 c1)) (ds := []) #[false, false, false, false, false, false, false, false, false, false, false] (by kernel_rfl) rfl rfl ⟨(blk_cell B6.out 0).trans rfl, (blk_cell B6.out 1).trans rfl⟩ (fun hHeld => ?_)
          refine pure_ (i := 0) (N := some 33) (v := ?_) (a' := ?_) #[true, false, false, false, false, false, false, false, false, false, false] rfl rfl (by kernel_rfl) (fun _ _ _ h => h) (Or.inl ⟨by rfl, ?_⟩) ?_ ?_
          rotate_left
          · intro w'
            go_simp
            with_reducible rfl
          rotate_left
          · simp only [Act.put, List.setIfInBounds_toArray, List.set_cons_zero, List.set_cons_succ]
            rfl
          refine pure_ (i := 1) (N := some 34) (v := ?_) (a' := ?_) #[true, true, false, false, false, false, false, false, false, false, false] rfl rfl (by kernel_rfl) (fun _ _ _ h => h) (Or.inl ⟨by rfl, ?_⟩) ?_ ?_
          rotate_left
          · intro w'
            go_simp
            with_reducible rfl
          rotate_left
          · simp only [Act.put, List.setIfInBounds_toArray, List.set_cons_zero, List.set_cons_succ]
            rfl
          refine take_ (i := 2) (N := some 35) (v := ?_) (a' := ?_) #[true, true, true, false, false, false, false, false, false, false, false] rfl rfl (by kernel_rfl) (fun _ _ _ h => h) (Or.inl ⟨by rfl, ?_⟩) hHeld ?_ ?_
          rotate_left
          · rintro w' ⟨s0, s1⟩
            go_simp
            with_reducible rfl
          rotate_left
          · simp only [Act.put, List.setIfInBounds_toArray, List.set_cons_zero, List.set_cons_succ]
            rfl
          refine pure_ (i := 3) (N := some 36) (v := ?_) (a' := ?_) #[true, true, true, true, false, false, false, false, false, false, false] rfl rfl (by kernel_rfl) (fun _ _ _ h => h) (Or.inl ⟨by rfl, ?_⟩) ?_ ?_
          rotate_left
          · intro w'
            go_simp
            with_reducible rfl
          rotate_left
          · simp only [Act.put, List.setIfInBounds_toArray, List.set_cons_zero, List.set_cons_succ]
            rfl
          refine pure_ (i := 6) (N := some 39) (v := ?_) (a' := ?_) #[true, true, true, true, false, false, true, false, false, false, false] rfl rfl (by kernel_rfl) (fun _ _ _ h => h) (Or.inl ⟨by rfl, ?_⟩) ?_ ?_
          rotate_left
          · intro w'
            go_simp
            with_reducible rfl
          rotate_left
          · simp only [Act.put, List.setIfInBounds_toArray, List.set_cons_zero, List.set_cons_succ]
            rfl
          refine take_ (i := 7) (N := some 40) (v := ?_) (a' := ?_) #[true, true, true, true, false, false, true, true, false, false, false] rfl rfl (by kernel_rfl) (fun _ _ _ h => h) (Or.inl ⟨by rfl, ?_⟩) hHeld ?_ ?_
          rotate_left
          · rintro w' ⟨s0, s1⟩
            go_simp
            with_reducible rfl
          rotate_left
          · simp only [Act.put, List.setIfInBounds_toArray, List.set_cons_zero, List.set_cons_succ]
            rfl
          refine one_ (i := 4) (N := some 37) #[true, true, true, true, true, false, true, true, false, false, false] rfl rfl (by kernel_rfl) (by decide) (fun K hK => ?_)
          refine goes_ Try.func45 (by kernel_rfl) rfl #[.int .u64 (IntKind.u64.wrap o1), .int .i64 8] (by rfl) rfl rfl (by (try simp only [List.map_toArray, List.map_cons, List.map_nil]); first | done | rfl) ?_
          with_reducible refine (pandectref2_High.calls k _ _ y1 _ H1.out).mono ?_
          rintro e w6 ⟨v37, rfl, ho_, hb_⟩
          refine ⟨_, rfl, ?_⟩
          have n0_ := Aside0.mk (blk_below BK.out hb_)
          have n1_ := Aside0.mk (blk_below B6.out hb_)
          have n2_ := Aside0.mk (Kd.R_below HO.out hb_)
          have n3_ := Aside0.mk (below_step HB.out hb_)
          clear BK B6 HO HB
          have BK := n0_
          have B6 := n1_
          have HO := n2_
          have HB := n3_
          clear n0_ n1_ n2_ n3_
          obtain ⟨A_y1, c_y1, e_, hc_, hC_⟩ := Kd.R_reads ho_
          subst e_
          have HC_y1 := Aside0.mk hC_
          clear ho_ hb_ hc_ hC_
          refine hK.out _ _ ⟨(blk_cell B6.out 0).trans rfl, (blk_cell B6.out 1).trans rfl⟩ (fun hHeld => ?_)
          clear hK K
          refine norm_ (a' := ?_) ?_ ?_
          rotate_left
          · show Act.put _ (some 37) _ = _
            simp only [Act.put, List.setIfInBounds_toArray, List.set_cons_zero, List.set_cons_succ]
            rfl
          refine one_ (i := 5) (N := some 38) #[true, true, true, true, true, true, true, true, false, false, false] rfl rfl (by kernel_rfl) (by decide) (fun K hK => ?_)
          refine Kd.R_append_rows_step (Kd.int .u8) (w0 := w) w.heap.size (by rfl) (.tmp 33) (.tmp 37) 22 5 (.int .u8 0) 1 rfl Try.underlying22 info5 rfl (by decide) (by omega) u3 b y1 _ _ _ (fun _ => True) (fun _ => False) rfl rfl ?aO ?aR (fun _ _ h => h) (fun _ h => h.elim) ?aF ?aB ?aS ?aL ?_
          (case aR => exact HC_y1.out)
          (case aB => exact HB.out)
          (case aF => exact (fun _ _ => trivial))
          (case aO => exact HO.out)
          (case aS => exact (below_size HB.out))
          (case aL => have := LM.out; omega)
          intro v38 w7 ho hb hg hat
          have n0_ := Aside0.mk (blk_grown (g := gb) (o := .cells #[.int .u64 a0, .int .i64 a1, .int .i64 o0, .int .u64 c0, .int .i64 o1, .int .u64 c1, .int .i64 o2, .int .u64 c2, .int .i64 o3, .int .u64 c3, .int .i64 o4, .int .u64 c4] 44 (0, 0)) BK.out hg (Kd.R_ne HO.out BK.out (by decide)))
          have n1_ := Aside0.mk (blk_grown (g := g5) (o := .cells #[.int .i64 o1, .int .u64 c1] 41 (0, 0)) B6.out hg (Kd.R_ne HO.out B6.out (by decide)))
          have n2_ := Aside0.mk ho
          have n3_ := Aside0.mk hb
          clear BK B6 HO HB HC_y1
          have BK := n0_
          have B6 := n1_
          have HO := n2_
          have HB := n3_
          clear n0_ n1_ n2_ n3_ ho hb hg hat
          refine hK.out _ _ ⟨(blk_cell B6.out 0).trans rfl, (blk_cell B6.out 1).trans rfl⟩ (fun hHeld => ?_)
          clear hK K
          refine norm_ (a' := ?_) ?_ ?_
          rotate_left
          · show Act.put _ (some 38) _ = _
            simp only [Act.put, List.setIfInBounds_toArray, List.set_cons_zero, List.set_cons_succ]
            rfl
          refine one_ (i := 8) (N := some 41) #[true, true, true, true, true, true, true, true, true, false, false] rfl rfl (by kernel_rfl) (by decide) (fun K hK => ?_)
          refine goes_ Try.func45 (by kernel_rfl) rfl #[.int .u64 c1, .int .i64 8] (by rfl) rfl rfl (by (try simp only [List.map_toArray, List.map_cons, List.map_nil]); first | done | rfl) ?_
          with_reducible refine (pandectref2_High.calls k _ _ y2 _ H2.out).mono ?_
          rintro e w8 ⟨v41, rfl, ho_, hb_⟩
          refine ⟨_, rfl, ?_⟩
          have n0_ := Aside0.mk (blk_below BK.out hb_)
          have n1_ := Aside0.mk (blk_below B6.out hb_)
          have n2_ := Aside0.mk (Kd.R_below HO.out hb_)
          have n3_ := Aside0.mk (below_step HB.out hb_)
          clear BK B6 HO HB
          have BK := n0_
          have B6 := n1_
          have HO := n2_
          have HB := n3_
          clear n0_ n1_ n2_ n3_
          obtain ⟨A_y2, c_y2, e_, hc_, hC_⟩ := Kd.R_reads ho_
          subst e_
          have HC_y2 := Aside0.mk hC_
          clear ho_ hb_ hc_ hC_
          refine hK.out _ _ ⟨(blk_cell B6.out 0).trans rfl, (blk_cell B6.out 1).trans rfl⟩ (fun hHeld => ?_)
          clear hK K
          refine norm_ (a' := ?_) ?_ ?_
          rotate_left
          · show Act.put _ (some 41) _ = _
            simp only [Act.put, List.setIfInBounds_toArray, List.set_cons_zero, List.set_cons_succ]
            rfl
          refine one_ (i := 9) (N := some 42) #[true, true, true, true, true, true, true, true, true, true, false] rfl rfl (by kernel_rfl) (by decide) (fun K hK => ?_)
          refine Kd.R_append_rows_step (Kd.int .u8) (w0 := w) w.heap.size (by rfl) (.tmp 38) (.tmp 41) 22 5 (.int .u8 0) 1 rfl Try.underlying22 info5 rfl (by decide) (by omega) v38 (b ++ y1) y2 _ _ _ (fun _ => True) (fun _ => False) rfl rfl ?aO ?aR (fun _ _ h => h) (fun _ h => h.elim) ?aF ?aB ?aS ?aL ?_
          (case aR => exact HC_y2.out)
          (case aB => exact HB.out)
          (case aF => exact (fun _ _ => trivial))
          (case aO => exact HO.out)
          (case aS => exact (below_size HB.out))
          (case aL => have := LM.out; rw [List.length_append]; omega)
          intro v42 w9 ho hb hg hat
          have n0_ := Aside0.mk (blk_grown (g := gb) (o := .cells #[.int .u64 a0, .int .i64 a1, .int .i64 o0, .int .u64 c0, .int .i64 o1, .int .u64 c1, .int .i64 o2, .int .u64 c2, .int .i64 o3, .int .u64 c3, .int .i64 o4, .int .u64 c4] 44 (0, 0)) BK.out hg (Kd.R_ne HO.out BK.out (by decide)))
          have n1_ := Aside0.mk (blk_grown (g := g5) (o := .cells #[.int .i64 o1, .int .u64 c1] 41 (0, 0)) B6.out hg (Kd.R_ne HO.out B6.out (by decide)))
          have n2_ := Aside0.mk ho
          have n3_ := Aside0.mk hb
          clear BK B6 HO HB HC_y2
          have BK := n0_
          have B6 := n1_
          have HO := n2_
          have HB := n3_
          clear n0_ n1_ n2_ n3_ ho hb hg hat
          refine hK.out _ _ ⟨(blk_cell B6.out 0).trans rfl, (blk_cell B6.out 1).trans rfl⟩ (fun hHeld => ?_)
          clear hK K
          refine norm_ (a' := ?_) ?_ ?_
          rotate_left
          · show Act.put _ (some 42) _ = _
            simp only [Act.put, List.setIfInBounds_toArray, List.set_cons_zero, List.set_cons_succ]
            rfl
          refine pure_ (i := 10) (N := some 3) (v := ?_) (a' := ?_) #[true, true, true, true, true, true, true, true, true, true, true] rfl rfl (by kernel_rfl) (fun _ _ _ h => h) (Or.inl ⟨by rfl, ?_⟩) ?_ ?_
          rotate_left
          · intro w'
            go_simp
            with_reducible rfl
          rotate_left
          · simp only [Act.put, List.setIfInBounds_toArray, List.set_cons_zero, List.set_cons_succ]
            rfl
          refine done_ (by kernel_rfl) ?_
          go_wp2_with (fail)
          go_roundg 3
          case measure => omega
          case rel => exact ⟨b ++ y1 ++ y2, 2, (by first | rfl | kernel_rfl), ⟨by have := HI.out; omega⟩, ⟨by decide⟩, HG, BK, HO, HB⟩
    | 5 =>
      obtain rfl : i = 0 := by have := HI.out; omega
      have H : (if o0 < 0 then some [] else if (o0 == 0) != (c0 == 0) then some [] else (pandectref2_High.f k (IntKind.u64.wrap o0) 8).bind fun y1 => (pandectref2_High.f k c0 8).bind fun y2 => if b.length + y1.length + y2.length ≤ 1000 then pandectref6_PutRoot.go k [(o1, c1), (o2, c2), (o3, c3), (o4, c4)] (b ++ y1 ++ y2) else none) = some r := HG.out
      clear HG
      have rz0 := (blk_cell BK.out 0).trans rfl
      have rf0 := blk_frozen BK.out 0
      have rz1 := (blk_cell BK.out 1).trans rfl
      have rf1 := blk_frozen BK.out 1
      have rz2 := (blk_cell BK.out 2).trans rfl
      have rf2 := blk_frozen BK.out 2
      have rz3 := (blk_cell BK.out 3).trans rfl
      have rf3 := blk_frozen BK.out 3
      have rz4 := (blk_cell BK.out 4).trans rfl
      have rf4 := blk_frozen BK.out 4
      have rz5 := (blk_cell BK.out 5).trans rfl
      have rf5 := blk_frozen BK.out 5
      have rz6 := (blk_cell BK.out 6).trans rfl
      have rf6 := blk_frozen BK.out 6
      have rz7 := (blk_cell BK.out 7).trans rfl
      have rf7 := blk_frozen BK.out 7
      have rz8 := (blk_cell BK.out 8).trans rfl
      have rf8 := blk_frozen BK.out 8
      have rz9 := (blk_cell BK.out 9).trans rfl
      have rf9 := blk_frozen BK.out 9
      have rz10 := (blk_cell BK.out 10).trans rfl
      have rf10 := blk_frozen BK.out 10
      have rz11 := (blk_cell BK.out 11).trans rfl
      have rf11 := blk_frozen BK.out 11
      by_cases d1 : o0 < 0
      · rw [if_pos d1] at H
        have e1 := decide_eq_true d1
        clear d1
        obtain rfl := Option.some.inj (H : some [] = some r)
        go_upto_region 8 with (first | ((with_reducible refine gate_dst (N := 5) rfl ?_); (try (refine gate_guard (by rfl) ?_; dsimp only)); refine box_event ?hg (N := 5) ?hd (cs := #[.int .i64 0, .int .u64 0]) (t := 41) ?hr ?_; (case hd => rfl); (case hg => rfl); (case hr => first | (go_simp; done) | (go_simp; rfl)); intro g5 hg w5 hbox hb; have n0_ := Aside0.mk (below_step HB.out hb); have n1_ := Aside0.mk (Kd.R_below (Kd.R_mono (Kd.R_bound HO.out) (fun k hk => (show k < g5 by rw [hg]; exact hk.2.2.1))) hb); have n2_ := Aside0.mk (blk_below BK.out hb); have B5 := Aside0.mk hbox; have NE5 := Aside0.mk (show gb ≠ g5 by rw [hg]; exact Nat.ne_of_lt (blk_lt BK.out)); have G5 := Aside0.mk (show w.heap.size ≤ g5 by rw [hg]; exact HB.out.size); clear HB HO BK; have HB := n0_; have HO := n1_; have BK := n2_; clear n0_ n1_ n2_ hg hbox hb; have tz0 := (blk_cell B5.out 0).trans rfl; have tf0 := blk_frozen B5.out 0; have tz1 := (blk_cell B5.out 1).trans rfl; have tf1 := blk_frozen B5.out 1))
        have B6 := Aside0.mk (show ((w5.setCell ⟨g5, 0, none⟩ (.int .i64 o0)).setCell ⟨g5, 1, none⟩ (.int .u64 c0)).heap[g5]? = some (.cells #[.int .i64 o0, .int .u64 c0] 41 (0, 0)) by refine blk_put (cs := #[.int .i64 o0, .int .u64 0]) ?_ 1 _ rfl; refine blk_put (cs := #[.int .i64 0, .int .u64 0]) ?_ 0 _ rfl; exact B5.out)
        have n0_ := Aside0.mk (show Below w.heap.size w ((w5.setCell ⟨g5, 0, none⟩ (.int .i64 o0)).setCell ⟨g5, 1, none⟩ (.int .u64 c0)) by repeat (with_reducible first | exact HB.out | refine below_set ?_ G5.out))
        have n1_ := Aside0.mk (show Kd.R (Kd.int .u8) 5 ((w5.setCell ⟨g5, 0, none⟩ (.int .i64 o0)).setCell ⟨g5, 1, none⟩ (.int .u64 c0)) w.heap.size (fun k => k < g5) u3 b by repeat (with_reducible first | exact HO.out | refine Kd.R_far (p := ⟨g5, _, none⟩) ?_ (fun k hk => Nat.ne_of_lt hk) _))
        have n2_ := Aside0.mk (show ((w5.setCell ⟨g5, 0, none⟩ (.int .i64 o0)).setCell ⟨g5, 1, none⟩ (.int .u64 c0)).heap[gb]? = some (.cells #[.int .u64 a0, .int .i64 a1, .int .i64 o0, .int .u64 c0, .int .i64 o1, .int .u64 c1, .int .i64 o2, .int .u64 c2, .int .i64 o3, .int .u64 c3, .int .i64 o4, .int .u64 c4] 44 (0, 0)) by refine blk_far ?_ NE5.out _; refine blk_far ?_ NE5.out _; exact BK.out)
        clear HB HO B5 BK tz0 tf0 tz1 tf1
        have HB := n0_
        have HO := n1_
        have BK := n2_
        clear n0_ n1_ n2_
        have sz0 := (blk_cell B6.out 0).trans rfl
        have sf0 := blk_frozen B6.out 0
        have sz1 := (blk_cell B6.out 1).trans rfl
        have sf1 := blk_frozen B6.out 1
        go_wp2_with (fail)
        go_ret
        exact ⟨_, rfl, Kd.R_nil _ _ _ _ _, HB.out⟩
      · rw [if_neg d1] at H
        have e1 := decide_eq_false d1
        clear d1
        obtain ⟨p, hp⟩ : ∃ p, (o0 == 0) = p := ⟨_, rfl⟩
        obtain ⟨q, hq⟩ : ∃ q, (c0 == 0) = q := ⟨_, rfl⟩
        rw [hp, hq] at H
        rcases p with _ | _ <;> rcases q with _ | _
        · obtain ⟨y1, h1, hn⟩ := Option.bind_eq_some_iff.mp H
          clear H
          obtain ⟨y2, h2, H⟩ := Option.bind_eq_some_iff.mp hn
          clear hn
          by_cases hl : b.length + y1.length + y2.length ≤ 1000
          case neg => rw [if_neg hl] at H; cases H
          rw [if_pos hl] at H
          have LM := Aside0.mk hl
          have H1 := Aside0.mk h1
          have H2 := Aside0.mk h2
          have HG := Aside0.mk H
          clear H h1 h2 hl
          go_upto_region 8 with (first | ((with_reducible refine gate_dst (N := 5) rfl ?_); (try (refine gate_guard (by rfl) ?_; dsimp only)); refine box_event ?hg (N := 5) ?hd (cs := #[.int .i64 0, .int .u64 0]) (t := 41) ?hr ?_; (case hd => rfl); (case hg => rfl); (case hr => first | (go_simp; done) | (go_simp; rfl)); intro g5 hg w5 hbox hb; have n0_ := Aside0.mk (below_step HB.out hb); have n1_ := Aside0.mk (Kd.R_below (Kd.R_mono (Kd.R_bound HO.out) (fun k hk => (show k < g5 by rw [hg]; exact hk.2.2.1))) hb); have n2_ := Aside0.mk (blk_below BK.out hb); have B5 := Aside0.mk hbox; have NE5 := Aside0.mk (show gb ≠ g5 by rw [hg]; exact Nat.ne_of_lt (blk_lt BK.out)); have G5 := Aside0.mk (show w.heap.size ≤ g5 by rw [hg]; exact HB.out.size); clear HB HO BK; have HB := n0_; have HO := n1_; have BK := n2_; clear n0_ n1_ n2_ hg hbox hb; have tz0 := (blk_cell B5.out 0).trans rfl; have tf0 := blk_frozen B5.out 0; have tz1 := (blk_cell B5.out 1).trans rfl; have tf1 := blk_frozen B5.out 1))
          have B6 := Aside0.mk (show ((w5.setCell ⟨g5, 0, none⟩ (.int .i64 o0)).setCell ⟨g5, 1, none⟩ (.int .u64 c0)).heap[g5]? = some (.cells #[.int .i64 o0, .int .u64 c0] 41 (0, 0)) by refine blk_put (cs := #[.int .i64 o0, .int .u64 0]) ?_ 1 _ rfl; refine blk_put (cs := #[.int .i64 0, .int .u64 0]) ?_ 0 _ rfl; exact B5.out)
          have n0_ := Aside0.mk (show Below w.heap.size w ((w5.setCell ⟨g5, 0, none⟩ (.int .i64 o0)).setCell ⟨g5, 1, none⟩ (.int .u64 c0)) by repeat (with_reducible first | exact HB.out | refine below_set ?_ G5.out))
          have n1_ := Aside0.mk (show Kd.R (Kd.int .u8) 5 ((w5.setCell ⟨g5, 0, none⟩ (.int .i64 o0)).setCell ⟨g5, 1, none⟩ (.int .u64 c0)) w.heap.size (fun k => k < g5) u3 b by repeat (with_reducible first | exact HO.out | refine Kd.R_far (p := ⟨g5, _, none⟩) ?_ (fun k hk => Nat.ne_of_lt hk) _))
          have n2_ := Aside0.mk (show ((w5.setCell ⟨g5, 0, none⟩ (.int .i64 o0)).setCell ⟨g5, 1, none⟩ (.int .u64 c0)).heap[gb]? = some (.cells #[.int .u64 a0, .int .i64 a1, .int .i64 o0, .int .u64 c0, .int .i64 o1, .int .u64 c1, .int .i64 o2, .int .u64 c2, .int .i64 o3, .int .u64 c3, .int .i64 o4, .int .u64 c4] 44 (0, 0)) by refine blk_far ?_ NE5.out _; refine blk_far ?_ NE5.out _; exact BK.out)
          clear HB HO B5 BK tz0 tf0 tz1 tf1
          have HB := n0_
          have HO := n1_
          have BK := n2_
          clear n0_ n1_ n2_
          have sz0 := (blk_cell B6.out 0).trans rfl
          have sf0 := blk_frozen B6.out 0
          have sz1 := (blk_cell B6.out 1).trans rfl
          have sf1 := blk_frozen B6.out 1
          have n0_ := Aside0.mk (Kd.R_mono HO.out (ok' := fun _ => True) (fun _ _ => trivial))
          clear HO
          have HO := n0_
          clear n0_
          go_upto_region 10 with (fail)
          have n0_ := Aside0.mk (blk_drew B6.out)
          have n1_ := Aside0.mk (below_drew1 HB.out)
          have n2_ := Aside0.mk (Kd.R_drew HO.out)
          have n3_ := Aside0.mk (blk_drew BK.out)
          clear sz0 sf0 sz1 sf1 B6 HB HO BK
          have B6 := n0_
          have HB := n1_
          have HO := n2_
          have BK := n3_
          clear n0_ n1_ n2_ n3_
          refine start_ (n := 11) (S := fun w' => w'.cell? ⟨g5, 0, none⟩ = some (.int .i64 o0) ∧ w'.cell? ⟨g5, 1, none⟩ = some (.int .u64 c0)) (ds := []) #[false, false, false, false, false, false, false, false, false, false, false] (by kernel_rfl) rfl rfl ⟨(blk_cell B6.out 0).trans rfl, (blk_cell B6.out 1).trans rfl⟩ (fun hHeld => ?_)
          refine pure_ (i := 0) (N := some 33) (v := ?_) (a' := ?_) #[true, false, false, false, false, false, false, false, false, false, false] rfl rfl (by kernel_rfl) (fun _ _ _ h => h) (Or.inl ⟨by rfl, ?_⟩) ?_ ?_
          rotate_left
          · intro w'
            go_simp
            with_reducible rfl
          rotate_left
          · simp only [Act.put, List.setIfInBounds_toArray, List.set_cons_zero, List.set_cons_succ]
            rfl
          refine pure_ (i := 1) (N := some 34) (v := ?_) (a' := ?_) #[true, true, false, false, false, false, false, false, false, false, false] rfl rfl (by kernel_rfl) (fun _ _ _ h => h) (Or.inl ⟨by rfl, ?_⟩) ?_ ?_
          rotate_left
          · intro w'
            go_simp
            with_reducible rfl
          rotate_left
          · simp only [Act.put, List.setIfInBounds_toArray, List.set_cons_zero, List.set_cons_succ]
            rfl
          refine take_ (i := 2) (N := some 35) (v := ?_) (a' := ?_) #[true, true, true, false, false, false, false, false, false, false, false] rfl rfl (by kernel_rfl) (fun _ _ _ h => h) (Or.inl ⟨by rfl, ?_⟩) hHeld ?_ ?_
          rotate_left
          · rintro w' ⟨s0, s1⟩
            go_simp
            with_reducible rfl
          rotate_left
          · simp only [Act.put, List.setIfInBounds_toArray, List.set_cons_zero, List.set_cons_succ]
            rfl
          refine pure_ (i := 3) (N := some 36) (v := ?_) (a' := ?_) #[true, true, true, true, false, false, false, false, false, false, false] rfl rfl (by kernel_rfl) (fun _ _ _ h => h) (Or.inl ⟨by rfl, ?_⟩) ?_ ?_
          rotate_left
          · intro w'
            go_simp
            with_reducible rfl
          rotate_left
          · simp only [Act.put, List.setIfInBounds_toArray, List.set_cons_zero, List.set_cons_succ]
            rfl
          refine pure_ (i := 6) (N := some 39) (v := ?_) (a' := ?_) #[true, true, true, true, false, false, true, false, false, false, false] rfl rfl (by kernel_rfl) (fun _ _ _ h => h) (Or.inl ⟨by rfl, ?_⟩) ?_ ?_
          rotate_left
          · intro w'
            go_simp
            with_reducible rfl
          rotate_left
          · simp only [Act.put, List.setIfInBounds_toArray, List.set_cons_zero, List.set_cons_succ]
            rfl
          refine take_ (i := 7) (N := some 40) (v := ?_) (a' := ?_) #[true, true, true, true, false, false, true, true, false, false, false] rfl rfl (by kernel_rfl) (fun _ _ _ h => h) (Or.inl ⟨by rfl, ?_⟩) hHeld ?_ ?_
          rotate_left
          · rintro w' ⟨s0, s1⟩
            go_simp
            with_reducible rfl
          rotate_left
          · simp only [Act.put, List.setIfInBounds_toArray, List.set_cons_zero, List.set_cons_succ]
            rfl
          refine one_ (i := 4) (N := some 37) #[true, true, true, true, true, false, true, true, false, false, false] rfl rfl (by kernel_rfl) (by decide) (fun K hK => ?_)
          refine goes_ Try.func45 (by kernel_rfl) rfl #[.int .u64 (IntKind.u64.wrap o0), .int .i64 8] (by rfl) rfl rfl (by (try simp only [List.map_toArray, List.map_cons, List.map_nil]); first | done | rfl) ?_
          with_reducible refine (pandectref2_High.calls k _ _ y1 _ H1.out).mono ?_
          rintro e w6 ⟨v37, rfl, ho_, hb_⟩
          refine ⟨_, rfl, ?_⟩
          have n0_ := Aside0.mk (blk_below BK.out hb_)
          have n1_ := Aside0.mk (blk_below B6.out hb_)
          have n2_ := Aside0.mk (Kd.R_below HO.out hb_)
          have n3_ := Aside0.mk (below_step HB.out hb_)
          clear BK B6 HO HB
          have BK := n0_
          have B6 := n1_
          have HO := n2_
          have HB := n3_
          clear n0_ n1_ n2_ n3_
          obtain ⟨A_y1, c_y1, e_, hc_, hC_⟩ := Kd.R_reads ho_
          subst e_
          have HC_y1 := Aside0.mk hC_
          clear ho_ hb_ hc_ hC_
          refine hK.out _ _ ⟨(blk_cell B6.out 0).trans rfl, (blk_cell B6.out 1).trans rfl⟩ (fun hHeld => ?_)
          clear hK K
          refine norm_ (a' := ?_) ?_ ?_
          rotate_left
          · show Act.put _ (some 37) _ = _
            simp only [Act.put, List.setIfInBounds_toArray, List.set_cons_zero, List.set_cons_succ]
            rfl
          refine one_ (i := 5) (N := some 38) #[true, true, true, true, true, true, true, true, false, false, false] rfl rfl (by kernel_rfl) (by decide) (fun K hK => ?_)
          refine Kd.R_append_rows_step (Kd.int .u8) (w0 := w) w.heap.size (by rfl) (.tmp 33) (.tmp 37) 22 5 (.int .u8 0) 1 rfl Try.underlying22 info5 rfl (by decide) (by omega) u3 b y1 _ _ _ (fun _ => True) (fun _ => False) rfl rfl ?aO ?aR (fun _ _ h => h) (fun _ h => h.elim) ?aF ?aB ?aS ?aL ?_
          (case aR => exact HC_y1.out)
          (case aB => exact HB.out)
          (case aF => exact (fun _ _ => trivial))
          (case aO => exact HO.out)
          (case aS => exact (below_size HB.out))
          (case aL => have := LM.out; omega)
          intro v38 w7 ho hb hg hat
          have n0_ := Aside0.mk (blk_grown (g := gb) (o := .cells #[.int .u64 a0, .int .i64 a1, .int .i64 o0, .int .u64 c0, .int .i64 o1, .int .u64 c1, .int .i64 o2, .int .u64 c2, .int .i64 o3, .int .u64 c3, .int .i64 o4, .int .u64 c4] 44 (0, 0)) BK.out hg (Kd.R_ne HO.out BK.out (by decide)))
          have n1_ := Aside0.mk (blk_grown (g := g5) (o := .cells #[.int .i64 o0, .int .u64 c0] 41 (0, 0)) B6.out hg (Kd.R_ne HO.out B6.out (by decide)))
          have n2_ := Aside0.mk ho
          have n3_ := Aside0.mk hb
          clear BK B6 HO HB HC_y1
          have BK := n0_
          have B6 := n1_
          have HO := n2_
          have HB := n3_
          clear n0_ n1_ n2_ n3_ ho hb hg hat
          refine hK.out _ _ ⟨(blk_cell B6.out 0).trans rfl, (blk_cell B6.out 1).trans rfl⟩ (fun hHeld => ?_)
          clear hK K
          refine norm_ (a' := ?_) ?_ ?_
          rotate_left
          · show Act.put _ (some 38) _ = _
            simp only [Act.put, List.setIfInBounds_toArray, List.set_cons_zero, List.set_cons_succ]
            rfl
          refine one_ (i := 8) (N := some 41) #[true, true, true, true, true, true, true, true, true, false, false] rfl rfl (by kernel_rfl) (by decide) (fun K hK => ?_)
          refine goes_ Try.func45 (by kernel_rfl) rfl #[.int .u64 c0, .int .i64 8] (by rfl) rfl rfl (by (try simp only [List.map_toArray, List.map_cons, List.map_nil]); first | done | rfl) ?_
          with_reducible refine (pandectref2_High.calls k _ _ y2 _ H2.out).mono ?_
          rintro e w8 ⟨v41, rfl, ho_, hb_⟩
          refine ⟨_, rfl, ?_⟩
          have n0_ := Aside0.mk (blk_below BK.out hb_)
          have n1_ := Aside0.mk (blk_below B6.out hb_)
          have n2_ := Aside0.mk (Kd.R_below HO.out hb_)
          have n3_ := Aside0.mk (below_step HB.out hb_)
          clear BK B6 HO HB
          have BK := n0_
          have B6 := n1_
          have HO := n2_
          have HB := n3_
          clear n0_ n1_ n2_ n3_
          obtain ⟨A_y2, c_y2, e_, hc_, hC_⟩ := Kd.R_reads ho_
          subst e_
          have HC_y2 := Aside0.mk hC_
          clear ho_ hb_ hc_ hC_
          refine hK.out _ _ ⟨(blk_cell B6.out 0).trans rfl, (blk_cell B6.out 1).trans rfl⟩ (fun hHeld => ?_)
          clear hK K
          refine norm_ (a' := ?_) ?_ ?_
          rotate_left
          · show Act.put _ (some 41) _ = _
            simp only [Act.put, List.setIfInBounds_toArray, List.set_cons_zero, List.set_cons_succ]
            rfl
          refine one_ (i := 9) (N := some 42) #[true, true, true, true, true, true, true, true, true, true, false] rfl rfl (by kernel_rfl) (by decide) (fun K hK => ?_)
          refine Kd.R_append_rows_step (Kd.int .u8) (w0 := w) w.heap.size (by rfl) (.tmp 38) (.tmp 41) 22 5 (.int .u8 0) 1 rfl Try.underlying22 info5 rfl (by decide) (by omega) v38 (b ++ y1) y2 _ _ _ (fun _ => True) (fun _ => False) rfl rfl ?aO ?aR (fun _ _ h => h) (fun _ h => h.elim) ?aF ?aB ?aS ?aL ?_
          (case aR => exact HC_y2.out)
          (case aB => exact HB.out)
          (case aF => exact (fun _ _ => trivial))
          (case aO => exact HO.out)
          (case aS => exact (below_size HB.out))
          (case aL => have := LM.out; rw [List.length_append]; omega)
          intro v42 w9 ho hb hg hat
          have n0_ := Aside0.mk (blk_grown (g := gb) (o := .cells #[.int .u64 a0, .int .i64 a1, .int .i64 o0, .int .u64 c0, .int .i64 o1, .int .u64 c1, .int .i64 o2, .int .u64 c2, .int .i64 o3, .int .u64 c3, .int .i64 o4, .int .u64 c4] 44 (0, 0)) BK.out hg (Kd.R_ne HO.out BK.out (by decide)))
          have n1_ := Aside0.mk (blk_grown (g := g5) (o := .cells #[.int .i64 o0, .int .u64 c0] 41 (0, 0)) B6.out hg (Kd.R_ne HO.out B6.out (by decide)))
          have n2_ := Aside0.mk ho
          have n3_ := Aside0.mk hb
          clear BK B6 HO HB HC_y2
          have BK := n0_
          have B6 := n1_
          have HO := n2_
          have HB := n3_
          clear n0_ n1_ n2_ n3_ ho hb hg hat
          refine hK.out _ _ ⟨(blk_cell B6.out 0).trans rfl, (blk_cell B6.out 1).trans rfl⟩ (fun hHeld => ?_)
          clear hK K
          refine norm_ (a' := ?_) ?_ ?_
          rotate_left
          · show Act.put _ (some 42) _ = _
            simp only [Act.put, List.setIfInBounds_toArray, List.set_cons_zero, List.set_cons_succ]
            rfl
          refine pure_ (i := 10) (N := some 3) (v := ?_) (a' := ?_) #[true, true, true, true, true, true, true, true, true, true, true] rfl rfl (by kernel_rfl) (fun _ _ _ h => h) (Or.inl ⟨by rfl, ?_⟩) ?_ ?_
          rotate_left
          · intro w'
            go_simp
            with_reducible rfl
          rotate_left
          · simp only [Act.put, List.setIfInBounds_toArray, List.set_cons_zero, List.set_cons_succ]
            rfl
          refine done_ (by kernel_rfl) ?_
          go_wp2_with (fail)
          go_roundg 4
          case measure => omega
          case rel => exact ⟨b ++ y1 ++ y2, 1, (by first | rfl | kernel_rfl), ⟨by have := HI.out; omega⟩, ⟨by decide⟩, HG, BK, HO, HB⟩
        · obtain rfl := Option.some.inj (H : some [] = some r)
          go_upto_region 8 with (first | ((with_reducible refine gate_dst (N := 5) rfl ?_); (try (refine gate_guard (by rfl) ?_; dsimp only)); refine box_event ?hg (N := 5) ?hd (cs := #[.int .i64 0, .int .u64 0]) (t := 41) ?hr ?_; (case hd => rfl); (case hg => rfl); (case hr => first | (go_simp; done) | (go_simp; rfl)); intro g5 hg w5 hbox hb; have n0_ := Aside0.mk (below_step HB.out hb); have n1_ := Aside0.mk (Kd.R_below (Kd.R_mono (Kd.R_bound HO.out) (fun k hk => (show k < g5 by rw [hg]; exact hk.2.2.1))) hb); have n2_ := Aside0.mk (blk_below BK.out hb); have B5 := Aside0.mk hbox; have NE5 := Aside0.mk (show gb ≠ g5 by rw [hg]; exact Nat.ne_of_lt (blk_lt BK.out)); have G5 := Aside0.mk (show w.heap.size ≤ g5 by rw [hg]; exact HB.out.size); clear HB HO BK; have HB := n0_; have HO := n1_; have BK := n2_; clear n0_ n1_ n2_ hg hbox hb; have tz0 := (blk_cell B5.out 0).trans rfl; have tf0 := blk_frozen B5.out 0; have tz1 := (blk_cell B5.out 1).trans rfl; have tf1 := blk_frozen B5.out 1))
          have B6 := Aside0.mk (show ((w5.setCell ⟨g5, 0, none⟩ (.int .i64 o0)).setCell ⟨g5, 1, none⟩ (.int .u64 c0)).heap[g5]? = some (.cells #[.int .i64 o0, .int .u64 c0] 41 (0, 0)) by refine blk_put (cs := #[.int .i64 o0, .int .u64 0]) ?_ 1 _ rfl; refine blk_put (cs := #[.int .i64 0, .int .u64 0]) ?_ 0 _ rfl; exact B5.out)
          have n0_ := Aside0.mk (show Below w.heap.size w ((w5.setCell ⟨g5, 0, none⟩ (.int .i64 o0)).setCell ⟨g5, 1, none⟩ (.int .u64 c0)) by repeat (with_reducible first | exact HB.out | refine below_set ?_ G5.out))
          have n1_ := Aside0.mk (show Kd.R (Kd.int .u8) 5 ((w5.setCell ⟨g5, 0, none⟩ (.int .i64 o0)).setCell ⟨g5, 1, none⟩ (.int .u64 c0)) w.heap.size (fun k => k < g5) u3 b by repeat (with_reducible first | exact HO.out | refine Kd.R_far (p := ⟨g5, _, none⟩) ?_ (fun k hk => Nat.ne_of_lt hk) _))
          have n2_ := Aside0.mk (show ((w5.setCell ⟨g5, 0, none⟩ (.int .i64 o0)).setCell ⟨g5, 1, none⟩ (.int .u64 c0)).heap[gb]? = some (.cells #[.int .u64 a0, .int .i64 a1, .int .i64 o0, .int .u64 c0, .int .i64 o1, .int .u64 c1, .int .i64 o2, .int .u64 c2, .int .i64 o3, .int .u64 c3, .int .i64 o4, .int .u64 c4] 44 (0, 0)) by refine blk_far ?_ NE5.out _; refine blk_far ?_ NE5.out _; exact BK.out)
          clear HB HO B5 BK tz0 tf0 tz1 tf1
          have HB := n0_
          have HO := n1_
          have BK := n2_
          clear n0_ n1_ n2_
          have sz0 := (blk_cell B6.out 0).trans rfl
          have sf0 := blk_frozen B6.out 0
          have sz1 := (blk_cell B6.out 1).trans rfl
          have sf1 := blk_frozen B6.out 1
          go_wp2_with (fail)
          go_ret
          exact ⟨_, rfl, Kd.R_nil _ _ _ _ _, HB.out⟩
        · obtain rfl := Option.some.inj (H : some [] = some r)
          go_upto_region 8 with (first | ((with_reducible refine gate_dst (N := 5) rfl ?_); (try (refine gate_guard (by rfl) ?_; dsimp only)); refine box_event ?hg (N := 5) ?hd (cs := #[.int .i64 0, .int .u64 0]) (t := 41) ?hr ?_; (case hd => rfl); (case hg => rfl); (case hr => first | (go_simp; done) | (go_simp; rfl)); intro g5 hg w5 hbox hb; have n0_ := Aside0.mk (below_step HB.out hb); have n1_ := Aside0.mk (Kd.R_below (Kd.R_mono (Kd.R_bound HO.out) (fun k hk => (show k < g5 by rw [hg]; exact hk.2.2.1))) hb); have n2_ := Aside0.mk (blk_below BK.out hb); have B5 := Aside0.mk hbox; have NE5 := Aside0.mk (show gb ≠ g5 by rw [hg]; exact Nat.ne_of_lt (blk_lt BK.out)); have G5 := Aside0.mk (show w.heap.size ≤ g5 by rw [hg]; exact HB.out.size); clear HB HO BK; have HB := n0_; have HO := n1_; have BK := n2_; clear n0_ n1_ n2_ hg hbox hb; have tz0 := (blk_cell B5.out 0).trans rfl; have tf0 := blk_frozen B5.out 0; have tz1 := (blk_cell B5.out 1).trans rfl; have tf1 := blk_frozen B5.out 1))
          have B6 := Aside0.mk (show ((w5.setCell ⟨g5, 0, none⟩ (.int .i64 o0)).setCell ⟨g5, 1, none⟩ (.int .u64 c0)).heap[g5]? = some (.cells #[.int .i64 o0, .int .u64 c0] 41 (0, 0)) by refine blk_put (cs := #[.int .i64 o0, .int .u64 0]) ?_ 1 _ rfl; refine blk_put (cs := #[.int .i64 0, .int .u64 0]) ?_ 0 _ rfl; exact B5.out)
          have n0_ := Aside0.mk (show Below w.heap.size w ((w5.setCell ⟨g5, 0, none⟩ (.int .i64 o0)).setCell ⟨g5, 1, none⟩ (.int .u64 c0)) by repeat (with_reducible first | exact HB.out | refine below_set ?_ G5.out))
          have n1_ := Aside0.mk (show Kd.R (Kd.int .u8) 5 ((w5.setCell ⟨g5, 0, none⟩ (.int .i64 o0)).setCell ⟨g5, 1, none⟩ (.int .u64 c0)) w.heap.size (fun k => k < g5) u3 b by repeat (with_reducible first | exact HO.out | refine Kd.R_far (p := ⟨g5, _, none⟩) ?_ (fun k hk => Nat.ne_of_lt hk) _))
          have n2_ := Aside0.mk (show ((w5.setCell ⟨g5, 0, none⟩ (.int .i64 o0)).setCell ⟨g5, 1, none⟩ (.int .u64 c0)).heap[gb]? = some (.cells #[.int .u64 a0, .int .i64 a1, .int .i64 o0, .int .u64 c0, .int .i64 o1, .int .u64 c1, .int .i64 o2, .int .u64 c2, .int .i64 o3, .int .u64 c3, .int .i64 o4, .int .u64 c4] 44 (0, 0)) by refine blk_far ?_ NE5.out _; refine blk_far ?_ NE5.out _; exact BK.out)
          clear HB HO B5 BK tz0 tf0 tz1 tf1
          have HB := n0_
          have HO := n1_
          have BK := n2_
          clear n0_ n1_ n2_
          have sz0 := (blk_cell B6.out 0).trans rfl
          have sf0 := blk_frozen B6.out 0
          have sz1 := (blk_cell B6.out 1).trans rfl
          have sf1 := blk_frozen B6.out 1
          go_wp2_with (fail)
          go_ret
          exact ⟨_, rfl, Kd.R_nil _ _ _ _ _, HB.out⟩
        · obtain ⟨y1, h1, hn⟩ := Option.bind_eq_some_iff.mp H
          clear H
          obtain ⟨y2, h2, H⟩ := Option.bind_eq_some_iff.mp hn
          clear hn
          by_cases hl : b.length + y1.length + y2.length ≤ 1000
          case neg => rw [if_neg hl] at H; cases H
          rw [if_pos hl] at H
          have LM := Aside0.mk hl
          have H1 := Aside0.mk h1
          have H2 := Aside0.mk h2
          have HG := Aside0.mk H
          clear H h1 h2 hl
          go_upto_region 8 with (first | ((with_reducible refine gate_dst (N := 5) rfl ?_); (try (refine gate_guard (by rfl) ?_; dsimp only)); refine box_event ?hg (N := 5) ?hd (cs := #[.int .i64 0, .int .u64 0]) (t := 41) ?hr ?_; (case hd => rfl); (case hg => rfl); (case hr => first | (go_simp; done) | (go_simp; rfl)); intro g5 hg w5 hbox hb; have n0_ := Aside0.mk (below_step HB.out hb); have n1_ := Aside0.mk (Kd.R_below (Kd.R_mono (Kd.R_bound HO.out) (fun k hk => (show k < g5 by rw [hg]; exact hk.2.2.1))) hb); have n2_ := Aside0.mk (blk_below BK.out hb); have B5 := Aside0.mk hbox; have NE5 := Aside0.mk (show gb ≠ g5 by rw [hg]; exact Nat.ne_of_lt (blk_lt BK.out)); have G5 := Aside0.mk (show w.heap.size ≤ g5 by rw [hg]; exact HB.out.size); clear HB HO BK; have HB := n0_; have HO := n1_; have BK := n2_; clear n0_ n1_ n2_ hg hbox hb; have tz0 := (blk_cell B5.out 0).trans rfl; have tf0 := blk_frozen B5.out 0; have tz1 := (blk_cell B5.out 1).trans rfl; have tf1 := blk_frozen B5.out 1))
          have B6 := Aside0.mk (show ((w5.setCell ⟨g5, 0, none⟩ (.int .i64 o0)).setCell ⟨g5, 1, none⟩ (.int .u64 c0)).heap[g5]? = some (.cells #[.int .i64 o0, .int .u64 c0] 41 (0, 0)) by refine blk_put (cs := #[.int .i64 o0, .int .u64 0]) ?_ 1 _ rfl; refine blk_put (cs := #[.int .i64 0, .int .u64 0]) ?_ 0 _ rfl; exact B5.out)
          have n0_ := Aside0.mk (show Below w.heap.size w ((w5.setCell ⟨g5, 0, none⟩ (.int .i64 o0)).setCell ⟨g5, 1, none⟩ (.int .u64 c0)) by repeat (with_reducible first | exact HB.out | refine below_set ?_ G5.out))
          have n1_ := Aside0.mk (show Kd.R (Kd.int .u8) 5 ((w5.setCell ⟨g5, 0, none⟩ (.int .i64 o0)).setCell ⟨g5, 1, none⟩ (.int .u64 c0)) w.heap.size (fun k => k < g5) u3 b by repeat (with_reducible first | exact HO.out | refine Kd.R_far (p := ⟨g5, _, none⟩) ?_ (fun k hk => Nat.ne_of_lt hk) _))
          have n2_ := Aside0.mk (show ((w5.setCell ⟨g5, 0, none⟩ (.int .i64 o0)).setCell ⟨g5, 1, none⟩ (.int .u64 c0)).heap[gb]? = some (.cells #[.int .u64 a0, .int .i64 a1, .int .i64 o0, .int .u64 c0, .int .i64 o1, .int .u64 c1, .int .i64 o2, .int .u64 c2, .int .i64 o3, .int .u64 c3, .int .i64 o4, .int .u64 c4] 44 (0, 0)) by refine blk_far ?_ NE5.out _; refine blk_far ?_ NE5.out _; exact BK.out)
          clear HB HO B5 BK tz0 tf0 tz1 tf1
          have HB := n0_
          have HO := n1_
          have BK := n2_
          clear n0_ n1_ n2_
          have sz0 := (blk_cell B6.out 0).trans rfl
          have sf0 := blk_frozen B6.out 0
          have sz1 := (blk_cell B6.out 1).trans rfl
          have sf1 := blk_frozen B6.out 1
          have n0_ := Aside0.mk (Kd.R_mono HO.out (ok' := fun _ => True) (fun _ _ => trivial))
          clear HO
          have HO := n0_
          clear n0_
          go_upto_region 10 with (fail)
          have n0_ := Aside0.mk (blk_drew B6.out)
          have n1_ := Aside0.mk (below_drew1 HB.out)
          have n2_ := Aside0.mk (Kd.R_drew HO.out)
          have n3_ := Aside0.mk (blk_drew BK.out)
          clear sz0 sf0 sz1 sf1 B6 HB HO BK
          have B6 := n0_
          have HB := n1_
          have HO := n2_
          have BK := n3_
          clear n0_ n1_ n2_ n3_
          refine start_ (n := 11) (S := fun w' => w'.cell? ⟨g5, 0, none⟩ = some (.int .i64 o0) ∧ w'.cell? ⟨g5, 1, none⟩ = some (.int .u64 c0)) (ds := []) #[false, false, false, false, false, false, false, false, false, false, false] (by kernel_rfl) rfl rfl ⟨(blk_cell B6.out 0).trans rfl, (blk_cell B6.out 1).trans rfl⟩ (fun hHeld => ?_)
          refine pure_ (i := 0) (N := some 33) (v := ?_) (a' := ?_) #[true, false, false, false, false, false, false, false, false, false, false] rfl rfl (by kernel_rfl) (fun _ _ _ h => h) (Or.inl ⟨by rfl, ?_⟩) ?_ ?_
          rotate_left
          · intro w'
            go_simp
            with_reducible rfl
          rotate_left
          · simp only [Act.put, List.setIfInBounds_toArray, List.set_cons_zero, List.set_cons_succ]
            rfl
          refine pure_ (i := 1) (N := some 34) (v := ?_) (a' := ?_) #[true, true, false, false, false, false, false, false, false, false, false] rfl rfl (by kernel_rfl) (fun _ _ _ h => h) (Or.inl ⟨by rfl, ?_⟩) ?_ ?_
          rotate_left
          · intro w'
            go_simp
            with_reducible rfl
          rotate_left
          · simp only [Act.put, List.setIfInBounds_toArray, List.set_cons_zero, List.set_cons_succ]
            rfl
          refine take_ (i := 2) (N := some 35) (v := ?_) (a' := ?_) #[true, true, true, false, false, false, false, false, false, false, false] rfl rfl (by kernel_rfl) (fun _ _ _ h => h) (Or.inl ⟨by rfl, ?_⟩) hHeld ?_ ?_
          rotate_left
          · rintro w' ⟨s0, s1⟩
            go_simp
            with_reducible rfl
          rotate_left
          · simp only [Act.put, List.setIfInBounds_toArray, List.set_cons_zero, List.set_cons_succ]
            rfl
          refine pure_ (i := 3) (N := some 36) (v := ?_) (a' := ?_) #[true, true, true, true, false, false, false, false, false, false, false] rfl rfl (by kernel_rfl) (fun _ _ _ h => h) (Or.inl ⟨by rfl, ?_⟩) ?_ ?_
          rotate_left
          · intro w'
            go_simp
            with_reducible rfl
          rotate_left
          · simp only [Act.put, List.setIfInBounds_toArray, List.set_cons_zero, List.set_cons_succ]
            rfl
          refine pure_ (i := 6) (N := some 39) (v := ?_) (a' := ?_) #[true, true, true, true, false, false, true, false, false, false, false] rfl rfl (by kernel_rfl) (fun _ _ _ h => h) (Or.inl ⟨by rfl, ?_⟩) ?_ ?_
          rotate_left
          · intro w'
            go_simp
            with_reducible rfl
          rotate_left
          · simp only [Act.put, List.setIfInBounds_toArray, List.set_cons_zero, List.set_cons_succ]
            rfl
          refine take_ (i := 7) (N := some 40) (v := ?_) (a' := ?_) #[true, true, true, true, false, false, true, true, false, false, false] rfl rfl (by kernel_rfl) (fun _ _ _ h => h) (Or.inl ⟨by rfl, ?_⟩) hHeld ?_ ?_
          rotate_left
          · rintro w' ⟨s0, s1⟩
            go_simp
            with_reducible rfl
          rotate_left
          · simp only [Act.put, List.setIfInBounds_toArray, List.set_cons_zero, List.set_cons_succ]
            rfl
          refine one_ (i := 4) (N := some 37) #[true, true, true, true, true, false, true, true, false, false, false] rfl rfl (by kernel_rfl) (by decide) (fun K hK => ?_)
          refine goes_ Try.func45 (by kernel_rfl) rfl #[.int .u64 (IntKind.u64.wrap o0), .int .i64 8] (by rfl) rfl rfl (by (try simp only [List.map_toArray, List.map_cons, List.map_nil]); first | done | rfl) ?_
          with_reducible refine (pandectref2_High.calls k _ _ y1 _ H1.out).mono ?_
          rintro e w6 ⟨v37, rfl, ho_, hb_⟩
          refine ⟨_, rfl, ?_⟩
          have n0_ := Aside0.mk (blk_below BK.out hb_)
          have n1_ := Aside0.mk (blk_below B6.out hb_)
          have n2_ := Aside0.mk (Kd.R_below HO.out hb_)
          have n3_ := Aside0.mk (below_step HB.out hb_)
          clear BK B6 HO HB
          have BK := n0_
          have B6 := n1_
          have HO := n2_
          have HB := n3_
          clear n0_ n1_ n2_ n3_
          obtain ⟨A_y1, c_y1, e_, hc_, hC_⟩ := Kd.R_reads ho_
          subst e_
          have HC_y1 := Aside0.mk hC_
          clear ho_ hb_ hc_ hC_
          refine hK.out _ _ ⟨(blk_cell B6.out 0).trans rfl, (blk_cell B6.out 1).trans rfl⟩ (fun hHeld => ?_)
          clear hK K
          refine norm_ (a' := ?_) ?_ ?_
          rotate_left
          · show Act.put _ (some 37) _ = _
            simp only [Act.put, List.setIfInBounds_toArray, List.set_cons_zero, List.set_cons_succ]
            rfl
          refine one_ (i := 5) (N := some 38) #[true, true, true, true, true, true, true, true, false, false, false] rfl rfl (by kernel_rfl) (by decide) (fun K hK => ?_)
          refine Kd.R_append_rows_step (Kd.int .u8) (w0 := w) w.heap.size (by rfl) (.tmp 33) (.tmp 37) 22 5 (.int .u8 0) 1 rfl Try.underlying22 info5 rfl (by decide) (by omega) u3 b y1 _ _ _ (fun _ => True) (fun _ => False) rfl rfl ?aO ?aR (fun _ _ h => h) (fun _ h => h.elim) ?aF ?aB ?aS ?aL ?_
          (case aR => exact HC_y1.out)
          (case aB => exact HB.out)
          (case aF => exact (fun _ _ => trivial))
          (case aO => exact HO.out)
          (case aS => exact (below_size HB.out))
          (case aL => have := LM.out; omega)
          intro v38 w7 ho hb hg hat
          have n0_ := Aside0.mk (blk_grown (g := gb) (o := .cells #[.int .u64 a0, .int .i64 a1, .int .i64 o0, .int .u64 c0, .int .i64 o1, .int .u64 c1, .int .i64 o2, .int .u64 c2, .int .i64 o3, .int .u64 c3, .int .i64 o4, .int .u64 c4] 44 (0, 0)) BK.out hg (Kd.R_ne HO.out BK.out (by decide)))
          have n1_ := Aside0.mk (blk_grown (g := g5) (o := .cells #[.int .i64 o0, .int .u64 c0] 41 (0, 0)) B6.out hg (Kd.R_ne HO.out B6.out (by decide)))
          have n2_ := Aside0.mk ho
          have n3_ := Aside0.mk hb
          clear BK B6 HO HB HC_y1
          have BK := n0_
          have B6 := n1_
          have HO := n2_
          have HB := n3_
          clear n0_ n1_ n2_ n3_ ho hb hg hat
          refine hK.out _ _ ⟨(blk_cell B6.out 0).trans rfl, (blk_cell B6.out 1).trans rfl⟩ (fun hHeld => ?_)
          clear hK K
          refine norm_ (a' := ?_) ?_ ?_
          rotate_left
          · show Act.put _ (some 38) _ = _
            simp only [Act.put, List.setIfInBounds_toArray, List.set_cons_zero, List.set_cons_succ]
            rfl
          refine one_ (i := 8) (N := some 41) #[true, true, true, true, true, true, true, true, true, false, false] rfl rfl (by kernel_rfl) (by decide) (fun K hK => ?_)
          refine goes_ Try.func45 (by kernel_rfl) rfl #[.int .u64 c0, .int .i64 8] (by rfl) rfl rfl (by (try simp only [List.map_toArray, List.map_cons, List.map_nil]); first | done | rfl) ?_
          with_reducible refine (pandectref2_High.calls k _ _ y2 _ H2.out).mono ?_
          rintro e w8 ⟨v41, rfl, ho_, hb_⟩
          refine ⟨_, rfl, ?_⟩
          have n0_ := Aside0.mk (blk_below BK.out hb_)
          have n1_ := Aside0.mk (blk_below B6.out hb_)
          have n2_ := Aside0.mk (Kd.R_below HO.out hb_)
          have n3_ := Aside0.mk (below_step HB.out hb_)
          clear BK B6 HO HB
          have BK := n0_
          have B6 := n1_
          have HO := n2_
          have HB := n3_
          clear n0_ n1_ n2_ n3_
          obtain ⟨A_y2, c_y2, e_, hc_, hC_⟩ := Kd.R_reads ho_
          subst e_
          have HC_y2 := Aside0.mk hC_
          clear ho_ hb_ hc_ hC_
          refine hK.out _ _ ⟨(blk_cell B6.out 0).trans rfl, (blk_cell B6.out 1).trans rfl⟩ (fun hHeld => ?_)
          clear hK K
          refine norm_ (a' := ?_) ?_ ?_
          rotate_left
          · show Act.put _ (some 41) _ = _
            simp only [Act.put, List.setIfInBounds_toArray, List.set_cons_zero, List.set_cons_succ]
            rfl
          refine one_ (i := 9) (N := some 42) #[true, true, true, true, true, true, true, true, true, true, false] rfl rfl (by kernel_rfl) (by decide) (fun K hK => ?_)
          refine Kd.R_append_rows_step (Kd.int .u8) (w0 := w) w.heap.size (by rfl) (.tmp 38) (.tmp 41) 22 5 (.int .u8 0) 1 rfl Try.underlying22 info5 rfl (by decide) (by omega) v38 (b ++ y1) y2 _ _ _ (fun _ => True) (fun _ => False) rfl rfl ?aO ?aR (fun _ _ h => h) (fun _ h => h.elim) ?aF ?aB ?aS ?aL ?_
          (case aR => exact HC_y2.out)
          (case aB => exact HB.out)
          (case aF => exact (fun _ _ => trivial))
          (case aO => exact HO.out)
          (case aS => exact (below_size HB.out))
          (case aL => have := LM.out; rw [List.length_append]; omega)
          intro v42 w9 ho hb hg hat
          have n0_ := Aside0.mk (blk_grown (g := gb) (o := .cells #[.int .u64 a0, .int .i64 a1, .int .i64 o0, .int .u64 c0, .int .i64 o1, .int .u64 c1, .int .i64 o2, .int .u64 c2, .int .i64 o3, .int .u64 c3, .int .i64 o4, .int .u64 c4] 44 (0, 0)) BK.out hg (Kd.R_ne HO.out BK.out (by decide)))
          have n1_ := Aside0.mk (blk_grown (g := g5) (o := .cells #[.int .i64 o0, .int .u64 c0] 41 (0, 0)) B6.out hg (Kd.R_ne HO.out B6.out (by decide)))
          have n2_ := Aside0.mk ho
          have n3_ := Aside0.mk hb
          clear BK B6 HO HB HC_y2
          have BK := n0_
          have B6 := n1_
          have HO := n2_
          have HB := n3_
          clear n0_ n1_ n2_ n3_ ho hb hg hat
          refine hK.out _ _ ⟨(blk_cell B6.out 0).trans rfl, (blk_cell B6.out 1).trans rfl⟩ (fun hHeld => ?_)
          clear hK K
          refine norm_ (a' := ?_) ?_ ?_
          rotate_left
          · show Act.put _ (some 42) _ = _
            simp only [Act.put, List.setIfInBounds_toArray, List.set_cons_zero, List.set_cons_succ]
            rfl
          refine pure_ (i := 10) (N := some 3) (v := ?_) (a' := ?_) #[true, true, true, true, true, true, true, true, true, true, true] rfl rfl (by kernel_rfl) (fun _ _ _ h => h) (Or.inl ⟨by rfl, ?_⟩) ?_ ?_
          rotate_left
          · intro w'
            go_simp
            with_reducible rfl
          rotate_left
          · simp only [Act.put, List.setIfInBounds_toArray, List.set_cons_zero, List.set_cons_succ]
            rfl
          refine done_ (by kernel_rfl) ?_
          go_wp2_with (fail)
          go_roundg 4
          case measure => omega
          case rel => exact ⟨b ++ y1 ++ y2, 1, (by first | rfl | kernel_rfl), ⟨by have := HI.out; omega⟩, ⟨by decide⟩, HG, BK, HO, HB⟩
    | n + 6 => exact absurd HI.out (by have := HI0.out; omega)
end Go.Proofs.Ytffdonpkmnngpaa.PRootAll
