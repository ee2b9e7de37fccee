/- root.Put: a root's bytes. Bound to this program. -/
import Derived.Test.YtffdonpkmnngpaaPRootAllx1
import Derived.Test.YtffdonpkmnngpaaRGK
namespace Go.Proofs.Ytffdonpkmnngpaa.PRootAll
open Go Go.RowKit Go.Proofs Go.Proofs.YtffdonpkmnngpaaW.PrintWords Go.Proofs.YtffdonpkmnngpaaW.PrintLast Go.Proofs.YtffdonpkmnngpaaW.PrintMore
set_option linter.unusedVariables false
set_option linter.unusedSimpArgs false
/-- The numbers of a root's trees behind those of L; none where a tree may not be. -/
def gath : List (Int × Int) → List Int → Option (List Int)
  | [], L => some L
  | (o, c) :: r, L => if o < 0 then none else if (o == 0) != (c == 0) then none else gath r (L ++ [IntKind.u64.wrap o, c])
mutual
def root_Put.l0 : Nat → List Int → Int → List Int → Option (List Int)
  | 0, _, _, _ => none
  | k + 1, l, i, b => if i < (l.length : Int) then (if 0 ≤ i then root_Put.l1 k l i b (rd l i) 7 else none) else some b
def root_Put.l1 : Nat → List Int → Int → List Int → Int → Int → Option (List Int)
  | 0, _, _, _, _, _ => none
  | k + 1, l, i, b, v, j => if j ≥ 0 then (if 0 ≤ (wrap64 (8 * j)) then (if b.length < 140737488355328 then root_Put.l1 k l i (b ++ [(shr .u64 v (wrap64 (8 * j))) % 256]) v (wrap64 (j - 1)) else none) else none) else root_Put.l0 k l (wrap64 (i + 1)) b
end
def root_Put.fin (k : Nat) : Option (List Int) → Option (List Int)
  | none => some []
  | some l => root_Put.l0 k l 0 []
def root_Put.f (k : Nat) (n : Int) (rs : List (Int × Int)) : Option (List Int) := if n < 0 then some [] else root_Put.fin k (gath rs [IntKind.u64.wrap n])
theorem info39 : (Try.prog.info? 39).map (fun i => (i.zero, i.size, i.bytes)) = some (some (.int .u64 0), 1, 8) := by kernel_rfl
set_option maxHeartbeats 4000000 in
set_option maxRecDepth 100000 in
theorem root_Put.calls (k : Nat) (a0 a1 o0 c0 o1 c1 o2 c2 o3 c3 o4 c4 : Int) (r : List Int) (w : World) (h : root_Put.f k a1 [(o0, c0), (o1, c1), (o2, c2), (o3, c3), (o4, c4)] = some r) :
    Calls Try.prog 31 #[.agg #[.int .u64 a0, .int .i64 a1, .int .i64 o0, .int .u64 c0, .int .i64 o1, .int .u64 c1, .int .i64 o2, .int .u64 c2, .int .i64 o3, .int .u64 c3, .int .i64 o4, .int .u64 c4]] w fun e w' => ∃ v : Value, e = .returned v ∧ Kd.R (Kd.int .u8) 5 w' w.heap.size (fun _ => True) v r ∧ Below w.heap.size w w' := by
  have hu44 := Try.underlying44
  have hu42 := Try.underlying42
  have hu41 := Try.underlying41
  have HB := Aside0.mk (Below.refl w.heap.size w)
  unfold root_Put.f at h
  by_cases c0_ : a1 < 0
  · rw [if_pos c0_] at h
    obtain rfl := Option.some.inj h
    have b0 := decide_eq_true c0_
    clear c0_ h
    go_enter Try.func31, Try.ntmps31
    go_upto_region 1 with (first | ((with_reducible refine gate_dst (N := 1) rfl ?_); (try (refine gate_guard (by rfl) ?_; dsimp only)); refine box_event ?hg (N := 1) ?hd (cs := #[.int .u64 a0, .int .i64 a1, .int .i64 o0, .int .u64 c0, .int .i64 o1, .int .u64 c1, .int .i64 o2, .int .u64 c2, .int .i64 o3, .int .u64 c3, .int .i64 o4, .int .u64 c4]) (t := 44) ?hr ?_; (case hd => rfl); (case hg => rfl); (case hr => first | (go_simp; done) | (go_simp; rfl)); intro gb hg w1 hbox hb; have BK := Aside0.mk hbox; have GB := Aside0.mk (show w.heap.size ≤ gb by rw [hg]; exact Nat.le_refl _); clear HB; have HB := Aside0.mk hb; clear hg hbox hb))
    have rz0 := (blk_cell BK.out 0).trans rfl
    have rf0 := blk_frozen BK.out 0
    have rz1 := (blk_cell BK.out 1).trans rfl
    have rf1 := blk_frozen BK.out 1
    have rz2 := (blk_cell BK.out 2).trans rfl
    have rf2 := blk_frozen BK.out 2
    have rz3 := (blk_cell BK.out 3).trans rfl
    have rf3 := blk_frozen BK.out 3
    have rz4 := (blk_cell BK.out 4).trans rfl
    have rf4 := blk_frozen BK.out 4
    have rz5 := (blk_cell BK.out 5).trans rfl
    have rf5 := blk_frozen BK.out 5
    have rz6 := (blk_cell BK.out 6).trans rfl
    have rf6 := blk_frozen BK.out 6
    have rz7 := (blk_cell BK.out 7).trans rfl
    have rf7 := blk_frozen BK.out 7
    have rz8 := (blk_cell BK.out 8).trans rfl
    have rf8 := blk_frozen BK.out 8
    have rz9 := (blk_cell BK.out 9).trans rfl
    have rf9 := blk_frozen BK.out 9
    have rz10 := (blk_cell BK.out 10).trans rfl
    have rf10 := blk_frozen BK.out 10
    have rz11 := (blk_cell BK.out 11).trans rfl
    have rf11 := blk_frozen BK.out 11
    go_wp2_with (fail)
    go_ret
    exact ⟨_, rfl, Kd.R_nil _ _ _ _ _, HB.out⟩
  rw [if_neg c0_] at h
  have b0 := decide_eq_false c0_
  clear c0_
  obtain ⟨R, hR⟩ : ∃ R, gath [(o0, c0), (o1, c1), (o2, c2), (o3, c3), (o4, c4)] [IntKind.u64.wrap a1] = R := ⟨_, rfl⟩
  rw [hR] at h
  have HG := Aside0.mk hR
  have HF := Aside0.mk h
  clear h hR
  go_enter Try.func31, Try.ntmps31
  go_upto_region 1 with (first | ((with_reducible refine gate_dst (N := 1) rfl ?_); (try (refine gate_guard (by rfl) ?_; dsimp only)); refine box_event ?hg (N := 1) ?hd (cs := #[.int .u64 a0, .int .i64 a1, .int .i64 o0, .int .u64 c0, .int .i64 o1, .int .u64 c1, .int .i64 o2, .int .u64 c2, .int .i64 o3, .int .u64 c3, .int .i64 o4, .int .u64 c4]) (t := 44) ?hr ?_; (case hd => rfl); (case hg => rfl); (case hr => first | (go_simp; done) | (go_simp; rfl)); intro gb hg w1 hbox hb; have BK := Aside0.mk hbox; have GB := Aside0.mk (show w.heap.size ≤ gb by rw [hg]; exact Nat.le_refl _); clear HB; have HB := Aside0.mk hb; clear hg hbox hb))
  have rz0 := (blk_cell BK.out 0).trans rfl
  have rf0 := blk_frozen BK.out 0
  have rz1 := (blk_cell BK.out 1).trans rfl
  have rf1 := blk_frozen BK.out 1
  have rz2 := (blk_cell BK.out 2).trans rfl
  have rf2 := blk_frozen BK.out 2
  have rz3 := (blk_cell BK.out 3).trans rfl
  have rf3 := blk_frozen BK.out 3
  have rz4 := (blk_cell BK.out 4).trans rfl
  have rf4 := blk_frozen BK.out 4
  have rz5 := (blk_cell BK.out 5).trans rfl
  have rf5 := blk_frozen BK.out 5
  have rz6 := (blk_cell BK.out 6).trans rfl
  have rf6 := blk_frozen BK.out 6
  have rz7 := (blk_cell BK.out 7).trans rfl
  have rf7 := blk_frozen BK.out 7
  have rz8 := (blk_cell BK.out 8).trans rfl
  have rf8 := blk_frozen BK.out 8
  have rz9 := (blk_cell BK.out 9).trans rfl
  have rf9 := blk_frozen BK.out 9
  have rz10 := (blk_cell BK.out 10).trans rfl
  have rf10 := blk_frozen BK.out 10
  have rz11 := (blk_cell BK.out 11).trans rfl
  have rf11 := blk_frozen BK.out 11
  have x0 : ∀ w : World, (Instr.index 42 (.agg #[.int .i64 o0, .int .u64 c0, .int .i64 o1, .int .u64 c1, .int .i64 o2, .int .u64 c2, .int .i64 o3, .int .u64 c3, .int .i64 o4, .int .u64 c4]) (.int .i64 0)).run Try.prog w = .ok (.agg #[.int .i64 o0, .int .u64 c0]) w := fun _ => by kernel_rfl
  have x1 : ∀ w : World, (Instr.index 42 (.agg #[.int .i64 o0, .int .u64 c0, .int .i64 o1, .int .u64 c1, .int .i64 o2, .int .u64 c2, .int .i64 o3, .int .u64 c3, .int .i64 o4, .int .u64 c4]) (.int .i64 1)).run Try.prog w = .ok (.agg #[.int .i64 o1, .int .u64 c1]) w := fun _ => by kernel_rfl
  have x2 : ∀ w : World, (Instr.index 42 (.agg #[.int .i64 o0, .int .u64 c0, .int .i64 o1, .int .u64 c1, .int .i64 o2, .int .u64 c2, .int .i64 o3, .int .u64 c3, .int .i64 o4, .int .u64 c4]) (.int .i64 2)).run Try.prog w = .ok (.agg #[.int .i64 o2, .int .u64 c2]) w := fun _ => by kernel_rfl
  have x3 : ∀ w : World, (Instr.index 42 (.agg #[.int .i64 o0, .int .u64 c0, .int .i64 o1, .int .u64 c1, .int .i64 o2, .int .u64 c2, .int .i64 o3, .int .u64 c3, .int .i64 o4, .int .u64 c4]) (.int .i64 3)).run Try.prog w = .ok (.agg #[.int .i64 o3, .int .u64 c3]) w := fun _ => by kernel_rfl
  have x4 : ∀ w : World, (Instr.index 42 (.agg #[.int .i64 o0, .int .u64 c0, .int .i64 o1, .int .u64 c1, .int .i64 o2, .int .u64 c2, .int .i64 o3, .int .u64 c3, .int .i64 o4, .int .u64 c4]) (.int .i64 4)).run Try.prog w = .ok (.agg #[.int .i64 o4, .int .u64 c4]) w := fun _ => by kernel_rfl
  go_upto_region 4 with (first | ((with_reducible refine gate_dst (N := 16) rfl ?_); refine Kd.R_lit (Kd.int .u64) _ 39 ?hg (N := 16) ?hd (xs := ([IntKind.u64.wrap a1] : List Int)) (inner := [.int .u64 (IntKind.u64.wrap a1)]) (ok := fun _ => True) (okp := fun _ => True) ?hr ?hp (fun _ hk => hk) trivial (Below.refl _ _) (Nat.le_refl _) (by simp) ?_; (case hd => rfl); (case hg => rfl); (case hr => first | (go_simp; done) | (go_simp; rfl)); (case hp => exact (Reps.one (show Kd.M (Kd.int .u64) _ _ _ (IntKind.u64.wrap a1) [.int .u64 (IntKind.u64.wrap a1)] from rfl) (Reps.none _ _))); intro v16 w2 ho4 hb_ hg_ hnew_; clear hg_ hnew_; have n0_ := Aside0.mk (Kd.R_lower ho4 (below_size HB.out)); have n1_ := Aside0.mk (below_step HB.out hb_); have n2_ := Aside0.mk (blk_below BK.out hb_); clear HB BK; have HB := n1_; have BK := n2_; have HO := n0_; clear n0_ n1_ n2_ ho4 hb_))
  clear rz0 rz1 rz2 rz3 rz4 rz5 rz6 rz7 rz8 rz9 rz10 rz11 rf0 rf1 rf2 rf3 rf4 rf5 rf6 rf7 rf8 rf9 rf10 rf11
  have rz0 := (blk_cell BK.out 0).trans rfl
  have rf0 := blk_frozen BK.out 0
  have rz1 := (blk_cell BK.out 1).trans rfl
  have rf1 := blk_frozen BK.out 1
  have rz2 := (blk_cell BK.out 2).trans rfl
  have rf2 := blk_frozen BK.out 2
  have rz3 := (blk_cell BK.out 3).trans rfl
  have rf3 := blk_frozen BK.out 3
  have rz4 := (blk_cell BK.out 4).trans rfl
  have rf4 := blk_frozen BK.out 4
  have rz5 := (blk_cell BK.out 5).trans rfl
  have rf5 := blk_frozen BK.out 5
  have rz6 := (blk_cell BK.out 6).trans rfl
  have rf6 := blk_frozen BK.out 6
  have rz7 := (blk_cell BK.out 7).trans rfl
  have rf7 := blk_frozen BK.out 7
  have rz8 := (blk_cell BK.out 8).trans rfl
  have rf8 := blk_frozen BK.out 8
  have rz9 := (blk_cell BK.out 9).trans rfl
  have rf9 := blk_frozen BK.out 9
  have rz10 := (blk_cell BK.out 10).trans rfl
  have rf10 := blk_frozen BK.out 10
  have rz11 := (blk_cell BK.out 11).trans rfl
  have rf11 := blk_frozen BK.out 11
  go_wp2_with (fail)
  clear rz0 rz1 rz2 rz3 rz4 rz5 rz6 rz7 rz8 rz9 rz10 rz11 rf0 rf1 rf2 rf3 rf4 rf5 rf6 rf7 rf8 rf9 rf10 rf11 BK b0
  go_loopg [3, 19] 5 (fun kq v3 v19 w' => ∃ (L : List Int) (i : Int), v19 = .int .i64 i ∧ Aside0 (i + (kq : Int) = 5) ∧ Aside0 (gath ([(o0, c0), (o1, c1), (o2, c2), (o3, c3), (o4, c4)].drop i.toNat) L = R) ∧ Aside0 ((L.length : Int) = 1 + 2 * i) ∧ Aside0 (Kd.R (Kd.int .u64) 39 w' w.heap.size (fun _ => True) v3 L) ∧ Aside0 (Below w.heap.size w w'))
  case atStart => exact ⟨[IntKind.u64.wrap a1], 0, rfl, ⟨rfl⟩, HG, ⟨rfl⟩, HO, HB⟩
  case round =>
    clear HG HB HO
    obtain ⟨L, i, rfl, HI, HG, HL, HO, HB⟩ := hrel
    match gk with
    | 0 =>
      obtain rfl : i = 5 := by have := HI.out; omega
      have H : R = some L := HG.out.symm
      subst H
      clear HG
      have HF2 : Aside0 (root_Put.l0 k L 0 [] = some r) := HF
      clear HF
      obtain ⟨A3, q3, e3, hq3, hC3⟩ := Kd.R_reads HO.out
      subst e3
      have HLC := Aside0.mk hC3
      clear HO hq3 hC3
      go_wp2_with (fail)
      obtain ⟨W3, rfl⟩ : ∃ x, x = wr := ⟨wr, rfl⟩
      have HB0 := HB
      have HK0 := Aside0.mk (Nat.le_refl k)
      clear HB x0 x1 x2 x3 x4
      go_loopg [6, 45] k (fun kq v6 v45 w' => ∃ (b : List Int) (j : Int), v45 = .int .i64 j ∧ Aside0 (root_Put.l0 kq L j b = some r) ∧ Aside0 (kq ≤ k) ∧ Aside0 (Kd.R (Kd.int .u8) 5 w' W3.heap.size (fun _ => True) v6 b) ∧ Aside0 (Below W3.heap.size W3 w'))
      case atStart => exact ⟨[], 0, rfl, HF2, ⟨Nat.le_refl _⟩, ⟨Kd.R_nil _ _ _ _ _⟩, ⟨Below.refl _ _⟩⟩
      case round =>
        clear HF2 HK0
        obtain ⟨b, j, rfl, HA, HK1, HO, HB⟩ := hrel
        cases gk with
        | zero => exact absurd HA.out (by simp [root_Put.l0])
        | succ k1 =>
          have H := HA.out
          clear HA
          simp only [root_Put.l0] at H
          by_cases d1 : j < (L.length : Int)
          · rw [if_pos d1] at H
            have e1 := decide_eq_true d1
            by_cases d2 : 0 ≤ j
            · rw [if_pos d2] at H
              have e2 := decide_eq_true d2
              have HA := Aside0.mk H
              clear H
              obtain ⟨ad, ead, hx⟩ := Kd.at_int (Kd.C_below HLC.out HB.out) j d2 d1
              cases ead
              replace d1 := eq_true d1
              replace d2 := eq_true d2
              go_wp2_with (fail)
              clear hx d1 d2 e1 e2
              go_loopg [6, 9] k1 (fun kq v6 v9 w' => ∃ (b : List Int) (jj : Int), v9 = .int .i64 jj ∧ Aside0 (root_Put.l1 kq L j b (rd L j) jj = some r) ∧ Aside0 (kq ≤ k1) ∧ Aside0 (Kd.R (Kd.int .u8) 5 w' W3.heap.size (fun _ => True) v6 b) ∧ Aside0 (Below W3.heap.size W3 w'))
              case atStart => exact ⟨b, 7, rfl, HA, ⟨Nat.le_refl _⟩, HO, HB⟩
              case round =>
                clear HA HB HO
                obtain ⟨b, jj, rfl, HA, HK2, HO, HB⟩ := hrel
                cases gk with
                | zero => exact absurd HA.out (by simp [root_Put.l1])
                | succ k2 =>
                  have H := HA.out
                  clear HA
                  simp only [root_Put.l1] at H
                  by_cases c4 : jj ≥ 0
                  · rw [if_pos c4] at H
                    have c4b0 : decide (0 ≤ jj) = true := decide_eq_true c4
                    clear c4
                    obtain ⟨ji5, hji5⟩ : ∃ j_ : Int, (wrap64 (8 * jj)) = j_ := ⟨_, rfl⟩
                    rw [hji5] at H
                    have hji5w : (IntKind.i64.wrap (8 * jj)) = ji5 := (i64_w _).trans hji5
                    by_cases c6 : 0 ≤ ji5
                    · rw [if_pos c6] at H
                      have c6b0 := eq_true c6
                      have c6b1 : decide (0 ≤ (ji5)) = true := decide_eq_true c6
                      clear c6
                      obtain ⟨ji7, hji7⟩ : ∃ j_ : Int, (shr .u64 (rd L j) (ji5)) = j_ := ⟨_, rfl⟩
                      rw [hji7] at H
                      have hji7_ : ((rd L j) / 2 ^ min (ji5).toNat 64) = ji7 := hji7
                      have hji7z : (ji5) ≤ 64 → ((rd L j) / 2 ^ (ji5).toNat) = ji7 := shr_small hji7
                      by_cases c8 : b.length < 140737488355328
                      · rw [if_pos c8] at H
                        have LMc8 := Aside0.mk c8
                        clear c8
                        have HA := Aside0.mk H
                        clear H
                        go_wp2_with (first | ((with_reducible refine gate_builtin (b := .append) (xs := #[.tmp 53, .tmp 59]) rfl ?_); at_builtin; refine Kd.R_append (Kd.int .u8) (w0 := W3) W3.heap.size rfl (.tmp 53) (.tmp 59) 22 5 (.int .u8 0) 1 rfl Try.underlying22 info5 rfl (by decide) (by omega) u6 b ((ji7) % 256) [.int .u8 ((ji7) % 256)] (fun _ => True) (fun _ => False) rfl rfl ?aP (fun _ hk => hk.elim) ?aF ?aO ?aB ?aS ?aL ?_; (case aP => exact rfl); (case aB => exact (by repeat (first | (with_reducible first | exact HB.out | apply below_alloc | apply pw_below_drewN | apply below_drew1) | exact HB.out))); (case aF => exact (fun _ _ => trivial)); (case aO => exact (by (with_reducible repeat (first | apply Kd.R_alloc | apply Kd.R_drewN | apply Kd.R_drew)); exact HO.out)); (case aS => exact (below_size (by repeat (first | (with_reducible first | exact HB.out | apply below_alloc | apply pw_below_drewN | apply below_drew1) | exact HB.out)))); (case aL => have := LMc8.out; omega); intro v60 w9 ho hb hg hat; have n0_ := Aside0.mk hb; have n1_ := Aside0.mk ho; clear HB HO ho hb hg hat; have HB := n0_; have HO := n1_; clear n0_ n1_))
                        go_roundg k2
                        case measure => have := HK1.out; have := HK2.out; omega
                        case rel => exact ⟨_, wrap64 (jj - 1), (by first | rfl | (simp; done) | (simp [*]; done)), HA, ⟨by have := HK2.out; omega⟩, HO, HB⟩
                      · rw [if_neg c8] at H
                        cases H
                    · rw [if_neg c6] at H
                      cases H
                  · rw [if_neg c4] at H
                    have c4b0 : decide (0 ≤ jj) = false := decide_eq_false c4
                    clear c4
                    have HA := Aside0.mk H
                    clear H
                    go_wp2_with (fail)
                    go_roundg k2
                    case measure => have := HK1.out; have := HK2.out; omega
                    case rel => exact ⟨b, wrap64 (j + 1), (by first | rfl | (simp; done) | (simp [*]; done)), HA, ⟨by have := HK1.out; have := HK2.out; omega⟩, HO, HB⟩
            · rw [if_neg d2] at H
              cases H
          · rw [if_neg d1] at H
            have e1 := decide_eq_false d1
            clear d1
            obtain rfl := Option.some.inj H
            go_wp2_with (fail)
            go_ret
            exact ⟨_, rfl, Kd.R_lower HO.out HB0.out.size, below_step HB0.out HB.out⟩
    | 1 =>
      obtain rfl : i = 4 := by have := HI.out; omega
      have H : (if o4 < 0 then none else if (o4 == 0) != (c4 == 0) then none else gath [] (L ++ [IntKind.u64.wrap o4, c4])) = R := HG.out
      clear HG
      by_cases d1 : o4 < 0
      · rw [if_pos d1] at H
        subst H
        have e1 := decide_eq_true d1
        clear d1
        go_upto_region 7 with (first | ((with_reducible refine gate_dst (N := 5) rfl ?_); (try (refine gate_guard (by rfl) ?_; dsimp only)); refine box_event ?hg (N := 5) ?hd (cs := #[.int .i64 0, .int .u64 0]) (t := 41) ?hr ?_; (case hd => rfl); (case hg => rfl); (case hr => first | (go_simp; done) | (go_simp; rfl)); intro g5 hg w5 hbox hb; have n0_ := Aside0.mk (below_step HB.out hb); have n1_ := Aside0.mk (Kd.R_below (Kd.R_mono (Kd.R_bound HO.out) (fun k hk => (show k < g5 by rw [hg]; exact hk.2.2.1))) hb); have B5 := Aside0.mk hbox; have G5 := Aside0.mk (show w.heap.size ≤ g5 by rw [hg]; exact HB.out.size); clear HB HO; have HB := n0_; have HO := n1_; clear n0_ n1_ hg hbox hb; have tz0 := (blk_cell B5.out 0).trans rfl; have tf0 := blk_frozen B5.out 0; have tz1 := (blk_cell B5.out 1).trans rfl; have tf1 := blk_frozen B5.out 1))
        have B6 := Aside0.mk (show ((w5.setCell ⟨g5, 0, none⟩ (.int .i64 o4)).setCell ⟨g5, 1, none⟩ (.int .u64 c4)).heap[g5]? = some (.cells #[.int .i64 o4, .int .u64 c4] 41 (0, 0)) by refine blk_put (cs := #[.int .i64 o4, .int .u64 0]) ?_ 1 _ rfl; refine blk_put (cs := #[.int .i64 0, .int .u64 0]) ?_ 0 _ rfl; exact B5.out)
        have n0_ := Aside0.mk (show Below w.heap.size w ((w5.setCell ⟨g5, 0, none⟩ (.int .i64 o4)).setCell ⟨g5, 1, none⟩ (.int .u64 c4)) by repeat (with_reducible first | exact HB.out | refine below_set ?_ G5.out))
        have n1_ := Aside0.mk (show Kd.R (Kd.int .u64) 39 ((w5.setCell ⟨g5, 0, none⟩ (.int .i64 o4)).setCell ⟨g5, 1, none⟩ (.int .u64 c4)) w.heap.size (fun k => k < g5) u3 L by repeat (with_reducible first | exact HO.out | refine Kd.R_far (p := ⟨g5, _, none⟩) ?_ (fun k hk => Nat.ne_of_lt hk) _))
        clear HB HO B5 tz0 tf0 tz1 tf1
        have HB := n0_
        have HO := n1_
        clear n0_ n1_
        have sz0 := (blk_cell B6.out 0).trans rfl
        have sf0 := blk_frozen B6.out 0
        have sz1 := (blk_cell B6.out 1).trans rfl
        have sf1 := blk_frozen B6.out 1
        go_wp2_with (fail)
        go_ret
        obtain rfl := Option.some.inj (HF.out : some [] = some r)
        exact ⟨_, rfl, Kd.R_nil _ _ _ _ _, HB.out⟩
      · rw [if_neg d1] at H
        have e1 := decide_eq_false d1
        clear d1
        obtain ⟨p, hp⟩ : ∃ p, (o4 == 0) = p := ⟨_, rfl⟩
        obtain ⟨q, hq⟩ : ∃ q, (c4 == 0) = q := ⟨_, rfl⟩
        rw [hp, hq] at H
        rcases p with _ | _ <;> rcases q with _ | _
        · replace H : gath [] (L ++ [IntKind.u64.wrap o4, c4]) = R := H
          have HG := Aside0.mk H
          clear H
          go_upto_region 7 with (first | ((with_reducible refine gate_dst (N := 5) rfl ?_); (try (refine gate_guard (by rfl) ?_; dsimp only)); refine box_event ?hg (N := 5) ?hd (cs := #[.int .i64 0, .int .u64 0]) (t := 41) ?hr ?_; (case hd => rfl); (case hg => rfl); (case hr => first | (go_simp; done) | (go_simp; rfl)); intro g5 hg w5 hbox hb; have n0_ := Aside0.mk (below_step HB.out hb); have n1_ := Aside0.mk (Kd.R_below (Kd.R_mono (Kd.R_bound HO.out) (fun k hk => (show k < g5 by rw [hg]; exact hk.2.2.1))) hb); have B5 := Aside0.mk hbox; have G5 := Aside0.mk (show w.heap.size ≤ g5 by rw [hg]; exact HB.out.size); clear HB HO; have HB := n0_; have HO := n1_; clear n0_ n1_ hg hbox hb; have tz0 := (blk_cell B5.out 0).trans rfl; have tf0 := blk_frozen B5.out 0; have tz1 := (blk_cell B5.out 1).trans rfl; have tf1 := blk_frozen B5.out 1))
          have B6 := Aside0.mk (show ((w5.setCell ⟨g5, 0, none⟩ (.int .i64 o4)).setCell ⟨g5, 1, none⟩ (.int .u64 c4)).heap[g5]? = some (.cells #[.int .i64 o4, .int .u64 c4] 41 (0, 0)) by refine blk_put (cs := #[.int .i64 o4, .int .u64 0]) ?_ 1 _ rfl; refine blk_put (cs := #[.int .i64 0, .int .u64 0]) ?_ 0 _ rfl; exact B5.out)
          have n0_ := Aside0.mk (show Below w.heap.size w ((w5.setCell ⟨g5, 0, none⟩ (.int .i64 o4)).setCell ⟨g5, 1, none⟩ (.int .u64 c4)) by repeat (with_reducible first | exact HB.out | refine below_set ?_ G5.out))
          have n1_ := Aside0.mk (show Kd.R (Kd.int .u64) 39 ((w5.setCell ⟨g5, 0, none⟩ (.int .i64 o4)).setCell ⟨g5, 1, none⟩ (.int .u64 c4)) w.heap.size (fun k => k < g5) u3 L by repeat (with_reducible first | exact HO.out | refine Kd.R_far (p := ⟨g5, _, none⟩) ?_ (fun k hk => Nat.ne_of_lt hk) _))
          clear HB HO B5 tz0 tf0 tz1 tf1
          have HB := n0_
          have HO := n1_
          clear n0_ n1_
          have sz0 := (blk_cell B6.out 0).trans rfl
          have sf0 := blk_frozen B6.out 0
          have sz1 := (blk_cell B6.out 1).trans rfl
          have sf1 := blk_frozen B6.out 1
          go_upto_region 9 with (fail)
          go_upto_region 10 with (first | ((with_reducible refine gate_dst (N := 40) rfl ?_); refine Kd.R_lit (Kd.int .u64) _ 39 ?hg (N := 40) ?hd (xs := ([IntKind.u64.wrap o4, c4] : List Int)) (inner := [.int .u64 (IntKind.u64.wrap o4), .int .u64 c4]) (ok := fun _ => True) (okp := fun _ => True) ?hr ?hp (fun _ hk => hk) trivial (Below.refl _ _) (Nat.le_refl _) (by simp) ?_; (case hd => rfl); (case hg => rfl); (case hr => first | (go_simp; done) | (go_simp; rfl)); (case hp => exact (Reps.one (show Kd.M (Kd.int .u64) _ _ _ (IntKind.u64.wrap o4) [.int .u64 (IntKind.u64.wrap o4)] from rfl) (Reps.one (show Kd.M (Kd.int .u64) _ _ _ c4 [.int .u64 c4] from rfl) (Reps.none _ _)))); intro v40 w6 ho4 hb_ hg_ hnew_; clear hg_ hnew_; obtain ⟨A6, c6, e6, hc6, hC6⟩ := Kd.R_reads ho4; subst e6; have HC6 := Aside0.mk hC6; have n1_ := Aside0.mk (below_step HB.out hb_); have n0_ := Aside0.mk (Kd.R_mono (Kd.R_below HO.out hb_) (fun _ _ => trivial)); clear HB HO B6; have HB := n1_; have HO := n0_; clear n0_ n1_ ho4 hb_ hc6 hC6) | ((with_reducible refine gate_builtin (b := .append) (xs := #[.tmp 34, .tmp 40]) rfl ?_); at_builtin; refine Kd.R_append_row (Value.int .u64) 0 (h1 := fun _ => rfl) (w0 := w) w.heap.size rfl (.tmp 34) (.tmp 40) 77 39 (.int .u64 0) 8 rfl Try.underlying77 info39 rfl (by decide) u3 L [IntKind.u64.wrap o4, c4] A6 _ c6 (fun _ => True) rfl rfl (fun _ _ => trivial) HO.out HC6.out HB.out (below_size HB.out) (by have := HL.out; simp only [List.length_cons, List.length_nil]; omega) ?_; intro v41 w7 ho hb hg hat; have n0_ := Aside0.mk ho; have n1_ := Aside0.mk hb; clear HB HO HC6 ho hb hg hat; have HB := n1_; have HO := n0_; clear n0_ n1_))
          go_wp2_with (fail)
          go_roundg 0
          case measure => omega
          case rel => exact ⟨L ++ [IntKind.u64.wrap o4, c4], 5, (by first | rfl | kernel_rfl), ⟨by have := HI.out; omega⟩, HG, ⟨by have := HL.out; simp only [List.length_append, List.length_cons, List.length_nil]; omega⟩, HO, HB⟩
        · replace H : none = R := H
          subst H
          go_upto_region 7 with (first | ((with_reducible refine gate_dst (N := 5) rfl ?_); (try (refine gate_guard (by rfl) ?_; dsimp only)); refine box_event ?hg (N := 5) ?hd (cs := #[.int .i64 0, .int .u64 0]) (t := 41) ?hr ?_; (case hd => rfl); (case hg => rfl); (case hr => first | (go_simp; done) | (go_simp; rfl)); intro g5 hg w5 hbox hb; have n0_ := Aside0.mk (below_step HB.out hb); have n1_ := Aside0.mk (Kd.R_below (Kd.R_mono (Kd.R_bound HO.out) (fun k hk => (show k < g5 by rw [hg]; exact hk.2.2.1))) hb); have B5 := Aside0.mk hbox; have G5 := Aside0.mk (show w.heap.size ≤ g5 by rw [hg]; exact HB.out.size); clear HB HO; have HB := n0_; have HO := n1_; clear n0_ n1_ hg hbox hb; have tz0 := (blk_cell B5.out 0).trans rfl; have tf0 := blk_frozen B5.out 0; have tz1 := (blk_cell B5.out 1).trans rfl; have tf1 := blk_frozen B5.out 1))
          have B6 := Aside0.mk (show ((w5.setCell ⟨g5, 0, none⟩ (.int .i64 o4)).setCell ⟨g5, 1, none⟩ (.int .u64 c4)).heap[g5]? = some (.cells #[.int .i64 o4, .int .u64 c4] 41 (0, 0)) by refine blk_put (cs := #[.int .i64 o4, .int .u64 0]) ?_ 1 _ rfl; refine blk_put (cs := #[.int .i64 0, .int .u64 0]) ?_ 0 _ rfl; exact B5.out)
          have n0_ := Aside0.mk (show Below w.heap.size w ((w5.setCell ⟨g5, 0, none⟩ (.int .i64 o4)).setCell ⟨g5, 1, none⟩ (.int .u64 c4)) by repeat (with_reducible first | exact HB.out | refine below_set ?_ G5.out))
          have n1_ := Aside0.mk (show Kd.R (Kd.int .u64) 39 ((w5.setCell ⟨g5, 0, none⟩ (.int .i64 o4)).setCell ⟨g5, 1, none⟩ (.int .u64 c4)) w.heap.size (fun k => k < g5) u3 L by repeat (with_reducible first | exact HO.out | refine Kd.R_far (p := ⟨g5, _, none⟩) ?_ (fun k hk => Nat.ne_of_lt hk) _))
          clear HB HO B5 tz0 tf0 tz1 tf1
          have HB := n0_
          have HO := n1_
          clear n0_ n1_
          have sz0 := (blk_cell B6.out 0).trans rfl
          have sf0 := blk_frozen B6.out 0
          have sz1 := (blk_cell B6.out 1).trans rfl
          have sf1 := blk_frozen B6.out 1
          go_wp2_with (fail)
          go_ret
          obtain rfl := Option.some.inj (HF.out : some [] = some r)
          exact ⟨_, rfl, Kd.R_nil _ _ _ _ _, HB.out⟩
        · replace H : none = R := H
          subst H
          go_upto_region 7 with (first | ((with_reducible refine gate_dst (N := 5) rfl ?_); (try (refine gate_guard (by rfl) ?_; dsimp only)); refine box_event ?hg (N := 5) ?hd (cs := #[.int .i64 0, .int .u64 0]) (t := 41) ?hr ?_; (case hd => rfl); (case hg => rfl); (case hr => first | (go_simp; done) | (go_simp; rfl)); intro g5 hg w5 hbox hb; have n0_ := Aside0.mk (below_step HB.out hb); have n1_ := Aside0.mk (Kd.R_below (Kd.R_mono (Kd.R_bound HO.out) (fun k hk => (show k < g5 by rw [hg]; exact hk.2.2.1))) hb); have B5 := Aside0.mk hbox; have G5 := Aside0.mk (show w.heap.size ≤ g5 by rw [hg]; exact HB.out.size); clear HB HO; have HB := n0_; have HO := n1_; clear n0_ n1_ hg hbox hb; have tz0 := (blk_cell B5.out 0).trans rfl; have tf0 := blk_frozen B5.out 0; have tz1 := (blk_cell B5.out 1).trans rfl; have tf1 := blk_frozen B5.out 1))
          have B6 := Aside0.mk (show ((w5.setCell ⟨g5, 0, none⟩ (.int .i64 o4)).setCell ⟨g5, 1, none⟩ (.int .u64 c4)).heap[g5]? = some (.cells #[.int .i64 o4, .int .u64 c4] 41 (0, 0)) by refine blk_put (cs := #[.int .i64 o4, .int .u64 0]) ?_ 1 _ rfl; refine blk_put (cs := #[.int .i64 0, .int .u64 0]) ?_ 0 _ rfl; exact B5.out)
          have n0_ := Aside0.mk (show Below w.heap.size w ((w5.setCell ⟨g5, 0, none⟩ (.int .i64 o4)).setCell ⟨g5, 1, none⟩ (.int .u64 c4)) by repeat (with_reducible first | exact HB.out | refine below_set ?_ G5.out))
          have n1_ := Aside0.mk (show Kd.R (Kd.int .u64) 39 ((w5.setCell ⟨g5, 0, none⟩ (.int .i64 o4)).setCell ⟨g5, 1, none⟩ (.int .u64 c4)) w.heap.size (fun k => k < g5) u3 L by repeat (with_reducible first | exact HO.out | refine Kd.R_far (p := ⟨g5, _, none⟩) ?_ (fun k hk => Nat.ne_of_lt hk) _))
          clear HB HO B5 tz0 tf0 tz1 tf1
          have HB := n0_
          have HO := n1_
          clear n0_ n1_
          have sz0 := (blk_cell B6.out 0).trans rfl
          have sf0 := blk_frozen B6.out 0
          have sz1 := (blk_cell B6.out 1).trans rfl
          have sf1 := blk_frozen B6.out 1
          go_wp2_with (fail)
          go_ret
          obtain rfl := Option.some.inj (HF.out : some [] = some r)
          exact ⟨_, rfl, Kd.R_nil _ _ _ _ _, HB.out⟩
        · replace H : gath [] (L ++ [IntKind.u64.wrap o4, c4]) = R := H
          have HG := Aside0.mk H
          clear H
          go_upto_region 7 with (first | ((with_reducible refine gate_dst (N := 5) rfl ?_); (try (refine gate_guard (by rfl) ?_; dsimp only)); refine box_event ?hg (N := 5) ?hd (cs := #[.int .i64 0, .int .u64 0]) (t := 41) ?hr ?_; (case hd => rfl); (case hg => rfl); (case hr => first | (go_simp; done) | (go_simp; rfl)); intro g5 hg w5 hbox hb; have n0_ := Aside0.mk (below_step HB.out hb); have n1_ := Aside0.mk (Kd.R_below (Kd.R_mono (Kd.R_bound HO.out) (fun k hk => (show k < g5 by rw [hg]; exact hk.2.2.1))) hb); have B5 := Aside0.mk hbox; have G5 := Aside0.mk (show w.heap.size ≤ g5 by rw [hg]; exact HB.out.size); clear HB HO; have HB := n0_; have HO := n1_; clear n0_ n1_ hg hbox hb; have tz0 := (blk_cell B5.out 0).trans rfl; have tf0 := blk_frozen B5.out 0; have tz1 := (blk_cell B5.out 1).trans rfl; have tf1 := blk_frozen B5.out 1))
          have B6 := Aside0.mk (show ((w5.setCell ⟨g5, 0, none⟩ (.int .i64 o4)).setCell ⟨g5, 1, none⟩ (.int .u64 c4)).heap[g5]? = some (.cells #[.int .i64 o4, .int .u64 c4] 41 (0, 0)) by refine blk_put (cs := #[.int .i64 o4, .int .u64 0]) ?_ 1 _ rfl; refine blk_put (cs := #[.int .i64 0, .int .u64 0]) ?_ 0 _ rfl; exact B5.out)
          have n0_ := Aside0.mk (show Below w.heap.size w ((w5.setCell ⟨g5, 0, none⟩ (.int .i64 o4)).setCell ⟨g5, 1, none⟩ (.int .u64 c4)) by repeat (with_reducible first | exact HB.out | refine below_set ?_ G5.out))
          have n1_ := Aside0.mk (show Kd.R (Kd.int .u64) 39 ((w5.setCell ⟨g5, 0, none⟩ (.int .i64 o4)).setCell ⟨g5, 1, none⟩ (.int .u64 c4)) w.heap.size (fun k => k < g5) u3 L by repeat (with_reducible first | exact HO.out | refine Kd.R_far (p := ⟨g5, _, none⟩) ?_ (fun k hk => Nat.ne_of_lt hk) _))
          clear HB HO B5 tz0 tf0 tz1 tf1
          have HB := n0_
          have HO := n1_
          clear n0_ n1_
          have sz0 := (blk_cell B6.out 0).trans rfl
          have sf0 := blk_frozen B6.out 0
          have sz1 := (blk_cell B6.out 1).trans rfl
          have sf1 := blk_frozen B6.out 1
          go_upto_region 9 with (fail)
          go_upto_region 10 with (first | ((with_reducible refine gate_dst (N := 40) rfl ?_); refine Kd.R_lit (Kd.int .u64) _ 39 ?hg (N := 40) ?hd (xs := ([IntKind.u64.wrap o4, c4] : List Int)) (inner := [.int .u64 (IntKind.u64.wrap o4), .int .u64 c4]) (ok := fun _ => True) (okp := fun _ => True) ?hr ?hp (fun _ hk => hk) trivial (Below.refl _ _) (Nat.le_refl _) (by simp) ?_; (case hd => rfl); (case hg => rfl); (case hr => first | (go_simp; done) | (go_simp; rfl)); (case hp => exact (Reps.one (show Kd.M (Kd.int .u64) _ _ _ (IntKind.u64.wrap o4) [.int .u64 (IntKind.u64.wrap o4)] from rfl) (Reps.one (show Kd.M (Kd.int .u64) _ _ _ c4 [.int .u64 c4] from rfl) (Reps.none _ _)))); intro v40 w6 ho4 hb_ hg_ hnew_; clear hg_ hnew_; obtain ⟨A6, c6, e6, hc6, hC6⟩ := Kd.R_reads ho4; subst e6; have HC6 := Aside0.mk hC6; have n1_ := Aside0.mk (below_step HB.out hb_); have n0_ := Aside0.mk (Kd.R_mono (Kd.R_below HO.out hb_) (fun _ _ => trivial)); clear HB HO B6; have HB := n1_; have HO := n0_; clear n0_ n1_ ho4 hb_ hc6 hC6) | ((with_reducible refine gate_builtin (b := .append) (xs := #[.tmp 34, .tmp 40]) rfl ?_); at_builtin; refine Kd.R_append_row (Value.int .u64) 0 (h1 := fun _ => rfl) (w0 := w) w.heap.size rfl (.tmp 34) (.tmp 40) 77 39 (.int .u64 0) 8 rfl Try.underlying77 info39 rfl (by decide) u3 L [IntKind.u64.wrap o4, c4] A6 _ c6 (fun _ => True) rfl rfl (fun _ _ => trivial) HO.out HC6.out HB.out (below_size HB.out) (by have := HL.out; simp only [List.length_cons, List.length_nil]; omega) ?_; intro v41 w7 ho hb hg hat; have n0_ := Aside0.mk ho; have n1_ := Aside0.mk hb; clear HB HO HC6 ho hb hg hat; have HB := n1_; have HO := n0_; clear n0_ n1_))
          go_wp2_with (fail)
          go_roundg 0
          case measure => omega
          case rel => exact ⟨L ++ [IntKind.u64.wrap o4, c4], 5, (by first | rfl | kernel_rfl), ⟨by have := HI.out; omega⟩, HG, ⟨by have := HL.out; simp only [List.length_append, List.length_cons, List.length_nil]; omega⟩, HO, HB⟩
    | 2 =>
      obtain rfl : i = 3 := by have := HI.out; omega
      have H : (if o3 < 0 then none else if (o3 == 0) != (c3 == 0) then none else gath [(o4, c4)] (L ++ [IntKind.u64.wrap o3, c3])) = R := HG.out
      clear HG
      by_cases d1 : o3 < 0
      · rw [if_pos d1] at H
        subst H
        have e1 := decide_eq_true d1
        clear d1
        go_upto_region 7 with (first | ((with_reducible refine gate_dst (N := 5) rfl ?_); (try (refine gate_guard (by rfl) ?_; dsimp only)); refine box_event ?hg (N := 5) ?hd (cs := #[.int .i64 0, .int .u64 0]) (t := 41) ?hr ?_; (case hd => rfl); (case hg => rfl); (case hr => first | (go_simp; done) | (go_simp; rfl)); intro g5 hg w5 hbox hb; have n0_ := Aside0.mk (below_step HB.out hb); have n1_ := Aside0.mk (Kd.R_below (Kd.R_mono (Kd.R_bound HO.out) (fun k hk => (show k < g5 by rw [hg]; exact hk.2.2.1))) hb); have B5 := Aside0.mk hbox; have G5 := Aside0.mk (show w.heap.size ≤ g5 by rw [hg]; exact HB.out.size); clear HB HO; have HB := n0_; have HO := n1_; clear n0_ n1_ hg hbox hb; have tz0 := (blk_cell B5.out 0).trans rfl; have tf0 := blk_frozen B5.out 0; have tz1 := (blk_cell B5.out 1).trans rfl; have tf1 := blk_frozen B5.out 1))
        have B6 := Aside0.mk (show ((w5.setCell ⟨g5, 0, none⟩ (.int .i64 o3)).setCell ⟨g5, 1, none⟩ (.int .u64 c3)).heap[g5]? = some (.cells #[.int .i64 o3, .int .u64 c3] 41 (0, 0)) by refine blk_put (cs := #[.int .i64 o3, .int .u64 0]) ?_ 1 _ rfl; refine blk_put (cs := #[.int .i64 0, .int .u64 0]) ?_ 0 _ rfl; exact B5.out)
        have n0_ := Aside0.mk (show Below w.heap.size w ((w5.setCell ⟨g5, 0, none⟩ (.int .i64 o3)).setCell ⟨g5, 1, none⟩ (.int .u64 c3)) by repeat (with_reducible first | exact HB.out | refine below_set ?_ G5.out))
        have n1_ := Aside0.mk (show Kd.R (Kd.int .u64) 39 ((w5.setCell ⟨g5, 0, none⟩ (.int .i64 o3)).setCell ⟨g5, 1, none⟩ (.int .u64 c3)) w.heap.size (fun k => k < g5) u3 L by repeat (with_reducible first | exact HO.out | refine Kd.R_far (p := ⟨g5, _, none⟩) ?_ (fun k hk => Nat.ne_of_lt hk) _))
        clear HB HO B5 tz0 tf0 tz1 tf1
        have HB := n0_
        have HO := n1_
        clear n0_ n1_
        have sz0 := (blk_cell B6.out 0).trans rfl
        have sf0 := blk_frozen B6.out 0
        have sz1 := (blk_cell B6.out 1).trans rfl
        have sf1 := blk_frozen B6.out 1
        go_wp2_with (fail)
        go_ret
        obtain rfl := Option.some.inj (HF.out : some [] = some r)
        exact ⟨_, rfl, Kd.R_nil _ _ _ _ _, HB.out⟩
      · rw [if_neg d1] at H
        have e1 := decide_eq_false d1
        clear d1
        obtain ⟨p, hp⟩ : ∃ p, (o3 == 0) = p := ⟨_, rfl⟩
        obtain ⟨q, hq⟩ : ∃ q, (c3 == 0) = q := ⟨_, rfl⟩
        rw [hp, hq] at H
        rcases p with _ | _ <;> rcases q with _ | _
        · replace H : gath [(o4, c4)] (L ++ [IntKind.u64.wrap o3, c3]) = R := H
          have HG := Aside0.mk H
          clear H
          go_upto_region 7 with (first | ((with_reducible refine gate_dst (N := 5) rfl ?_); (try (refine gate_guard (by rfl) ?_; dsimp only)); refine box_event ?hg (N := 5) ?hd (cs := #[.int .i64 0, .int .u64 0]) (t := 41) ?hr ?_; (case hd => rfl); (case hg => rfl); (case hr => first | (go_simp; done) | (go_simp; rfl)); intro g5 hg w5 hbox hb; have n0_ := Aside0.mk (below_step HB.out hb); have n1_ := Aside0.mk (Kd.R_below (Kd.R_mono (Kd.R_bound HO.out) (fun k hk => (show k < g5 by rw [hg]; exact hk.2.2.1))) hb); have B5 := Aside0.mk hbox; have G5 := Aside0.mk (show w.heap.size ≤ g5 by rw [hg]; exact HB.out.size); clear HB HO; have HB := n0_; have HO := n1_; clear n0_ n1_ hg hbox hb; have tz0 := (blk_cell B5.out 0).trans rfl; have tf0 := blk_frozen B5.out 0; have tz1 := (blk_cell B5.out 1).trans rfl; have tf1 := blk_frozen B5.out 1))
          have B6 := Aside0.mk (show ((w5.setCell ⟨g5, 0, none⟩ (.int .i64 o3)).setCell ⟨g5, 1, none⟩ (.int .u64 c3)).heap[g5]? = some (.cells #[.int .i64 o3, .int .u64 c3] 41 (0, 0)) by refine blk_put (cs := #[.int .i64 o3, .int .u64 0]) ?_ 1 _ rfl; refine blk_put (cs := #[.int .i64 0, .int .u64 0]) ?_ 0 _ rfl; exact B5.out)
          have n0_ := Aside0.mk (show Below w.heap.size w ((w5.setCell ⟨g5, 0, none⟩ (.int .i64 o3)).setCell ⟨g5, 1, none⟩ (.int .u64 c3)) by repeat (with_reducible first | exact HB.out | refine below_set ?_ G5.out))
          have n1_ := Aside0.mk (show Kd.R (Kd.int .u64) 39 ((w5.setCell ⟨g5, 0, none⟩ (.int .i64 o3)).setCell ⟨g5, 1, none⟩ (.int .u64 c3)) w.heap.size (fun k => k < g5) u3 L by repeat (with_reducible first | exact HO.out | refine Kd.R_far (p := ⟨g5, _, none⟩) ?_ (fun k hk => Nat.ne_of_lt hk) _))
          clear HB HO B5 tz0 tf0 tz1 tf1
          have HB := n0_
          have HO := n1_
          clear n0_ n1_
          have sz0 := (blk_cell B6.out 0).trans rfl
          have sf0 := blk_frozen B6.out 0
          have sz1 := (blk_cell B6.out 1).trans rfl
          have sf1 := blk_frozen B6.out 1
          go_upto_region 9 with (fail)
          go_upto_region 10 with (first | ((with_reducible refine gate_dst (N := 40) rfl ?_); refine Kd.R_lit (Kd.int .u64) _ 39 ?hg (N := 40) ?hd (xs := ([IntKind.u64.wrap o3, c3] : List Int)) (inner := [.int .u64 (IntKind.u64.wrap o3), .int .u64 c3]) (ok := fun _ => True) (okp := fun _ => True) ?hr ?hp (fun _ hk => hk) trivial (Below.refl _ _) (Nat.le_refl _) (by simp) ?_; (case hd => rfl); (case hg => rfl); (case hr => first | (go_simp; done) | (go_simp; rfl)); (case hp => exact (Reps.one (show Kd.M (Kd.int .u64) _ _ _ (IntKind.u64.wrap o3) [.int .u64 (IntKind.u64.wrap o3)] from rfl) (Reps.one (show Kd.M (Kd.int .u64) _ _ _ c3 [.int .u64 c3] from rfl) (Reps.none _ _)))); intro v40 w6 ho4 hb_ hg_ hnew_; clear hg_ hnew_; obtain ⟨A6, c6, e6, hc6, hC6⟩ := Kd.R_reads ho4; subst e6; have HC6 := Aside0.mk hC6; have n1_ := Aside0.mk (below_step HB.out hb_); have n0_ := Aside0.mk (Kd.R_mono (Kd.R_below HO.out hb_) (fun _ _ => trivial)); clear HB HO B6; have HB := n1_; have HO := n0_; clear n0_ n1_ ho4 hb_ hc6 hC6) | ((with_reducible refine gate_builtin (b := .append) (xs := #[.tmp 34, .tmp 40]) rfl ?_); at_builtin; refine Kd.R_append_row (Value.int .u64) 0 (h1 := fun _ => rfl) (w0 := w) w.heap.size rfl (.tmp 34) (.tmp 40) 77 39 (.int .u64 0) 8 rfl Try.underlying77 info39 rfl (by decide) u3 L [IntKind.u64.wrap o3, c3] A6 _ c6 (fun _ => True) rfl rfl (fun _ _ => trivial) HO.out HC6.out HB.out (below_size HB.out) (by have := HL.out; simp only [List.length_cons, List.length_nil]; omega) ?_; intro v41 w7 ho hb hg hat; have n0_ := Aside0.mk ho; have n1_ := Aside0.mk hb; clear HB HO HC6 ho hb hg hat; have HB := n1_; have HO := n0_; clear n0_ n1_))
          go_wp2_with (fail)
          go_roundg 1
          case measure => omega
          case rel => exact ⟨L ++ [IntKind.u64.wrap o3, c3], 4, (by first | rfl | kernel_rfl), ⟨by have := HI.out; omega⟩, HG, ⟨by have := HL.out; simp only [List.length_append, List.length_cons, List.length_nil]; omega⟩, HO, HB⟩
        · replace H : none = R := H
          subst H
          go_upto_region 7 with (first | ((with_reducible refine gate_dst (N := 5) rfl ?_); (try (refine gate_guard (by rfl) ?_; dsimp only)); refine box_event ?hg (N := 5) ?hd (cs := #[.int .i64 0, .int .u64 0]) (t := 41) ?hr ?_; (case hd => rfl); (case hg => rfl); (case hr => first | (go_simp; done) | (go_simp; rfl)); intro g5 hg w5 hbox hb; have n0_ := Aside0.mk (below_step HB.out hb); have n1_ := Aside0.mk (Kd.R_below (Kd.R_mono (Kd.R_bound HO.out) (fun k hk => (show k < g5 by rw [hg]; exact hk.2.2.1))) hb); have B5 := Aside0.mk hbox; have G5 := Aside0.mk (show w.heap.size ≤ g5 by rw [hg]; exact HB.out.size); clear HB HO; have HB := n0_; have HO := n1_; clear n0_ n1_ hg hbox hb; have tz0 := (blk_cell B5.out 0).trans rfl; have tf0 := blk_frozen B5.out 0; have tz1 := (blk_cell B5.out 1).trans rfl; have tf1 := blk_frozen B5.out 1))
          have B6 := Aside0.mk (show ((w5.setCell ⟨g5, 0, none⟩ (.int .i64 o3)).setCell ⟨g5, 1, none⟩ (.int .u64 c3)).heap[g5]? = some (.cells #[.int .i64 o3, .int .u64 c3] 41 (0, 0)) by refine blk_put (cs := #[.int .i64 o3, .int .u64 0]) ?_ 1 _ rfl; refine blk_put (cs := #[.int .i64 0, .int .u64 0]) ?_ 0 _ rfl; exact B5.out)
          have n0_ := Aside0.mk (show Below w.heap.size w ((w5.setCell ⟨g5, 0, none⟩ (.int .i64 o3)).setCell ⟨g5, 1, none⟩ (.int .u64 c3)) by repeat (with_reducible first | exact HB.out | refine below_set ?_ G5.out))
          have n1_ := Aside0.mk (show Kd.R (Kd.int .u64) 39 ((w5.setCell ⟨g5, 0, none⟩ (.int .i64 o3)).setCell ⟨g5, 1, none⟩ (.int .u64 c3)) w.heap.size (fun k => k < g5) u3 L by repeat (with_reducible first | exact HO.out | refine Kd.R_far (p := ⟨g5, _, none⟩) ?_ (fun k hk => Nat.ne_of_lt hk) _))
          clear HB HO B5 tz0 tf0 tz1 tf1
          have HB := n0_
          have HO := n1_
          clear n0_ n1_
          have sz0 := (blk_cell B6.out 0).trans rfl
          have sf0 := blk_frozen B6.out 0
          have sz1 := (blk_cell B6.out 1).trans rfl
          have sf1 := blk_frozen B6.out 1
          go_wp2_with (fail)
          go_ret
          obtain rfl := Option.some.inj (HF.out : some [] = some r)
          exact ⟨_, rfl, Kd.R_nil _ _ _ _ _, HB.out⟩
        · replace H : none = R := H
          subst H
          go_upto_region 7 with (first | ((with_reducible refine gate_dst (N := 5) rfl ?_); (try (refine gate_guard (by rfl) ?_; dsimp only)); refine box_event ?hg (N := 5) ?hd (cs := #[.int .i64 0, .int .u64 0]) (t := 41) ?hr ?_; (case hd => rfl); (case hg => rfl); (case hr => first | (go_simp; done) | (go_simp; rfl)); intro g5 hg w5 hbox hb; have n0_ := Aside0.mk (below_step HB.out hb); have n1_ := Aside0.mk (Kd.R_below (Kd.R_mono (Kd.R_bound HO.out) (fun k hk => (show k < g5 by rw [hg]; exact hk.2.2.1))) hb); have B5 := Aside0.mk hbox; have G5 := Aside0.mk (show w.heap.size ≤ g5 by rw [hg]; exact HB.out.size); clear HB HO; have HB := n0_; have HO := n1_; clear n0_ n1_ hg hbox hb; have tz0 := (blk_cell B5.out 0).trans rfl; have tf0 := blk_frozen B5.out 0; have tz1 := (blk_cell B5.out 1).trans rfl; have tf1 := blk_frozen B5.out 1))
          have B6 := Aside0.mk (show ((w5.setCell ⟨g5, 0, none⟩ (.int .i64 o3)).setCell ⟨g5, 1, none⟩ (.int .u64 c3)).heap[g5]? = some (.cells #[.int .i64 o3, .int .u64 c3] 41 (0, 0)) by refine blk_put (cs := #[.int .i64 o3, .int .u64 0]) ?_ 1 _ rfl; refine blk_put (cs := #[.int .i64 0, .int .u64 0]) ?_ 0 _ rfl; exact B5.out)
          have n0_ := Aside0.mk (show Below w.heap.size w ((w5.setCell ⟨g5, 0, none⟩ (.int .i64 o3)).setCell ⟨g5, 1, none⟩ (.int .u64 c3)) by repeat (with_reducible first | exact HB.out | refine below_set ?_ G5.out))
          have n1_ := Aside0.mk (show Kd.R (Kd.int .u64) 39 ((w5.setCell ⟨g5, 0, none⟩ (.int .i64 o3)).setCell ⟨g5, 1, none⟩ (.int .u64 c3)) w.heap.size (fun k => k < g5) u3 L by repeat (with_reducible first | exact HO.out | refine Kd.R_far (p := ⟨g5, _, none⟩) ?_ (fun k hk => Nat.ne_of_lt hk) _))
          clear HB HO B5 tz0 tf0 tz1 tf1
          have HB := n0_
          have HO := n1_
          clear n0_ n1_
          have sz0 := (blk_cell B6.out 0).trans rfl
          have sf0 := blk_frozen B6.out 0
          have sz1 := (blk_cell B6.out 1).trans rfl
          have sf1 := blk_frozen B6.out 1
          go_wp2_with (fail)
          go_ret
          obtain rfl := Option.some.inj (HF.out : some [] = some r)
          exact ⟨_, rfl, Kd.R_nil _ _ _ _ _, HB.out⟩
        · replace H : gath [(o4, c4)] (L ++ [IntKind.u64.wrap o3, c3]) = R := H
          have HG := Aside0.mk H
          clear H
          go_upto_region 7 with (first | ((with_reducible refine gate_dst (N := 5) rfl ?_); (try (refine gate_guard (by rfl) ?_; dsimp only)); refine box_event ?hg (N := 5) ?hd (cs := #[.int .i64 0, .int .u64 0]) (t := 41) ?hr ?_; (case hd => rfl); (case hg => rfl); (case hr => first | (go_simp; done) | (go_simp; rfl)); intro g5 hg w5 hbox hb; have n0_ := Aside0.mk (below_step HB.out hb); have n1_ := Aside0.mk (Kd.R_below (Kd.R_mono (Kd.R_bound HO.out) (fun k hk => (show k < g5 by rw [hg]; exact hk.2.2.1))) hb); have B5 := Aside0.mk hbox; have G5 := Aside0.mk (show w.heap.size ≤ g5 by rw [hg]; exact HB.out.size); clear HB HO; have HB := n0_; have HO := n1_; clear n0_ n1_ hg hbox hb; have tz0 := (blk_cell B5.out 0).trans rfl; have tf0 := blk_frozen B5.out 0; have tz1 := (blk_cell B5.out 1).trans rfl; have tf1 := blk_frozen B5.out 1))
          have B6 := Aside0.mk (show ((w5.setCell ⟨g5, 0, none⟩ (.int .i64 o3)).setCell ⟨g5, 1, none⟩ (.int .u64 c3)).heap[g5]? = some (.cells #[.int .i64 o3, .int .u64 c3] 41 (0, 0)) by refine blk_put (cs := #[.int .i64 o3, .int .u64 0]) ?_ 1 _ rfl; refine blk_put (cs := #[.int .i64 0, .int .u64 0]) ?_ 0 _ rfl; exact B5.out)
          have n0_ := Aside0.mk (show Below w.heap.size w ((w5.setCell ⟨g5, 0, none⟩ (.int .i64 o3)).setCell ⟨g5, 1, none⟩ (.int .u64 c3)) by repeat (with_reducible first | exact HB.out | refine below_set ?_ G5.out))
          have n1_ := Aside0.mk (show Kd.R (Kd.int .u64) 39 ((w5.setCell ⟨g5, 0, none⟩ (.int .i64 o3)).setCell ⟨g5, 1, none⟩ (.int .u64 c3)) w.heap.size (fun k => k < g5) u3 L by repeat (with_reducible first | exact HO.out | refine Kd.R_far (p := ⟨g5, _, none⟩) ?_ (fun k hk => Nat.ne_of_lt hk) _))
          clear HB HO B5 tz0 tf0 tz1 tf1
          have HB := n0_
          have HO := n1_
          clear n0_ n1_
          have sz0 := (blk_cell B6.out 0).trans rfl
          have sf0 := blk_frozen B6.out 0
          have sz1 := (blk_cell B6.out 1).trans rfl
          have sf1 := blk_frozen B6.out 1
          go_upto_region 9 with (fail)
          go_upto_region 10 with (first | ((with_reducible refine gate_dst (N := 40) rfl ?_); refine Kd.R_lit (Kd.int .u64) _ 39 ?hg (N := 40) ?hd (xs := ([IntKind.u64.wrap o3, c3] : List Int)) (inner := [.int .u64 (IntKind.u64.wrap o3), .int .u64 c3]) (ok := fun _ => True) (okp := fun _ => True) ?hr ?hp (fun _ hk => hk) trivial (Below.refl _ _) (Nat.le_refl _) (by simp) ?_; (case hd => rfl); (case hg => rfl); (case hr => first | (go_simp; done) | (go_simp; rfl)); (case hp => exact (Reps.one (show Kd.M (Kd.int .u64) _ _ _ (IntKind.u64.wrap o3) [.int .u64 (IntKind.u64.wrap o3)] from rfl) (Reps.one (show Kd.M (Kd.int .u64) _ _ _ c3 [.int .u64 c3] from rfl) (Reps.none _ _)))); intro v40 w6 ho4 hb_ hg_ hnew_; clear hg_ hnew_; obtain ⟨A6, c6, e6, hc6, hC6⟩ := Kd.R_reads ho4; subst e6; have HC6 := Aside0.mk hC6; have n1_ := Aside0.mk (below_step HB.out hb_); have n0_ := Aside0.mk (Kd.R_mono (Kd.R_below HO.out hb_) (fun _ _ => trivial)); clear HB HO B6; have HB := n1_; have HO := n0_; clear n0_ n1_ ho4 hb_ hc6 hC6) | ((with_reducible refine gate_builtin (b := .append) (xs := #[.tmp 34, .tmp 40]) rfl ?_); at_builtin; refine Kd.R_append_row (Value.int .u64) 0 (h1 := fun _ => rfl) (w0 := w) w.heap.size rfl (.tmp 34) (.tmp 40) 77 39 (.int .u64 0) 8 rfl Try.underlying77 info39 rfl (by decide) u3 L [IntKind.u64.wrap o3, c3] A6 _ c6 (fun _ => True) rfl rfl (fun _ _ => trivial) HO.out HC6.out HB.out (below_size HB.out) (by have := HL.out; simp only [List.length_cons, List.length_nil]; omega) ?_; intro v41 w7 ho hb hg hat; have n0_ := Aside0.mk ho; have n1_ := Aside0.mk hb; clear HB HO HC6 ho hb hg hat; have HB := n1_; have HO := n0_; clear n0_ n1_))
          go_wp2_with (fail)
          go_roundg 1
          case measure => omega
          case rel => exact ⟨L ++ [IntKind.u64.wrap o3, c3], 4, (by first | rfl | kernel_rfl), ⟨by have := HI.out; omega⟩, HG, ⟨by have := HL.out; simp only [List.length_append, List.length_cons, List.length_nil]; omega⟩, HO, HB⟩
    | 3 =>
      obtain rfl : i = 2 := by have := HI.out; omega
      have H : (if o2 < 0 then none else if (o2 == 0) != (c2 == 0) then none else gath [(o3, c3), (o4, c4)] (L ++ [IntKind.u64.wrap o2, c2])) = R := HG.out
      clear HG
      by_cases d1 : o2 < 0
      · rw [if_pos d1] at H
        subst H
        have e1 := decide_eq_true d1
        clear d1
        go_upto_region 7 with (first | ((with_reducible refine gate_dst (N := 5) rfl ?_); (try (refine gate_guard (by rfl) ?_; dsimp only)); refine box_event ?hg (N := 5) ?hd (cs := #[.int .i64 0, .int .u64 0]) (t := 41) ?hr ?_; (case hd => rfl); (case hg => rfl); (case hr => first | (go_simp; done) | (go_simp; rfl)); intro g5 hg w5 hbox hb; have n0_ := Aside0.mk (below_step HB.out hb); have n1_ := Aside0.mk (Kd.R_below (Kd.R_mono (Kd.R_bound HO.out) (fun k hk => (show k < g5 by rw [hg]; exact hk.2.2.1))) hb); have B5 := Aside0.mk hbox; have G5 := Aside0.mk (show w.heap.size ≤ g5 by rw [hg]; exact HB.out.size); clear HB HO; have HB := n0_; have HO := n1_; clear n0_ n1_ hg hbox hb; have tz0 := (blk_cell B5.out 0).trans rfl; have tf0 := blk_frozen B5.out 0; have tz1 := (blk_cell B5.out 1).trans rfl; have tf1 := blk_frozen B5.out 1))
        have B6 := Aside0.mk (show ((w5.setCell ⟨g5, 0, none⟩ (.int .i64 o2)).setCell ⟨g5, 1, none⟩ (.int .u64 c2)).heap[g5]? = some (.cells #[.int .i64 o2, .int .u64 c2] 41 (0, 0)) by refine blk_put (cs := #[.int .i64 o2, .int .u64 0]) ?_ 1 _ rfl; refine blk_put (cs := #[.int .i64 0, .int .u64 0]) ?_ 0 _ rfl; exact B5.out)
        have n0_ := Aside0.mk (show Below w.heap.size w ((w5.setCell ⟨g5, 0, none⟩ (.int .i64 o2)).setCell ⟨g5, 1, none⟩ (.int .u64 c2)) by repeat (with_reducible first | exact HB.out | refine below_set ?_ G5.out))
        have n1_ := Aside0.mk (show Kd.R (Kd.int .u64) 39 ((w5.setCell ⟨g5, 0, none⟩ (.int .i64 o2)).setCell ⟨g5, 1, none⟩ (.int .u64 c2)) w.heap.size (fun k => k < g5) u3 L by repeat (with_reducible first | exact HO.out | refine Kd.R_far (p := ⟨g5, _, none⟩) ?_ (fun k hk => Nat.ne_of_lt hk) _))
        clear HB HO B5 tz0 tf0 tz1 tf1
        have HB := n0_
        have HO := n1_
        clear n0_ n1_
        have sz0 := (blk_cell B6.out 0).trans rfl
        have sf0 := blk_frozen B6.out 0
        have sz1 := (blk_cell B6.out 1).trans rfl
        have sf1 := blk_frozen B6.out 1
        go_wp2_with (fail)
        go_ret
        obtain rfl := Option.some.inj (HF.out : some [] = some r)
        exact ⟨_, rfl, Kd.R_nil _ _ _ _ _, HB.out⟩
      · rw [if_neg d1] at H
        have e1 := decide_eq_false d1
        clear d1
        obtain ⟨p, hp⟩ : ∃ p, (o2 == 0) = p := ⟨_, rfl⟩
        obtain ⟨q, hq⟩ : ∃ q, (c2 == 0) = q := ⟨_, rfl⟩
        rw [hp, hq] at H
        rcases p with _ | _ <;> rcases q with _ | _
        · replace H : gath [(o3, c3), (o4, c4)] (L ++ [IntKind.u64.wrap o2, c2]) = R := H
          have HG := Aside0.mk H
          clear H
          go_upto_region 7 with (first | ((with_reducible refine gate_dst (N := 5) rfl ?_); (try (refine gate_guard (by rfl) ?_; dsimp only)); refine box_event ?hg (N := 5) ?hd (cs := #[.int .i64 0, .int .u64 0]) (t := 41) ?hr ?_; (case hd => rfl); (case hg => rfl); (case hr => first | (go_simp; done) | (go_simp; rfl)); intro g5 hg w5 hbox hb; have n0_ := Aside0.mk (below_step HB.out hb); have n1_ := Aside0.mk (Kd.R_below (Kd.R_mono (Kd.R_bound HO.out) (fun k hk => (show k < g5 by rw [hg]; exact hk.2.2.1))) hb); have B5 := Aside0.mk hbox; have G5 := Aside0.mk (show w.heap.size ≤ g5 by rw [hg]; exact HB.out.size); clear HB HO; have HB := n0_; have HO := n1_; clear n0_ n1_ hg hbox hb; have tz0 := (blk_cell B5.out 0).trans rfl; have tf0 := blk_frozen B5.out 0; have tz1 := (blk_cell B5.out 1).trans rfl; have tf1 := blk_frozen B5.out 1))
          have B6 := Aside0.mk (show ((w5.setCell ⟨g5, 0, none⟩ (.int .i64 o2)).setCell ⟨g5, 1, none⟩ (.int .u64 c2)).heap[g5]? = some (.cells #[.int .i64 o2, .int .u64 c2] 41 (0, 0)) by refine blk_put (cs := #[.int .i64 o2, .int .u64 0]) ?_ 1 _ rfl; refine blk_put (cs := #[.int .i64 0, .int .u64 0]) ?_ 0 _ rfl; exact B5.out)
          have n0_ := Aside0.mk (show Below w.heap.size w ((w5.setCell ⟨g5, 0, none⟩ (.int .i64 o2)).setCell ⟨g5, 1, none⟩ (.int .u64 c2)) by repeat (with_reducible first | exact HB.out | refine below_set ?_ G5.out))
          have n1_ := Aside0.mk (show Kd.R (Kd.int .u64) 39 ((w5.setCell ⟨g5, 0, none⟩ (.int .i64 o2)).setCell ⟨g5, 1, none⟩ (.int .u64 c2)) w.heap.size (fun k => k < g5) u3 L by repeat (with_reducible first | exact HO.out | refine Kd.R_far (p := ⟨g5, _, none⟩) ?_ (fun k hk => Nat.ne_of_lt hk) _))
          clear HB HO B5 tz0 tf0 tz1 tf1
          have HB := n0_
          have HO := n1_
          clear n0_ n1_
          have sz0 := (blk_cell B6.out 0).trans rfl
          have sf0 := blk_frozen B6.out 0
          have sz1 := (blk_cell B6.out 1).trans rfl
          have sf1 := blk_frozen B6.out 1
          go_upto_region 9 with (fail)
          go_upto_region 10 with (first | ((with_reducible refine gate_dst (N := 40) rfl ?_); refine Kd.R_lit (Kd.int .u64) _ 39 ?hg (N := 40) ?hd (xs := ([IntKind.u64.wrap o2, c2] : List Int)) (inner := [.int .u64 (IntKind.u64.wrap o2), .int .u64 c2]) (ok := fun _ => True) (okp := fun _ => True) ?hr ?hp (fun _ hk => hk) trivial (Below.refl _ _) (Nat.le_refl _) (by simp) ?_; (case hd => rfl); (case hg => rfl); (case hr => first | (go_simp; done) | (go_simp; rfl)); (case hp => exact (Reps.one (show Kd.M (Kd.int .u64) _ _ _ (IntKind.u64.wrap o2) [.int .u64 (IntKind.u64.wrap o2)] from rfl) (Reps.one (show Kd.M (Kd.int .u64) _ _ _ c2 [.int .u64 c2] from rfl) (Reps.none _ _)))); intro v40 w6 ho4 hb_ hg_ hnew_; clear hg_ hnew_; obtain ⟨A6, c6, e6, hc6, hC6⟩ := Kd.R_reads ho4; subst e6; have HC6 := Aside0.mk hC6; have n1_ := Aside0.mk (below_step HB.out hb_); have n0_ := Aside0.mk (Kd.R_mono (Kd.R_below HO.out hb_) (fun _ _ => trivial)); clear HB HO B6; have HB := n1_; have HO := n0_; clear n0_ n1_ ho4 hb_ hc6 hC6) | ((with_reducible refine gate_builtin (b := .append) (xs := #[.tmp 34, .tmp 40]) rfl ?_); at_builtin; refine Kd.R_append_row (Value.int .u64) 0 (h1 := fun _ => rfl) (w0 := w) w.heap.size rfl (.tmp 34) (.tmp 40) 77 39 (.int .u64 0) 8 rfl Try.underlying77 info39 rfl (by decide) u3 L [IntKind.u64.wrap o2, c2] A6 _ c6 (fun _ => True) rfl rfl (fun _ _ => trivial) HO.out HC6.out HB.out (below_size HB.out) (by have := HL.out; simp only [List.length_cons, List.length_nil]; omega) ?_; intro v41 w7 ho hb hg hat; have n0_ := Aside0.mk ho; have n1_ := Aside0.mk hb; clear HB HO HC6 ho hb hg hat; have HB := n1_; have HO := n0_; clear n0_ n1_))
          go_wp2_with (fail)
          go_roundg 2
          case measure => omega
          case rel => exact ⟨L ++ [IntKind.u64.wrap o2, c2], 3, (by first | rfl | kernel_rfl), ⟨by have := HI.out; omega⟩, HG, ⟨by have := HL.out; simp only [List.length_append, List.length_cons, List.length_nil]; omega⟩, HO, HB⟩
        · replace H : none = R := H
          subst H
          go_upto_region 7 with (first | ((with_reducible refine gate_dst (N := 5) rfl ?_); (try (refine gate_guard (by rfl) ?_; dsimp only)); refine box_event ?hg (N := 5) ?hd (cs := #[.int .i64 0, .int .u64 0]) (t := 41) ?hr ?_; (case hd => rfl); (case hg => rfl); (case hr => first | (go_simp; done) | (go_simp; rfl)); intro g5 hg w5 hbox hb; have n0_ := Aside0.mk (below_step HB.out hb); have n1_ := Aside0.mk (Kd.R_below (Kd.R_mono (Kd.R_bound HO.out) (fun k hk => (show k < g5 by rw [hg]; exact hk.2.2.1))) hb); have B5 := Aside0.mk hbox; have G5 := Aside0.mk (show w.heap.size ≤ g5 by rw [hg]; exact HB.out.size); clear HB HO; have HB := n0_; have HO := n1_; clear n0_ n1_ hg hbox hb; have tz0 := (blk_cell B5.out 0).trans rfl; have tf0 := blk_frozen B5.out 0; have tz1 := (blk_cell B5.out 1).trans rfl; have tf1 := blk_frozen B5.out 1))
          have B6 := Aside0.mk (show ((w5.setCell ⟨g5, 0, none⟩ (.int .i64 o2)).setCell ⟨g5, 1, none⟩ (.int .u64 c2)).heap[g5]? = some (.cells #[.int .i64 o2, .int .u64 c2] 41 (0, 0)) by refine blk_put (cs := #[.int .i64 o2, .int .u64 0]) ?_ 1 _ rfl; refine blk_put (cs := #[.int .i64 0, .int .u64 0]) ?_ 0 _ rfl; exact B5.out)
          have n0_ := Aside0.mk (show Below w.heap.size w ((w5.setCell ⟨g5, 0, none⟩ (.int .i64 o2)).setCell ⟨g5, 1, none⟩ (.int .u64 c2)) by repeat (with_reducible first | exact HB.out | refine below_set ?_ G5.out))
          have n1_ := Aside0.mk (show Kd.R (Kd.int .u64) 39 ((w5.setCell ⟨g5, 0, none⟩ (.int .i64 o2)).setCell ⟨g5, 1, none⟩ (.int .u64 c2)) w.heap.size (fun k => k < g5) u3 L by repeat (with_reducible first | exact HO.out | refine Kd.R_far (p := ⟨g5, _, none⟩) ?_ (fun k hk => Nat.ne_of_lt hk) _))
          clear HB HO B5 tz0 tf0 tz1 tf1
          have HB := n0_
          have HO := n1_
          clear n0_ n1_
          have sz0 := (blk_cell B6.out 0).trans rfl
          have sf0 := blk_frozen B6.out 0
          have sz1 := (blk_cell B6.out 1).trans rfl
          have sf1 := blk_frozen B6.out 1
          go_wp2_with (fail)
          go_ret
          obtain rfl := Option.some.inj (HF.out : some [] = some r)
          exact ⟨_, rfl, Kd.R_nil _ _ _ _ _, HB.out⟩
        · replace H : none = R := H
          subst H
          go_upto_region 7 with (first | ((with_reducible refine gate_dst (N := 5) rfl ?_); (try (refine gate_guard (by rfl) ?_; dsimp only)); refine box_event ?hg (N := 5) ?hd (cs := #[.int .i64 0, .int .u64 0]) (t := 41) ?hr ?_; (case hd => rfl); (case hg => rfl); (case hr => first | (go_simp; done) | (go_simp; rfl)); intro g5 hg w5 hbox hb; have n0_ := Aside0.mk (below_step HB.out hb); have n1_ := Aside0.mk (Kd.R_below (Kd.R_mono (Kd.R_bound HO.out) (fun k hk => (show k < g5 by rw [hg]; exact hk.2.2.1))) hb); have B5 := Aside0.mk hbox; have G5 := Aside0.mk (show w.heap.size ≤ g5 by rw [hg]; exact HB.out.size); clear HB HO; have HB := n0_; have HO := n1_; clear n0_ n1_ hg hbox hb; have tz0 := (blk_cell B5.out 0).trans rfl; have tf0 := blk_frozen B5.out 0; have tz1 := (blk_cell B5.out 1).trans rfl; have tf1 := blk_frozen B5.out 1))
          have B6 := Aside0.mk (show ((w5.setCell ⟨g5, 0, none⟩ (.int .i64 o2)).setCell ⟨g5, 1, none⟩ (.int .u64 c2)).heap[g5]? = some (.cells #[.int .i64 o2, .int .u64 c2] 41 (0, 0)) by refine blk_put (cs := #[.int .i64 o2, .int .u64 0]) ?_ 1 _ rfl; refine blk_put (cs := #[.int .i64 0, .int .u64 0]) ?_ 0 _ rfl; exact B5.out)
          have n0_ := Aside0.mk (show Below w.heap.size w ((w5.setCell ⟨g5, 0, none⟩ (.int .i64 o2)).setCell ⟨g5, 1, none⟩ (.int .u64 c2)) by repeat (with_reducible first | exact HB.out | refine below_set ?_ G5.out))
          have n1_ := Aside0.mk (show Kd.R (Kd.int .u64) 39 ((w5.setCell ⟨g5, 0, none⟩ (.int .i64 o2)).setCell ⟨g5, 1, none⟩ (.int .u64 c2)) w.heap.size (fun k => k < g5) u3 L by repeat (with_reducible first | exact HO.out | refine Kd.R_far (p := ⟨g5, _, none⟩) ?_ (fun k hk => Nat.ne_of_lt hk) _))
          clear HB HO B5 tz0 tf0 tz1 tf1
          have HB := n0_
          have HO := n1_
          clear n0_ n1_
          have sz0 := (blk_cell B6.out 0).trans rfl
          have sf0 := blk_frozen B6.out 0
          have sz1 := (blk_cell B6.out 1).trans rfl
          have sf1 := blk_frozen B6.out 1
          go_wp2_with (fail)
          go_ret
          obtain rfl := Option.some.inj (HF.out : some [] = some r)
          exact ⟨_, rfl, Kd.R_nil _ _ _ _ _, HB.out⟩
        · replace H : gath [(o3, c3), (o4, c4)] (L ++ [IntKind.u64.wrap o2, c2]) = R := H
          have HG := Aside0.mk H
          clear H
          go_upto_region 7 with (first | ((with_reducible refine gate_dst (N := 5) rfl ?_); (try (refine gate_guard (by rfl) ?_; dsimp only)); refine box_event ?hg (N := 5) ?hd (cs := #[.int .i64 0, .int .u64 0]) (t := 41) ?hr ?_; (case hd => rfl); (case hg => rfl); (case hr => first | (go_simp; done) | (go_simp; rfl)); intro g5 hg w5 hbox hb; have n0_ := Aside0.mk (below_step HB.out hb); have n1_ := Aside0.mk (Kd.R_below (Kd.R_mono (Kd.R_bound HO.out) (fun k hk => (show k < g5 by rw [hg]; exact hk.2.2.1))) hb); have B5 := Aside0.mk hbox; have G5 := Aside0.mk (show w.heap.size ≤ g5 by rw [hg]; exact HB.out.size); clear HB HO; have HB := n0_; have HO := n1_; clear n0_ n1_ hg hbox hb; have tz0 := (blk_cell B5.out 0).trans rfl; have tf0 := blk_frozen B5.out 0; have tz1 := (blk_cell B5.out 1).trans rfl; have tf1 := blk_frozen B5.out 1))
          have B6 := Aside0.mk (show ((w5.setCell ⟨g5, 0, none⟩ (.int .i64 o2)).setCell ⟨g5, 1, none⟩ (.int .u64 c2)).heap[g5]? = some (.cells #[.int .i64 o2, .int .u64 c2] 41 (0, 0)) by refine blk_put (cs := #[.int .i64 o2, .int .u64 0]) ?_ 1 _ rfl; refine blk_put (cs := #[.int .i64 0, .int .u64 0]) ?_ 0 _ rfl; exact B5.out)
          have n0_ := Aside0.mk (show Below w.heap.size w ((w5.setCell ⟨g5, 0, none⟩ (.int .i64 o2)).setCell ⟨g5, 1, none⟩ (.int .u64 c2)) by repeat (with_reducible first | exact HB.out | refine below_set ?_ G5.out))
          have n1_ := Aside0.mk (show Kd.R (Kd.int .u64) 39 ((w5.setCell ⟨g5, 0, none⟩ (.int .i64 o2)).setCell ⟨g5, 1, none⟩ (.int .u64 c2)) w.heap.size (fun k => k < g5) u3 L by repeat (with_reducible first | exact HO.out | refine Kd.R_far (p := ⟨g5, _, none⟩) ?_ (fun k hk => Nat.ne_of_lt hk) _))
          clear HB HO B5 tz0 tf0 tz1 tf1
          have HB := n0_
          have HO := n1_
          clear n0_ n1_
          have sz0 := (blk_cell B6.out 0).trans rfl
          have sf0 := blk_frozen B6.out 0
          have sz1 := (blk_cell B6.out 1).trans rfl
          have sf1 := blk_frozen B6.out 1
          go_upto_region 9 with (fail)
          go_upto_region 10 with (first | ((with_reducible refine gate_dst (N := 40) rfl ?_); refine Kd.R_lit (Kd.int .u64) _ 39 ?hg (N := 40) ?hd (xs := ([IntKind.u64.wrap o2, c2] : List Int)) (inner := [.int .u64 (IntKind.u64.wrap o2), .int .u64 c2]) (ok := fun _ => True) (okp := fun _ => True) ?hr ?hp (fun _ hk => hk) trivial (Below.refl _ _) (Nat.le_refl _) (by simp) ?_; (case hd => rfl); (case hg => rfl); (case hr => first | (go_simp; done) | (go_simp; rfl)); (case hp => exact (Reps.one (show Kd.M (Kd.int .u64) _ _ _ (IntKind.u64.wrap o2) [.int .u64 (IntKind.u64.wrap o2)] from rfl) (Reps.one (show Kd.M (Kd.int .u64) _ _ _ c2 [.int .u64 c2] from rfl) (Reps.none _ _)))); intro v40 w6 ho4 hb_ hg_ hnew_; clear hg_ hnew_; obtain ⟨A6, c6, e6, hc6, hC6⟩ := Kd.R_reads ho4; subst e6; have HC6 := Aside0.mk hC6; have n1_ := Aside0.mk (below_step HB.out hb_); have n0_ := Aside0.mk (Kd.R_mono (Kd.R_below HO.out hb_) (fun _ _ => trivial)); clear HB HO B6; have HB := n1_; have HO := n0_; clear n0_ n1_ ho4 hb_ hc6 hC6) | ((with_reducible refine gate_builtin (b := .append) (xs := #[.tmp 34, .tmp 40]) rfl ?_); at_builtin; refine Kd.R_append_row (Value.int .u64) 0 (h1 := fun _ => rfl) (w0 := w) w.heap.size rfl (.tmp 34) (.tmp 40) 77 39 (.int .u64 0) 8 rfl Try.underlying77 info39 rfl (by decide) u3 L [IntKind.u64.wrap o2, c2] A6 _ c6 (fun _ => True) rfl rfl (fun _ _ => trivial) HO.out HC6.out HB.out (below_size HB.out) (by have := HL.out; simp only [List.length_cons, List.length_nil]; omega) ?_; intro v41 w7 ho hb hg hat; have n0_ := Aside0.mk ho; have n1_ := Aside0.mk hb; clear HB HO HC6 ho hb hg hat; have HB := n1_; have HO := n0_; clear n0_ n1_))
          go_wp2_with (fail)
          go_roundg 2
          case measure => omega
          case rel => exact ⟨L ++ [IntKind.u64.wrap o2, c2], 3, (by first | rfl | kernel_rfl), ⟨by have := HI.out; omega⟩, HG, ⟨by have := HL.out; simp only [List.length_append, List.length_cons, List.length_nil]; omega⟩, HO, HB⟩
    | 4 =>
      obtain rfl : i = 1 := by have := HI.out; omega
      have H : (if o1 < 0 then none else if (o1 == 0) != (c1 == 0) then none else gath [(o2, c2), (o3, c3), (o4, c4)] (L ++ [IntKind.u64.wrap o1, c1])) = R := HG.out
      clear HG
      by_cases d1 : o1 < 0
      · rw [if_pos d1] at H
        subst H
        have e1 := decide_eq_true d1
        clear d1
        go_upto_region 7 with (first | ((with_reducible refine gate_dst (N := 5) rfl ?_); (try (refine gate_guard (by rfl) ?_; dsimp only)); refine box_event ?hg (N := 5) ?hd (cs := #[.int .i64 0, .int .u64 0]) (t := 41) ?hr ?_; (case hd => rfl); (case hg => rfl); (case hr => first | (go_simp; done) | (go_simp; rfl)); intro g5 hg w5 hbox hb; have n0_ := Aside0.mk (below_step HB.out hb); have n1_ := Aside0.mk (Kd.R_below (Kd.R_mono (Kd.R_bound HO.out) (fun k hk => (show k < g5 by rw [hg]; exact hk.2.2.1))) hb); have B5 := Aside0.mk hbox; have G5 := Aside0.mk (show w.heap.size ≤ g5 by rw [hg]; exact HB.out.size); clear HB HO; have HB := n0_; have HO := n1_; clear n0_ n1_ hg hbox hb; have tz0 := (blk_cell B5.out 0).trans rfl; have tf0 := blk_frozen B5.out 0; have tz1 := (blk_cell B5.out 1).trans rfl; have tf1 := blk_frozen B5.out 1))
        have B6 := Aside0.mk (show ((w5.setCell ⟨g5, 0, none⟩ (.int .i64 o1)).setCell ⟨g5, 1, none⟩ (.int .u64 c1)).heap[g5]? = some (.cells #[.int .i64 o1, .int .u64 c1] 41 (0, 0)) by refine blk_put (cs := #[.int .i64 o1, .int .u64 0]) ?_ 1 _ rfl; refine blk_put (cs := #[.int .i64 0, .int .u64 0]) ?_ 0 _ rfl; exact B5.out)
        have n0_ := Aside0.mk (show Below w.heap.size w ((w5.setCell ⟨g5, 0, none⟩ (.int .i64 o1)).setCell ⟨g5, 1, none⟩ (.int .u64 c1)) by repeat (with_reducible first | exact HB.out | refine below_set ?_ G5.out))
        have n1_ := Aside0.mk (show Kd.R (Kd.int .u64) 39 ((w5.setCell ⟨g5, 0, none⟩ (.int .i64 o1)).setCell ⟨g5, 1, none⟩ (.int .u64 c1)) w.heap.size (fun k => k < g5) u3 L by repeat (with_reducible first | exact HO.out | refine Kd.R_far (p := ⟨g5, _, none⟩) ?_ (fun k hk => Nat.ne_of_lt hk) _))
        clear HB HO B5 tz0 tf0 tz1 tf1
        have HB := n0_
        have HO := n1_
        clear n0_ n1_
        have sz0 := (blk_cell B6.out 0).trans rfl
        have sf0 := blk_frozen B6.out 0
        have sz1 := (blk_cell B6.out 1).trans rfl
        have sf1 := blk_frozen B6.out 1
        go_wp2_with (fail)
        go_ret
        obtain rfl := Option.some.inj (HF.out : some [] = some r)
        exact ⟨_, rfl, Kd.R_nil _ _ _ _ _, HB.out⟩
      · rw [if_neg d1] at H
        have e1 := decide_eq_false d1
        clear d1
        obtain ⟨p, hp⟩ : ∃ p, (o1 == 0) = p := ⟨_, rfl⟩
        obtain ⟨q, hq⟩ : ∃ q, (c1 == 0) = q := ⟨_, rfl⟩
        rw [hp, hq] at H
        rcases p with _ | _ <;> rcases q with _ | _
        · replace H : gath [(o2, c2), (o3, c3), (o4, c4)] (L ++ [IntKind.u64.wrap o1, c1]) = R := H
          have HG := Aside0.mk H
          clear H
          go_upto_region 7 with (first | ((with_reducible refine gate_dst (N := 5) rfl ?_); (try (refine gate_guard (by rfl) ?_; dsimp only)); refine box_event ?hg (N := 5) ?hd (cs := #[.int .i64 0, .int .u64 0]) (t := 41) ?hr ?_; (case hd => rfl); (case hg => rfl); (case hr => first | (go_simp; done) | (go_simp; rfl)); intro g5 hg w5 hbox hb; have n0_ := Aside0.mk (below_step HB.out hb); have n1_ := Aside0.mk (Kd.R_below (Kd.R_mono (Kd.R_bound HO.out) (fun k hk => (show k < g5 by rw [hg]; exact hk.2.2.1))) hb); have B5 := Aside0.mk hbox; have G5 := Aside0.mk (show w.heap.size ≤ g5 by rw [hg]; exact HB.out.size); clear HB HO; have HB := n0_; have HO := n1_; clear n0_ n1_ hg hbox hb; have tz0 := (blk_cell B5.out 0).trans rfl; have tf0 := blk_frozen B5.out 0; have tz1 := (blk_cell B5.out 1).trans rfl; have tf1 := blk_frozen B5.out 1))
          have B6 := Aside0.mk (show ((w5.setCell ⟨g5, 0, none⟩ (.int .i64 o1)).setCell ⟨g5, 1, none⟩ (.int .u64 c1)).heap[g5]? = some (.cells #[.int .i64 o1, .int .u64 c1] 41 (0, 0)) by refine blk_put (cs := #[.int .i64 o1, .int .u64 0]) ?_ 1 _ rfl; refine blk_put (cs := #[.int .i64 0, .int .u64 0]) ?_ 0 _ rfl; exact B5.out)
          have n0_ := Aside0.mk (show Below w.heap.size w ((w5.setCell ⟨g5, 0, none⟩ (.int .i64 o1)).setCell ⟨g5, 1, none⟩ (.int .u64 c1)) by repeat (with_reducible first | exact HB.out | refine below_set ?_ G5.out))
          have n1_ := Aside0.mk (show Kd.R (Kd.int .u64) 39 ((w5.setCell ⟨g5, 0, none⟩ (.int .i64 o1)).setCell ⟨g5, 1, none⟩ (.int .u64 c1)) w.heap.size (fun k => k < g5) u3 L by repeat (with_reducible first | exact HO.out | refine Kd.R_far (p := ⟨g5, _, none⟩) ?_ (fun k hk => Nat.ne_of_lt hk) _))
          clear HB HO B5 tz0 tf0 tz1 tf1
          have HB := n0_
          have HO := n1_
          clear n0_ n1_
          have sz0 := (blk_cell B6.out 0).trans rfl
          have sf0 := blk_frozen B6.out 0
          have sz1 := (blk_cell B6.out 1).trans rfl
          have sf1 := blk_frozen B6.out 1
          go_upto_region 9 with (fail)
          go_upto_region 10 with (first | ((with_reducible refine gate_dst (N := 40) rfl ?_); refine Kd.R_lit (Kd.int .u64) _ 39 ?hg (N := 40) ?hd (xs := ([IntKind.u64.wrap o1, c1] : List Int)) (inner := [.int .u64 (IntKind.u64.wrap o1), .int .u64 c1]) (ok := fun _ => True) (okp := fun _ => True) ?hr ?hp (fun _ hk => hk) trivial (Below.refl _ _) (Nat.le_refl _) (by simp) ?_; (case hd => rfl); (case hg => rfl); (case hr => first | (go_simp; done) | (go_simp; rfl)); (case hp => exact (Reps.one (show Kd.M (Kd.int .u64) _ _ _ (IntKind.u64.wrap o1) [.int .u64 (IntKind.u64.wrap o1)] from rfl) (Reps.one (show Kd.M (Kd.int .u64) _ _ _ c1 [.int .u64 c1] from rfl) (Reps.none _ _)))); intro v40 w6 ho4 hb_ hg_ hnew_; clear hg_ hnew_; obtain ⟨A6, c6, e6, hc6, hC6⟩ := Kd.R_reads ho4; subst e6; have HC6 := Aside0.mk hC6; have n1_ := Aside0.mk (below_step HB.out hb_); have n0_ := Aside0.mk (Kd.R_mono (Kd.R_below HO.out hb_) (fun _ _ => trivial)); clear HB HO B6; have HB := n1_; have HO := n0_; clear n0_ n1_ ho4 hb_ hc6 hC6) | ((with_reducible refine gate_builtin (b := .append) (xs := #[.tmp 34, .tmp 40]) rfl ?_); at_builtin; refine Kd.R_append_row (Value.int .u64) 0 (h1 := fun _ => rfl) (w0 := w) w.heap.size rfl (.tmp 34) (.tmp 40) 77 39 (.int .u64 0) 8 rfl Try.underlying77 info39 rfl (by decide) u3 L [IntKind.u64.wrap o1, c1] A6 _ c6 (fun _ => True) rfl rfl (fun _ _ => trivial) HO.out HC6.out HB.out (below_size HB.out) (by have := HL.out; simp only [List.length_cons, List.length_nil]; omega) ?_; intro v41 w7 ho hb hg hat; have n0_ := Aside0.mk ho; have n1_ := Aside0.mk hb; clear HB HO HC6 ho hb hg hat; have HB := n1_; have HO := n0_; clear n0_ n1_))
          go_wp2_with (fail)
          go_roundg 3
          case measure => omega
          case rel => exact ⟨L ++ [IntKind.u64.wrap o1, c1], 2, (by first | rfl | kernel_rfl), ⟨by have := HI.out; omega⟩, HG, ⟨by have := HL.out; simp only [List.length_append, List.length_cons, List.length_nil]; omega⟩, HO, HB⟩
        · replace H : none = R := H
          subst H
          go_upto_region 7 with (first | ((with_reducible refine gate_dst (N := 5) rfl ?_); (try (refine gate_guard (by rfl) ?_; dsimp only)); refine box_event ?hg (N := 5) ?hd (cs := #[.int .i64 0, .int .u64 0]) (t := 41) ?hr ?_; (case hd => rfl); (case hg => rfl); (case hr => first | (go_simp; done) | (go_simp; rfl)); intro g5 hg w5 hbox hb; have n0_ := Aside0.mk (below_step HB.out hb); have n1_ := Aside0.mk (Kd.R_below (Kd.R_mono (Kd.R_bound HO.out) (fun k hk => (show k < g5 by rw [hg]; exact hk.2.2.1))) hb); have B5 := Aside0.mk hbox; have G5 := Aside0.mk (show w.heap.size ≤ g5 by rw [hg]; exact HB.out.size); clear HB HO; have HB := n0_; have HO := n1_; clear n0_ n1_ hg hbox hb; have tz0 := (blk_cell B5.out 0).trans rfl; have tf0 := blk_frozen B5.out 0; have tz1 := (blk_cell B5.out 1).trans rfl; have tf1 := blk_frozen B5.out 1))
          have B6 := Aside0.mk (show ((w5.setCell ⟨g5, 0, none⟩ (.int .i64 o1)).setCell ⟨g5, 1, none⟩ (.int .u64 c1)).heap[g5]? = some (.cells #[.int .i64 o1, .int .u64 c1] 41 (0, 0)) by refine blk_put (cs := #[.int .i64 o1, .int .u64 0]) ?_ 1 _ rfl; refine blk_put (cs := #[.int .i64 0, .int .u64 0]) ?_ 0 _ rfl; exact B5.out)
          have n0_ := Aside0.mk (show Below w.heap.size w ((w5.setCell ⟨g5, 0, none⟩ (.int .i64 o1)).setCell ⟨g5, 1, none⟩ (.int .u64 c1)) by repeat (with_reducible first | exact HB.out | refine below_set ?_ G5.out))
          have n1_ := Aside0.mk (show Kd.R (Kd.int .u64) 39 ((w5.setCell ⟨g5, 0, none⟩ (.int .i64 o1)).setCell ⟨g5, 1, none⟩ (.int .u64 c1)) w.heap.size (fun k => k < g5) u3 L by repeat (with_reducible first | exact HO.out | refine Kd.R_far (p := ⟨g5, _, none⟩) ?_ (fun k hk => Nat.ne_of_lt hk) _))
          clear HB HO B5 tz0 tf0 tz1 tf1
          have HB := n0_
          have HO := n1_
          clear n0_ n1_
          have sz0 := (blk_cell B6.out 0).trans rfl
          have sf0 := blk_frozen B6.out 0
          have sz1 := (blk_cell B6.out 1).trans rfl
          have sf1 := blk_frozen B6.out 1
          go_wp2_with (fail)
          go_ret
          obtain rfl := Option.some.inj (HF.out : some [] = some r)
          exact ⟨_, rfl, Kd.R_nil _ _ _ _ _, HB.out⟩
        · replace H : none = R := H
          subst H
          go_upto_region 7 with (first | ((with_reducible refine gate_dst (N := 5) rfl ?_); (try (refine gate_guard (by rfl) ?_; dsimp only)); refine box_event ?hg (N := 5) ?hd (cs := #[.int .i64 0, .int .u64 0]) (t := 41) ?hr ?_; (case hd => rfl); (case hg => rfl); (case hr => first | (go_simp; done) | (go_simp; rfl)); intro g5 hg w5 hbox hb; have n0_ := Aside0.mk (below_step HB.out hb); have n1_ := Aside0.mk (Kd.R_below (Kd.R_mono (Kd.R_bound HO.out) (fun k hk => (show k < g5 by rw [hg]; exact hk.2.2.1))) hb); have B5 := Aside0.mk hbox; have G5 := Aside0.mk (show w.heap.size ≤ g5 by rw [hg]; exact HB.out.size); clear HB HO; have HB := n0_; have HO := n1_; clear n0_ n1_ hg hbox hb; have tz0 := (blk_cell B5.out 0).trans rfl; have tf0 := blk_frozen B5.out 0; have tz1 := (blk_cell B5.out 1).trans rfl; have tf1 := blk_frozen B5.out 1))
          have B6 := Aside0.mk (show ((w5.setCell ⟨g5, 0, none⟩ (.int .i64 o1)).setCell ⟨g5, 1, none⟩ (.int .u64 c1)).heap[g5]? = some (.cells #[.int .i64 o1, .int .u64 c1] 41 (0, 0)) by refine blk_put (cs := #[.int .i64 o1, .int .u64 0]) ?_ 1 _ rfl; refine blk_put (cs := #[.int .i64 0, .int .u64 0]) ?_ 0 _ rfl; exact B5.out)
          have n0_ := Aside0.mk (show Below w.heap.size w ((w5.setCell ⟨g5, 0, none⟩ (.int .i64 o1)).setCell ⟨g5, 1, none⟩ (.int .u64 c1)) by repeat (with_reducible first | exact HB.out | refine below_set ?_ G5.out))
          have n1_ := Aside0.mk (show Kd.R (Kd.int .u64) 39 ((w5.setCell ⟨g5, 0, none⟩ (.int .i64 o1)).setCell ⟨g5, 1, none⟩ (.int .u64 c1)) w.heap.size (fun k => k < g5) u3 L by repeat (with_reducible first | exact HO.out | refine Kd.R_far (p := ⟨g5, _, none⟩) ?_ (fun k hk => Nat.ne_of_lt hk) _))
          clear HB HO B5 tz0 tf0 tz1 tf1
          have HB := n0_
          have HO := n1_
          clear n0_ n1_
          have sz0 := (blk_cell B6.out 0).trans rfl
          have sf0 := blk_frozen B6.out 0
          have sz1 := (blk_cell B6.out 1).trans rfl
          have sf1 := blk_frozen B6.out 1
          go_wp2_with (fail)
          go_ret
          obtain rfl := Option.some.inj (HF.out : some [] = some r)
          exact ⟨_, rfl, Kd.R_nil _ _ _ _ _, HB.out⟩
        · replace H : gath [(o2, c2), (o3, c3), (o4, c4)] (L ++ [IntKind.u64.wrap o1, c1]) = R := H
          have HG := Aside0.mk H
          clear H
          go_upto_region 7 with (first | ((with_reducible refine gate_dst (N := 5) rfl ?_); (try (refine gate_guard (by rfl) ?_; dsimp only)); refine box_event ?hg (N := 5) ?hd (cs := #[.int .i64 0, .int .u64 0]) (t := 41) ?hr ?_; (case hd => rfl); (case hg => rfl); (case hr => first | (go_simp; done) | (go_simp; rfl)); intro g5 hg w5 hbox hb; have n0_ := Aside0.mk (below_step HB.out hb); have n1_ := Aside0.mk (Kd.R_below (Kd.R_mono (Kd.R_bound HO.out) (fun k hk => (show k < g5 by rw [hg]; exact hk.2.2.1))) hb); have B5 := Aside0.mk hbox; have G5 := Aside0.mk (show w.heap.size ≤ g5 by rw [hg]; exact HB.out.size); clear HB HO; have HB := n0_; have HO := n1_; clear n0_ n1_ hg hbox hb; have tz0 := (blk_cell B5.out 0).trans rfl; have tf0 := blk_frozen B5.out 0; have tz1 := (blk_cell B5.out 1).trans rfl; have tf1 := blk_frozen B5.out 1))
          have B6 := Aside0.mk (show ((w5.setCell ⟨g5, 0, none⟩ (.int .i64 o1)).setCell ⟨g5, 1, none⟩ (.int .u64 c1)).heap[g5]? = some (.cells #[.int .i64 o1, .int .u64 c1] 41 (0, 0)) by refine blk_put (cs := #[.int .i64 o1, .int .u64 0]) ?_ 1 _ rfl; refine blk_put (cs := #[.int .i64 0, .int .u64 0]) ?_ 0 _ rfl; exact B5.out)
          have n0_ := Aside0.mk (show Below w.heap.size w ((w5.setCell ⟨g5, 0, none⟩ (.int .i64 o1)).setCell ⟨g5, 1, none⟩ (.int .u64 c1)) by repeat (with_reducible first | exact HB.out | refine below_set ?_ G5.out))
          have n1_ := Aside0.mk (show Kd.R (Kd.int .u64) 39 ((w5.setCell ⟨g5, 0, none⟩ (.int .i64 o1)).setCell ⟨g5, 1, none⟩ (.int .u64 c1)) w.heap.size (fun k => k < g5) u3 L by repeat (with_reducible first | exact HO.out | refine Kd.R_far (p := ⟨g5, _, none⟩) ?_ (fun k hk => Nat.ne_of_lt hk) _))
          clear HB HO B5 tz0 tf0 tz1 tf1
          have HB := n0_
          have HO := n1_
          clear n0_ n1_
          have sz0 := (blk_cell B6.out 0).trans rfl
          have sf0 := blk_frozen B6.out 0
          have sz1 := (blk_cell B6.out 1).trans rfl
          have sf1 := blk_frozen B6.out 1
          go_upto_region 9 with (fail)
          go_upto_region 10 with (first | ((with_reducible refine gate_dst (N := 40) rfl ?_); refine Kd.R_lit (Kd.int .u64) _ 39 ?hg (N := 40) ?hd (xs := ([IntKind.u64.wrap o1, c1] : List Int)) (inner := [.int .u64 (IntKind.u64.wrap o1), .int .u64 c1]) (ok := fun _ => True) (okp := fun _ => True) ?hr ?hp (fun _ hk => hk) trivial (Below.refl _ _) (Nat.le_refl _) (by simp) ?_; (case hd => rfl); (case hg => rfl); (case hr => first | (go_simp; done) | (go_simp; rfl)); (case hp => exact (Reps.one (show Kd.M (Kd.int .u64) _ _ _ (IntKind.u64.wrap o1) [.int .u64 (IntKind.u64.wrap o1)] from rfl) (Reps.one (show Kd.M (Kd.int .u64) _ _ _ c1 [.int .u64 c1] from rfl) (Reps.none _ _)))); intro v40 w6 ho4 hb_ hg_ hnew_; clear hg_ hnew_; obtain ⟨A6, c6, e6, hc6, hC6⟩ := Kd.R_reads ho4; subst e6; have HC6 := Aside0.mk hC6; have n1_ := Aside0.mk (below_step HB.out hb_); have n0_ := Aside0.mk (Kd.R_mono (Kd.R_below HO.out hb_) (fun _ _ => trivial)); clear HB HO B6; have HB := n1_; have HO := n0_; clear n0_ n1_ ho4 hb_ hc6 hC6) | ((with_reducible refine gate_builtin (b := .append) (xs := #[.tmp 34, .tmp 40]) rfl ?_); at_builtin; refine Kd.R_append_row (Value.int .u64) 0 (h1 := fun _ => rfl) (w0 := w) w.heap.size rfl (.tmp 34) (.tmp 40) 77 39 (.int .u64 0) 8 rfl Try.underlying77 info39 rfl (by decide) u3 L [IntKind.u64.wrap o1, c1] A6 _ c6 (fun _ => True) rfl rfl (fun _ _ => trivial) HO.out HC6.out HB.out (below_size HB.out) (by have := HL.out; simp only [List.length_cons, List.length_nil]; omega) ?_; intro v41 w7 ho hb hg hat; have n0_ := Aside0.mk ho; have n1_ := Aside0.mk hb; clear HB HO HC6 ho hb hg hat; have HB := n1_; have HO := n0_; clear n0_ n1_))
          go_wp2_with (fail)
          go_roundg 3
          case measure => omega
          case rel => exact ⟨L ++ [IntKind.u64.wrap o1, c1], 2, (by first | rfl | kernel_rfl), ⟨by have := HI.out; omega⟩, HG, ⟨by have := HL.out; simp only [List.length_append, List.length_cons, List.length_nil]; omega⟩, HO, HB⟩
    | 5 =>
      obtain rfl : i = 0 := by have := HI.out; omega
      have H : (if o0 < 0 then none else if (o0 == 0) != (c0 == 0) then none else gath [(o1, c1), (o2, c2), (o3, c3), (o4, c4)] (L ++ [IntKind.u64.wrap o0, c0])) = R := HG.out
      clear HG
      by_cases d1 : o0 < 0
      · rw [if_pos d1] at H
        subst H
        have e1 := decide_eq_true d1
        clear d1
        go_upto_region 7 with (first | ((with_reducible refine gate_dst (N := 5) rfl ?_); (try (refine gate_guard (by rfl) ?_; dsimp only)); refine box_event ?hg (N := 5) ?hd (cs := #[.int .i64 0, .int .u64 0]) (t := 41) ?hr ?_; (case hd => rfl); (case hg => rfl); (case hr => first | (go_simp; done) | (go_simp; rfl)); intro g5 hg w5 hbox hb; have n0_ := Aside0.mk (below_step HB.out hb); have n1_ := Aside0.mk (Kd.R_below (Kd.R_mono (Kd.R_bound HO.out) (fun k hk => (show k < g5 by rw [hg]; exact hk.2.2.1))) hb); have B5 := Aside0.mk hbox; have G5 := Aside0.mk (show w.heap.size ≤ g5 by rw [hg]; exact HB.out.size); clear HB HO; have HB := n0_; have HO := n1_; clear n0_ n1_ hg hbox hb; have tz0 := (blk_cell B5.out 0).trans rfl; have tf0 := blk_frozen B5.out 0; have tz1 := (blk_cell B5.out 1).trans rfl; have tf1 := blk_frozen B5.out 1))
        have B6 := Aside0.mk (show ((w5.setCell ⟨g5, 0, none⟩ (.int .i64 o0)).setCell ⟨g5, 1, none⟩ (.int .u64 c0)).heap[g5]? = some (.cells #[.int .i64 o0, .int .u64 c0] 41 (0, 0)) by refine blk_put (cs := #[.int .i64 o0, .int .u64 0]) ?_ 1 _ rfl; refine blk_put (cs := #[.int .i64 0, .int .u64 0]) ?_ 0 _ rfl; exact B5.out)
        have n0_ := Aside0.mk (show Below w.heap.size w ((w5.setCell ⟨g5, 0, none⟩ (.int .i64 o0)).setCell ⟨g5, 1, none⟩ (.int .u64 c0)) by repeat (with_reducible first | exact HB.out | refine below_set ?_ G5.out))
        have n1_ := Aside0.mk (show Kd.R (Kd.int .u64) 39 ((w5.setCell ⟨g5, 0, none⟩ (.int .i64 o0)).setCell ⟨g5, 1, none⟩ (.int .u64 c0)) w.heap.size (fun k => k < g5) u3 L by repeat (with_reducible first | exact HO.out | refine Kd.R_far (p := ⟨g5, _, none⟩) ?_ (fun k hk => Nat.ne_of_lt hk) _))
        clear HB HO B5 tz0 tf0 tz1 tf1
        have HB := n0_
        have HO := n1_
        clear n0_ n1_
        have sz0 := (blk_cell B6.out 0).trans rfl
        have sf0 := blk_frozen B6.out 0
        have sz1 := (blk_cell B6.out 1).trans rfl
        have sf1 := blk_frozen B6.out 1
        go_wp2_with (fail)
        go_ret
        obtain rfl := Option.some.inj (HF.out : some [] = some r)
        exact ⟨_, rfl, Kd.R_nil _ _ _ _ _, HB.out⟩
      · rw [if_neg d1] at H
        have e1 := decide_eq_false d1
        clear d1
        obtain ⟨p, hp⟩ : ∃ p, (o0 == 0) = p := ⟨_, rfl⟩
        obtain ⟨q, hq⟩ : ∃ q, (c0 == 0) = q := ⟨_, rfl⟩
        rw [hp, hq] at H
        rcases p with _ | _ <;> rcases q with _ | _
        · replace H : gath [(o1, c1), (o2, c2), (o3, c3), (o4, c4)] (L ++ [IntKind.u64.wrap o0, c0]) = R := H
          have HG := Aside0.mk H
          clear H
          go_upto_region 7 with (first | ((with_reducible refine gate_dst (N := 5) rfl ?_); (try (refine gate_guard (by rfl) ?_; dsimp only)); refine box_event ?hg (N := 5) ?hd (cs := #[.int .i64 0, .int .u64 0]) (t := 41) ?hr ?_; (case hd => rfl); (case hg => rfl); (case hr => first | (go_simp; done) | (go_simp; rfl)); intro g5 hg w5 hbox hb; have n0_ := Aside0.mk (below_step HB.out hb); have n1_ := Aside0.mk (Kd.R_below (Kd.R_mono (Kd.R_bound HO.out) (fun k hk => (show k < g5 by rw [hg]; exact hk.2.2.1))) hb); have B5 := Aside0.mk hbox; have G5 := Aside0.mk (show w.heap.size ≤ g5 by rw [hg]; exact HB.out.size); clear HB HO; have HB := n0_; have HO := n1_; clear n0_ n1_ hg hbox hb; have tz0 := (blk_cell B5.out 0).trans rfl; have tf0 := blk_frozen B5.out 0; have tz1 := (blk_cell B5.out 1).trans rfl; have tf1 := blk_frozen B5.out 1))
          have B6 := Aside0.mk (show ((w5.setCell ⟨g5, 0, none⟩ (.int .i64 o0)).setCell ⟨g5, 1, none⟩ (.int .u64 c0)).heap[g5]? = some (.cells #[.int .i64 o0, .int .u64 c0] 41 (0, 0)) by refine blk_put (cs := #[.int .i64 o0, .int .u64 0]) ?_ 1 _ rfl; refine blk_put (cs := #[.int .i64 0, .int .u64 0]) ?_ 0 _ rfl; exact B5.out)
          have n0_ := Aside0.mk (show Below w.heap.size w ((w5.setCell ⟨g5, 0, none⟩ (.int .i64 o0)).setCell ⟨g5, 1, none⟩ (.int .u64 c0)) by repeat (with_reducible first | exact HB.out | refine below_set ?_ G5.out))
          have n1_ := Aside0.mk (show Kd.R (Kd.int .u64) 39 ((w5.setCell ⟨g5, 0, none⟩ (.int .i64 o0)).setCell ⟨g5, 1, none⟩ (.int .u64 c0)) w.heap.size (fun k => k < g5) u3 L by repeat (with_reducible first | exact HO.out | refine Kd.R_far (p := ⟨g5, _, none⟩) ?_ (fun k hk => Nat.ne_of_lt hk) _))
          clear HB HO B5 tz0 tf0 tz1 tf1
          have HB := n0_
          have HO := n1_
          clear n0_ n1_
          have sz0 := (blk_cell B6.out 0).trans rfl
          have sf0 := blk_frozen B6.out 0
          have sz1 := (blk_cell B6.out 1).trans rfl
          have sf1 := blk_frozen B6.out 1
          go_upto_region 9 with (fail)
          go_upto_region 10 with (first | ((with_reducible refine gate_dst (N := 40) rfl ?_); refine Kd.R_lit (Kd.int .u64) _ 39 ?hg (N := 40) ?hd (xs := ([IntKind.u64.wrap o0, c0] : List Int)) (inner := [.int .u64 (IntKind.u64.wrap o0), .int .u64 c0]) (ok := fun _ => True) (okp := fun _ => True) ?hr ?hp (fun _ hk => hk) trivial (Below.refl _ _) (Nat.le_refl _) (by simp) ?_; (case hd => rfl); (case hg => rfl); (case hr => first | (go_simp; done) | (go_simp; rfl)); (case hp => exact (Reps.one (show Kd.M (Kd.int .u64) _ _ _ (IntKind.u64.wrap o0) [.int .u64 (IntKind.u64.wrap o0)] from rfl) (Reps.one (show Kd.M (Kd.int .u64) _ _ _ c0 [.int .u64 c0] from rfl) (Reps.none _ _)))); intro v40 w6 ho4 hb_ hg_ hnew_; clear hg_ hnew_; obtain ⟨A6, c6, e6, hc6, hC6⟩ := Kd.R_reads ho4; subst e6; have HC6 := Aside0.mk hC6; have n1_ := Aside0.mk (below_step HB.out hb_); have n0_ := Aside0.mk (Kd.R_mono (Kd.R_below HO.out hb_) (fun _ _ => trivial)); clear HB HO B6; have HB := n1_; have HO := n0_; clear n0_ n1_ ho4 hb_ hc6 hC6) | ((with_reducible refine gate_builtin (b := .append) (xs := #[.tmp 34, .tmp 40]) rfl ?_); at_builtin; refine Kd.R_append_row (Value.int .u64) 0 (h1 := fun _ => rfl) (w0 := w) w.heap.size rfl (.tmp 34) (.tmp 40) 77 39 (.int .u64 0) 8 rfl Try.underlying77 info39 rfl (by decide) u3 L [IntKind.u64.wrap o0, c0] A6 _ c6 (fun _ => True) rfl rfl (fun _ _ => trivial) HO.out HC6.out HB.out (below_size HB.out) (by have := HL.out; simp only [List.length_cons, List.length_nil]; omega) ?_; intro v41 w7 ho hb hg hat; have n0_ := Aside0.mk ho; have n1_ := Aside0.mk hb; clear HB HO HC6 ho hb hg hat; have HB := n1_; have HO := n0_; clear n0_ n1_))
          go_wp2_with (fail)
          go_roundg 4
          case measure => omega
          case rel => exact ⟨L ++ [IntKind.u64.wrap o0, c0], 1, (by first | rfl | kernel_rfl), ⟨by have := HI.out; omega⟩, HG, ⟨by have := HL.out; simp only [List.length_append, List.length_cons, List.length_nil]; omega⟩, HO, HB⟩
        · replace H : none = R := H
          subst H
          go_upto_region 7 with (first | ((with_reducible refine gate_dst (N := 5) rfl ?_); (try (refine gate_guard (by rfl) ?_; dsimp only)); refine box_event ?hg (N := 5) ?hd (cs := #[.int .i64 0, .int .u64 0]) (t := 41) ?hr ?_; (case hd => rfl); (case hg => rfl); (case hr => first | (go_simp; done) | (go_simp; rfl)); intro g5 hg w5 hbox hb; have n0_ := Aside0.mk (below_step HB.out hb); have n1_ := Aside0.mk (Kd.R_below (Kd.R_mono (Kd.R_bound HO.out) (fun k hk => (show k < g5 by rw [hg]; exact hk.2.2.1))) hb); have B5 := Aside0.mk hbox; have G5 := Aside0.mk (show w.heap.size ≤ g5 by rw [hg]; exact HB.out.size); clear HB HO; have HB := n0_; have HO := n1_; clear n0_ n1_ hg hbox hb; have tz0 := (blk_cell B5.out 0).trans rfl; have tf0 := blk_frozen B5.out 0; have tz1 := (blk_cell B5.out 1).trans rfl; have tf1 := blk_frozen B5.out 1))
          have B6 := Aside0.mk (show ((w5.setCell ⟨g5, 0, none⟩ (.int .i64 o0)).setCell ⟨g5, 1, none⟩ (.int .u64 c0)).heap[g5]? = some (.cells #[.int .i64 o0, .int .u64 c0] 41 (0, 0)) by refine blk_put (cs := #[.int .i64 o0, .int .u64 0]) ?_ 1 _ rfl; refine blk_put (cs := #[.int .i64 0, .int .u64 0]) ?_ 0 _ rfl; exact B5.out)
          have n0_ := Aside0.mk (show Below w.heap.size w ((w5.setCell ⟨g5, 0, none⟩ (.int .i64 o0)).setCell ⟨g5, 1, none⟩ (.int .u64 c0)) by repeat (with_reducible first | exact HB.out | refine below_set ?_ G5.out))
          have n1_ := Aside0.mk (show Kd.R (Kd.int .u64) 39 ((w5.setCell ⟨g5, 0, none⟩ (.int .i64 o0)).setCell ⟨g5, 1, none⟩ (.int .u64 c0)) w.heap.size (fun k => k < g5) u3 L by repeat (with_reducible first | exact HO.out | refine Kd.R_far (p := ⟨g5, _, none⟩) ?_ (fun k hk => Nat.ne_of_lt hk) _))
          clear HB HO B5 tz0 tf0 tz1 tf1
          have HB := n0_
          have HO := n1_
          clear n0_ n1_
          have sz0 := (blk_cell B6.out 0).trans rfl
          have sf0 := blk_frozen B6.out 0
          have sz1 := (blk_cell B6.out 1).trans rfl
          have sf1 := blk_frozen B6.out 1
          go_wp2_with (fail)
          go_ret
          obtain rfl := Option.some.inj (HF.out : some [] = some r)
          exact ⟨_, rfl, Kd.R_nil _ _ _ _ _, HB.out⟩
        · replace H : none = R := H
          subst H
          go_upto_region 7 with (first | ((with_reducible refine gate_dst (N := 5) rfl ?_); (try (refine gate_guard (by rfl) ?_; dsimp only)); refine box_event ?hg (N := 5) ?hd (cs := #[.int .i64 0, .int .u64 0]) (t := 41) ?hr ?_; (case hd => rfl); (case hg => rfl); (case hr => first | (go_simp; done) | (go_simp; rfl)); intro g5 hg w5 hbox hb; have n0_ := Aside0.mk (below_step HB.out hb); have n1_ := Aside0.mk (Kd.R_below (Kd.R_mono (Kd.R_bound HO.out) (fun k hk => (show k < g5 by rw [hg]; exact hk.2.2.1))) hb); have B5 := Aside0.mk hbox; have G5 := Aside0.mk (show w.heap.size ≤ g5 by rw [hg]; exact HB.out.size); clear HB HO; have HB := n0_; have HO := n1_; clear n0_ n1_ hg hbox hb; have tz0 := (blk_cell B5.out 0).trans rfl; have tf0 := blk_frozen B5.out 0; have tz1 := (blk_cell B5.out 1).trans rfl; have tf1 := blk_frozen B5.out 1))
          have B6 := Aside0.mk (show ((w5.setCell ⟨g5, 0, none⟩ (.int .i64 o0)).setCell ⟨g5, 1, none⟩ (.int .u64 c0)).heap[g5]? = some (.cells #[.int .i64 o0, .int .u64 c0] 41 (0, 0)) by refine blk_put (cs := #[.int .i64 o0, .int .u64 0]) ?_ 1 _ rfl; refine blk_put (cs := #[.int .i64 0, .int .u64 0]) ?_ 0 _ rfl; exact B5.out)
          have n0_ := Aside0.mk (show Below w.heap.size w ((w5.setCell ⟨g5, 0, none⟩ (.int .i64 o0)).setCell ⟨g5, 1, none⟩ (.int .u64 c0)) by repeat (with_reducible first | exact HB.out | refine below_set ?_ G5.out))
          have n1_ := Aside0.mk (show Kd.R (Kd.int .u64) 39 ((w5.setCell ⟨g5, 0, none⟩ (.int .i64 o0)).setCell ⟨g5, 1, none⟩ (.int .u64 c0)) w.heap.size (fun k => k < g5) u3 L by repeat (with_reducible first | exact HO.out | refine Kd.R_far (p := ⟨g5, _, none⟩) ?_ (fun k hk => Nat.ne_of_lt hk) _))
          clear HB HO B5 tz0 tf0 tz1 tf1
          have HB := n0_
          have HO := n1_
          clear n0_ n1_
          have sz0 := (blk_cell B6.out 0).trans rfl
          have sf0 := blk_frozen B6.out 0
          have sz1 := (blk_cell B6.out 1).trans rfl
          have sf1 := blk_frozen B6.out 1
          go_wp2_with (fail)
          go_ret
          obtain rfl := Option.some.inj (HF.out : some [] = some r)
          exact ⟨_, rfl, Kd.R_nil _ _ _ _ _, HB.out⟩
        · replace H : gath [(o1, c1), (o2, c2), (o3, c3), (o4, c4)] (L ++ [IntKind.u64.wrap o0, c0]) = R := H
          have HG := Aside0.mk H
          clear H
          go_upto_region 7 with (first | ((with_reducible refine gate_dst (N := 5) rfl ?_); (try (refine gate_guard (by rfl) ?_; dsimp only)); refine box_event ?hg (N := 5) ?hd (cs := #[.int .i64 0, .int .u64 0]) (t := 41) ?hr ?_; (case hd => rfl); (case hg => rfl); (case hr => first | (go_simp; done) | (go_simp; rfl)); intro g5 hg w5 hbox hb; have n0_ := Aside0.mk (below_step HB.out hb); have n1_ := Aside0.mk (Kd.R_below (Kd.R_mono (Kd.R_bound HO.out) (fun k hk => (show k < g5 by rw [hg]; exact hk.2.2.1))) hb); have B5 := Aside0.mk hbox; have G5 := Aside0.mk (show w.heap.size ≤ g5 by rw [hg]; exact HB.out.size); clear HB HO; have HB := n0_; have HO := n1_; clear n0_ n1_ hg hbox hb; have tz0 := (blk_cell B5.out 0).trans rfl; have tf0 := blk_frozen B5.out 0; have tz1 := (blk_cell B5.out 1).trans rfl; have tf1 := blk_frozen B5.out 1))
          have B6 := Aside0.mk (show ((w5.setCell ⟨g5, 0, none⟩ (.int .i64 o0)).setCell ⟨g5, 1, none⟩ (.int .u64 c0)).heap[g5]? = some (.cells #[.int .i64 o0, .int .u64 c0] 41 (0, 0)) by refine blk_put (cs := #[.int .i64 o0, .int .u64 0]) ?_ 1 _ rfl; refine blk_put (cs := #[.int .i64 0, .int .u64 0]) ?_ 0 _ rfl; exact B5.out)
          have n0_ := Aside0.mk (show Below w.heap.size w ((w5.setCell ⟨g5, 0, none⟩ (.int .i64 o0)).setCell ⟨g5, 1, none⟩ (.int .u64 c0)) by repeat (with_reducible first | exact HB.out | refine below_set ?_ G5.out))
          have n1_ := Aside0.mk (show Kd.R (Kd.int .u64) 39 ((w5.setCell ⟨g5, 0, none⟩ (.int .i64 o0)).setCell ⟨g5, 1, none⟩ (.int .u64 c0)) w.heap.size (fun k => k < g5) u3 L by repeat (with_reducible first | exact HO.out | refine Kd.R_far (p := ⟨g5, _, none⟩) ?_ (fun k hk => Nat.ne_of_lt hk) _))
          clear HB HO B5 tz0 tf0 tz1 tf1
          have HB := n0_
          have HO := n1_
          clear n0_ n1_
          have sz0 := (blk_cell B6.out 0).trans rfl
          have sf0 := blk_frozen B6.out 0
          have sz1 := (blk_cell B6.out 1).trans rfl
          have sf1 := blk_frozen B6.out 1
          go_upto_region 9 with (fail)
          go_upto_region 10 with (first | ((with_reducible refine gate_dst (N := 40) rfl ?_); refine Kd.R_lit (Kd.int .u64) _ 39 ?hg (N := 40) ?hd (xs := ([IntKind.u64.wrap o0, c0] : List Int)) (inner := [.int .u64 (IntKind.u64.wrap o0), .int .u64 c0]) (ok := fun _ => True) (okp := fun _ => True) ?hr ?hp (fun _ hk => hk) trivial (Below.refl _ _) (Nat.le_refl _) (by simp) ?_; (case hd => rfl); (case hg => rfl); (case hr => first | (go_simp; done) | (go_simp; rfl)); (case hp => exact (Reps.one (show Kd.M (Kd.int .u64) _ _ _ (IntKind.u64.wrap o0) [.int .u64 (IntKind.u64.wrap o0)] from rfl) (Reps.one (show Kd.M (Kd.int .u64) _ _ _ c0 [.int .u64 c0] from rfl) (Reps.none _ _)))); intro v40 w6 ho4 hb_ hg_ hnew_; clear hg_ hnew_; obtain ⟨A6, c6, e6, hc6, hC6⟩ := Kd.R_reads ho4; subst e6; have HC6 := Aside0.mk hC6; have n1_ := Aside0.mk (below_step HB.out hb_); have n0_ := Aside0.mk (Kd.R_mono (Kd.R_below HO.out hb_) (fun _ _ => trivial)); clear HB HO B6; have HB := n1_; have HO := n0_; clear n0_ n1_ ho4 hb_ hc6 hC6) | ((with_reducible refine gate_builtin (b := .append) (xs := #[.tmp 34, .tmp 40]) rfl ?_); at_builtin; refine Kd.R_append_row (Value.int .u64) 0 (h1 := fun _ => rfl) (w0 := w) w.heap.size rfl (.tmp 34) (.tmp 40) 77 39 (.int .u64 0) 8 rfl Try.underlying77 info39 rfl (by decide) u3 L [IntKind.u64.wrap o0, c0] A6 _ c6 (fun _ => True) rfl rfl (fun _ _ => trivial) HO.out HC6.out HB.out (below_size HB.out) (by have := HL.out; simp only [List.length_cons, List.length_nil]; omega) ?_; intro v41 w7 ho hb hg hat; have n0_ := Aside0.mk ho; have n1_ := Aside0.mk hb; clear HB HO HC6 ho hb hg hat; have HB := n1_; have HO := n0_; clear n0_ n1_))
          go_wp2_with (fail)
          go_roundg 4
          case measure => omega
          case rel => exact ⟨L ++ [IntKind.u64.wrap o0, c0], 1, (by first | rfl | kernel_rfl), ⟨by have := HI.out; omega⟩, HG, ⟨by have := HL.out; simp only [List.length_append, List.length_cons, List.length_nil]; omega⟩, HO, HB⟩
    | n + 6 => exact absurd HI.out (by have := HL.out; omega)
end Go.Proofs.Ytffdonpkmnngpaa.PRootAll
