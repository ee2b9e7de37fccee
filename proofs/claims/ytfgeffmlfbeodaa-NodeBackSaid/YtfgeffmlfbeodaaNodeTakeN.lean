/- node.Take at an inner node. Bound to this program. -/
import Derived.Test.YtfgeffmlfbeodaaNodeTake
namespace Go.Proofs.Ytfgeffmlfbeodaa.PNodeBack
open Go Go.RowKit Go.Proofs Go.Proofs.Ytfgeffmlfbeodaa.RG Go.Proofs.Ytfgeffmlfbeodaa.RP Go.Proofs.Ytfgeffmlfbeodaa.Rn Go.Proofs.YtfgeffmlfbeodaaW.PrintWords Go.Proofs.YtfgeffmlfbeodaaW.PrintLast Go.Proofs.YtfgeffmlfbeodaaW.PrintMore
set_option linter.unusedVariables false
set_option linter.unusedSimpArgs false
theorem R_apart {α β : Type} {d : Kd α} {d' : Kd β} {e e' base base' : Nat} {ok' : Nat → Prop} {W : World} {v u : Value} {xs : List α} {ys : List β} (h : Kd.R d e W base (fun _ => True) v xs) (h' : Kd.R d' e' W base' ok' u ys) (ht : ∀ q, q ∈ e :: d.E → q ≠ e') : Kd.R d e W base (fun k => True ∧ some k ≠ u.ownBlock) v xs :=
  Kd.R_mono (Kd.R_bound h) (fun k hk => by obtain ⟨_, _, _, q, hq, cells, hc⟩ := hk; exact ⟨trivial, Kd.R_ne h' hc (Ne.symm (ht q hq))⟩)
theorem goesA_ {P : Program} {ops : Array Oper} {Q : Exit → Act → World → Prop} {oi : Oper} {N : Option Tmp} {a : Act} {w : World} {K : Act → World → Prop} {f : FuncId} {fn : Func} {x : Operand} {as_ : Array Operand} {ts : Array TypeId} {bound : Array Value} (args : Array Value) (hf : P.funcs[f]? = some fn) (hname : (fn.name == "runtime.NumGoroutine") = false) (hb : fn.body.isSome = true)
    (hw : Region.wanted oi (yielded ops a.tmps) = true) (hN : oi.dst = N) (hop : oi.op = .call { callee := .value x, args := as_, argTypes := ts }) (hargs : as_.map a.eval = args) (hx : a.eval x = .func (.func f) bound #[])
    (h : Calls P f (bound ++ args) w fun e w' => ∃ v, e = .returned v ∧ K (a.put N v) w') : if Region.wanted oi (yielded ops a.tmps) = true then Oper.wp P oi a w K Q else K (a.put N undef) w := by
  refine call_ f (bound ++ args) hw hN ?_ h
  have he := enters_ hf hname hb (bound ++ args) w
  unfold execOp
  simp [hop, resolve, Deferred.ofValue, invoke, hx, hargs, he]
set_option maxHeartbeats 4000000 in
set_option maxRecDepth 100000 in
theorem node_Take.inner (k : Nat) (A0 : Option Addr) (c0 : Nat) (l0 : List Int) (w : World) (hr0 : Kd.C (Kd.int .u8) w A0 l0.length l0) (hc0 : l0.length ≤ c0) (kind cnt : Int)
    (x1 : List Int) (s1 : Bool) (x2 : List Int) (s2 : Bool) (hk : numu (txt l0 false 1).1 = kind) (h1 : (txt l0 false 1).2 = (x1, s1)) (hn : wrap64 (numu (txt x1 s1 1).1) = cnt) (h2 : (txt x1 s1 1).2 = (x2, s2)) (hcnt : 0 ≤ cnt ∧ cnt ≤ 255) (hlf : (kind == 76) = false)
    (xs : List Int) (s : Bool) (K : List (List Int)) (T : List S90) (ht : tkN cnt.toNat x2 s2 [] [] = (xs, s, K, T)) (hb0 : ∀ c ∈ l0, 0 ≤ c ∧ c ≤ 255) (ok : Bool) (hres : (s = true ∧ ok = false) ∨ (s = false ∧ ∃ q, node_May.f k false [] K T = some q ∧ ((q = false ∧ ok = false) ∨ (q = true ∧ ∃ b, node_Put.f k false [] K T = some b ∧ bytes_Equal.f b l0 = some ok)))) :
    Calls Try.prog 72 #[.slice A0 l0.length c0] w fun e w' => ∃ v1 v2 v3 : Value, e = .returned (.tuple (if ok = true then #[.agg #[.bool false, v1, v2, v3], .int .i64 0] else #[.agg #[.bool false, .slice none 0 0, .slice none 0 0, .slice none 0 0], .int .i64 2])) ∧ (ok = true → Kd.R k87 87 w' w.heap.size (fun _ => True) v1 [] ∧ Kd.R (Kd.slice 5 (Kd.int .u8)) 22 w' w.heap.size (fun _ => True) v2 K ∧ Kd.R k90 90 w' w.heap.size (fun _ => True) v3 T) ∧ Below w.heap.size w w' := by
  have hu79 := Try.underlying79
  have hu125 := Try.underlying125
  have HB := Aside0.mk (Below.refl w.heap.size w)
  have HR0 := Aside0.mk hr0
  have HC0 := Aside0.mk hc0
  have HK := Aside0.mk hk
  have H1 := Aside0.mk h1
  have HN := Aside0.mk hn
  have H2 := Aside0.mk h2
  have HT := Aside0.mk ht
  have HCN := Aside0.mk hcnt
  have HB0 := Aside0.mk hb0
  have HRES := Aside0.mk hres
  clear hr0 hc0 hk h1 hn h2 ht hcnt hb0 hres
  go_enter Try.func72, Try.ntmps72
  go_upto_region 3 with (first | ((with_reducible refine gate_dst (N := 2) rfl ?_); (try (refine gate_guard (by rfl) ?_; dsimp only)); refine box_event ?hg (N := 2) ?hd (cs := #[.bool false, .slice none 0 0, .slice none 0 0, .slice none 0 0]) (t := 79) ?hr ?_; (case hd => rfl); (case hg => rfl); (case hr => first | (go_simp; done) | (go_simp; rfl)); intro g2 hg w1 hbox hb; have B2 := Aside0.mk hbox; have G2 := Aside0.mk (show w.heap.size ≤ g2 by rw [hg]; exact HB.out.size); have nb_ := Aside0.mk (below_step HB.out hb); clear HB ; have HB := nb_; clear nb_ ; clear hg hbox hb) | ((with_reducible refine gate_dst (N := 12) rfl ?_); (try (refine gate_guard (by rfl) ?_; dsimp only)); refine box_event ?hg (N := 12) ?hd (cs := #[.slice A0 l0.length c0, .bool false]) (t := 125) ?hr ?_; (case hd => rfl); (case hg => rfl); (case hr => first | (go_simp; done) | (go_simp; rfl)); intro gr hg w2 hbox hb; have Br := Aside0.mk hbox; have Gr := Aside0.mk (show w.heap.size ≤ gr by rw [hg]; exact HB.out.size); have N2r := Aside0.mk (show g2 ≠ gr by rw [hg]; exact Nat.ne_of_lt (blk_lt B2.out)); have nb_ := Aside0.mk (below_step HB.out hb); have n0_ := Aside0.mk (blk_below B2.out hb); clear HB B2; have HB := nb_; have B2 := n0_; clear nb_ n0_; clear hg hbox hb))
  have NR2 := Aside0.mk N2r.out.symm
  have HS : Aside0 (St w gr l0 false w2) := ⟨⟨HB.out, Gr.out, A0, c0, Br.out, HC0.out, HR0.out⟩⟩
  clear HB Br
  go_upto_region 5 with (first | (go_at_call 106; (with_reducible refine (Rn.num w _ gr l0 false 1 HS.out (by decide) (by decide)).mono ?_); rintro e w3 ⟨rfl, hk, hs⟩; rw [HK.out]; rw [H1.out] at hs; have n0_ := Aside0.mk (hk.blk B2.out N2r.out (by simp)); have ns_ := Aside0.mk hs; clear HS B2; have HS := ns_; have B2 := n0_; clear ns_ n0_ hk hs) | (go_at_call 106; (with_reducible refine (Rn.num w _ gr x1 s1 1 HS.out (by decide) (by decide)).mono ?_); rintro e w4 ⟨rfl, hk, hs⟩; rw [H2.out] at hs; obtain ⟨nn, hnn⟩ : ∃ n, numu (txt x1 s1 1).1 = n := ⟨_, rfl⟩; have HN2 := Aside0.mk (show wrap64 nn = cnt by rw [← hnn]; exact HN.out); rw [hnn]; have hnv := HN2.out; clear hnn; have n0_ := Aside0.mk (hk.blk B2.out N2r.out (by simp)); have ns_ := Aside0.mk hs; clear HS B2; have HS := ns_; have B2 := n0_; clear ns_ n0_ hk hs; have kz0 := (blk_cell B2.out 0).trans rfl; have kf0 := blk_frozen B2.out 0; have kz1 := (blk_cell B2.out 1).trans rfl; have kf1 := blk_frozen B2.out 1; have kz2 := (blk_cell B2.out 2).trans rfl; have kf2 := blk_frozen B2.out 2; have kz3 := (blk_cell B2.out 3).trans rfl; have kf3 := blk_frozen B2.out 3))
  rw [HN2.out]
  clear kz0 kf0 kz1 kf1 kz2 kf2 kz3 kf3 hnv
  have n0_ := Aside0.mk (show (w4.setCell ⟨g2, 0, none⟩ (.bool false)).heap[g2]? = some (.cells #[.bool false, .slice none 0 0, .slice none 0 0, .slice none 0 0] 79 (0, 0)) from blk_put B2.out 0 _ rfl)
  have n1_ := Aside0.mk (show St w gr x2 s2 (w4.setCell ⟨g2, 0, none⟩ (.bool false)) from St_set HS.out NR2.out G2.out _ _)
  clear HS B2
  have B2 := n0_
  have HS := n1_
  clear n0_ n1_
  have HX2 := Aside0.mk (show ∀ c ∈ x2, 0 ≤ c ∧ c ≤ 255 from by have e1 := H1.out; have e2 := H2.out; intro c hc; rw [show x2 = (txt x1 s1 1).2.1 by rw [e2]] at hc; have h1 := txt_mem' hc; rw [show x1 = (txt l0 false 1).2.1 by rw [e1]] at h1; exact HB0.out _ (txt_mem' h1))
  go_wp2_with (fail)
  go_loopg [9] (cnt.toNat + 1) (fun kq v9 w' => ∃ (i : Int) (v2 v3 : Value) (ys : List Int) (sy : Bool) (J : List (List Int)) (U : List S90), v9 = .int .i64 i ∧ Aside0 (0 ≤ i ∧ i ≤ cnt ∧ i + kq = cnt + 1) ∧ Aside0 (tkN (cnt - i).toNat ys sy J U = (xs, s, K, T)) ∧ Aside0 (St w gr ys sy w') ∧ Aside0 (w'.heap[g2]? = some (.cells #[.bool false, .slice none 0 0, v2, v3] 79 (0, 0))) ∧ Aside0 (Kd.R (Kd.slice 5 (Kd.int .u8)) 22 w' w.heap.size (fun _ => True) v2 J) ∧ Aside0 (Kd.R k90 90 w' w.heap.size (fun _ => True) v3 U) ∧ Aside0 (J.length ≤ i ∧ U.length ≤ i) ∧ Aside0 (∀ c ∈ ys, 0 ≤ c ∧ c ≤ 255))
  case atStart => exact ⟨0, .slice none 0 0, .slice none 0 0, x2, s2, [], [], rfl, ⟨by have := HCN.out; exact ⟨by omega, by omega, by omega⟩⟩, ⟨by rw [Int.sub_zero]; exact HT.out⟩, HS, B2, ⟨Kd.R_nil _ _ _ _ _⟩, ⟨Kd.R_nil _ _ _ _ _⟩, ⟨by simp⟩, HX2⟩
  case round =>
    clear HS B2 HX2
    obtain ⟨i, v2, v3, ys, sy, J, U, rfl, HI, HTK, HS, B2, HO, HU, HJ, HYS⟩ := hrel
    have hI := HI.out
    cases gk with
    | zero => exact absurd hI.2.2 (by omega)
    | succ k1 =>
      obtain ⟨Ay, cy, hbr, hcy, hCy⟩ := HS.out.blk
      have Br := Aside0.mk hbr
      clear hbr hcy hCy
      by_cases c7 : i < cnt
      · have c7b := decide_eq_true c7
        cases sy
        · skip
          have hgr : gr < wr.heap.size := blk_lt Br.out
          have HGR := Aside0.mk hgr
          have hown : ∀ k, some k = v2.ownBlock → k < wr.heap.size := fun k hk => Kd.R_lt HO.out k hk.symm
          have HOW := Aside0.mk hown
          clear hgr hown
          have kz0 := (blk_cell B2.out 0).trans rfl
          have kf0 := blk_frozen B2.out 0
          have kz1 := (blk_cell B2.out 1).trans rfl
          have kf1 := blk_frozen B2.out 1
          have kz2 := (blk_cell B2.out 2).trans rfl
          have kf2 := blk_frozen B2.out 2
          have kz3 := (blk_cell B2.out 3).trans rfl
          have kf3 := blk_frozen B2.out 3
          have kr0 := (blk_cell Br.out 0).trans rfl
          have kr1 := (blk_cell Br.out 1).trans rfl
          go_upto_region 10 with (fail)
          clear kz0 kf0 kz1 kf1 kz2 kf2 kz3 kf3
          clear kr0 kr1
          have u0_ := Aside0.mk (HS.out.next (below_drew (Below.refl _ _)))
          have u1_ := Aside0.mk (blk_drew B2.out)
          have u2_ := Aside0.mk (Kd.R_drew HO.out)
          have u3_ := Aside0.mk (Kd.R_drew HU.out)
          have u4_ := Aside0.mk (show wr.heap.size ≤ wr.drew.heap.size from Nat.le_refl _)
          clear HS B2 HO HU
          have HS := u0_
          have B2 := u1_
          have HO := u2_
          have HU := u3_
          have SZ := u4_
          clear u0_ u1_ u2_ u3_ u4_
          refine start_ (n := 8) (S := fun w' => w'.cell? ⟨g2, 2, none⟩ = some v2) (ds := [7]) #[false, false, false, false, false, false, false, false] (by kernel_rfl) rfl rfl ((blk_cell B2.out 2).trans rfl) (fun hHeld => ?_)
          refine pure_ (i := 0) (N := some 49) (v := ?_) (a' := ?_) #[true, false, false, false, false, false, false, false] rfl rfl (by kernel_rfl) (fun _ _ _ h => h) (Or.inl ⟨by rfl, ?_⟩) ?_ ?_
          rotate_left
          · intro w'
            go_simp
            with_reducible rfl
          rotate_left
          · simp only [Act.put, List.setIfInBounds_toArray, List.set_cons_zero, List.set_cons_succ]
            rfl
          refine take_ (i := 1) (N := some 50) (v := ?_) (a' := ?_) #[true, true, false, false, false, false, false, false] rfl rfl (by kernel_rfl) (fun _ _ _ h => h) (Or.inl ⟨by rfl, ?_⟩) hHeld ?_ ?_
          rotate_left
          · rintro w' s0
            go_simp
            with_reducible rfl
          rotate_left
          · simp only [Act.put, List.setIfInBounds_toArray, List.set_cons_zero, List.set_cons_succ]
            rfl
          refine pure_ (i := 2) (N := some 51) (v := ?_) (a' := ?_) #[true, true, true, false, false, false, false, false] rfl rfl (by kernel_rfl) (fun _ _ _ h => h) (Or.inl ⟨by rfl, ?_⟩) ?_ ?_
          rotate_left
          · intro w'
            go_simp
            with_reducible rfl
          rotate_left
          · simp only [Act.put, List.setIfInBounds_toArray, List.set_cons_zero, List.set_cons_succ]
            rfl
          refine one_ (i := 3) (N := some 52) #[true, true, true, true, false, false, false, false] rfl rfl (by kernel_rfl) (by decide) (fun K hK => ?_)
          refine goesV_ Try.func107 (by kernel_rfl) rfl (by rfl) rfl rfl (by rfl) ?_
          with_reducible refine (Rn.long w _ gr ys false HS.out (num1 HYS.out).1 (num1 HYS.out).2).mono ?_
          rintro e w6 ⟨v42, rfl, hk, hs, hr⟩
          refine ⟨_, rfl, ?_⟩
          have u0_ := Aside0.mk (R_st HO.out HS.out (by decide) hk)
          have u1_ := Aside0.mk (R_st HU.out HS.out (by decide) hk)
          have u2_ := Aside0.mk (hk.blk B2.out N2r.out (by simp))
          have u3_ := Aside0.mk (Kd.R_lower (Kd.R_mono (ok' := fun k => wr.heap.size ≤ k) hr (fun k hk_ => Nat.le_trans SZ.out hk_)) HS.out.below.size)
          have u4_ := Aside0.mk (hs)
          have u5_ := Aside0.mk (Nat.le_trans SZ.out hk.1)
          clear HO HU B2 HS SZ
          have HO := u0_
          have HU := u1_
          have B2 := u2_
          have HV3 := u3_
          have HS := u4_
          have SZ := u5_
          clear u0_ u1_ u2_ u3_ u4_ u5_
          obtain ⟨A42, c42, e_, hc_, hC_⟩ := Kd.R_reads HV3.out
          subst e_
          clear hk hs hr hc_ hC_
          refine hK.out _ _ ((blk_cell B2.out 2).trans rfl) (fun hHeld => ?_)
          clear hK K
          refine norm_ (a' := ?_) ?_ ?_
          rotate_left
          · show Act.put _ (some 52) _ = _
            simp only [Act.put, List.setIfInBounds_toArray, List.set_cons_zero, List.set_cons_succ]
            rfl
          refine one_ (i := 4) (N := some 53) #[true, true, true, true, true, false, false, false] rfl rfl (by kernel_rfl) (by decide) (fun K hK => ?_)
          refine Kd.R_lit_step (Kd.slice 5 (Kd.int .u8)) (w0 := w) w.heap.size 22 ?hg (N := 53) ?hd (xs := [(lng ys false).1]) (inner := [.slice A42 (lng ys false).1.length c42]) (ok := fun k => wr.heap.size ≤ k) (okp := fun k => wr.heap.size ≤ k) ?hr ?hp (fun _ hk => hk) SZ.out HS.out.below HS.out.below.size (by simp) ?_; (case hd => rfl); (case hg => rfl); (case hr => first | (go_simp; done) | (go_simp; rfl)); (case hp => exact (Reps.none _ _).snoc ⟨_, rfl, HV3.out⟩ rfl)
          intro v53 w8 ho hb_ hg_ hnew_
          have hbw := pw_below_grown (Below.refl _ _) none (Nat.le_refl _) hg_ (by simp)
          have u0_ := Aside0.mk (Kd.R_below HO.out hbw)
          have u1_ := Aside0.mk (Kd.R_below HU.out hbw)
          have u2_ := Aside0.mk (blk_below B2.out hbw)
          have u3_ := Aside0.mk (ho)
          have u4_ := Aside0.mk (HS.out.next hbw)
          have u5_ := Aside0.mk (Nat.le_trans SZ.out hbw.size)
          clear HO HU B2 HS SZ
          have HO := u0_
          have HU := u1_
          have B2 := u2_
          have HV7 := u3_
          have HS := u4_
          have SZ := u5_
          clear u0_ u1_ u2_ u3_ u4_ u5_
          obtain ⟨A53, c53, e_, hc_, hR7⟩ := Kd.OwnRow_of HV7.out
          subst e_
          have HR7 := Aside0.mk hR7
          clear ho hb_ hg_ hnew_ hbw hc_ hR7 HV3
          refine hK.out _ _ ((blk_cell B2.out 2).trans rfl) (fun hHeld => ?_)
          clear hK K
          refine norm_ (a' := ?_) ?_ ?_
          rotate_left
          · show Act.put _ (some 53) _ = _
            simp only [Act.put, List.setIfInBounds_toArray, List.set_cons_zero, List.set_cons_succ]
            rfl
          refine one_ (i := 5) (N := some 54) #[true, true, true, true, true, true, false, false] rfl rfl (by kernel_rfl) (by decide) (fun K hK => ?_)
          refine Kd.R_append_rows_step (Kd.slice 5 (Kd.int .u8)) (w0 := w) w.heap.size (by rfl) (.tmp 50) (.tmp 53) 76 22 (.slice none 0 0) 24 rfl Try.underlying76 info22 rfl (by decide) (by omega) v2 J [(lng ys false).1] A53 _ c53 (fun _ => True) (fun k => wr.heap.size ≤ k) rfl rfl HO.out HR7.out (fun _ _ h => (Kd.slice 5 (Kd.int .u8)).M_mono (fun k hk => hk.1) h) (fun k hk => ⟨trivial, fun e => by have := HOW.out k e; omega⟩) (fun _ _ => trivial) HS.out.below HS.out.below.size (by have := HJ.out; have := HI.out; have := HCN.out; simp only [List.length_cons, List.length_nil]; omega) ?_
          intro v54 w9 ho hb_ hg_ hat_
          have u0_ := Aside0.mk (blk_grown B2.out hg_ (Kd.R_ne HO.out B2.out (by decide)))
          have u1_ := Aside0.mk (St_grown HS.out hb_ hg_ (fun {cells} hb' => Kd.R_ne HO.out hb' (by decide)))
          have u2_ := Aside0.mk (Kd.R_mono (Kd.R_grown (R_apart HU.out HO.out (by decide)) hg_ (fun k hk => hk.2)) (fun _ _ => trivial))
          have u3_ := Aside0.mk (ho)
          have u4_ := Aside0.mk (Nat.le_trans SZ.out hg_.size)
          clear B2 HS HU HO SZ
          have B2 := u0_
          have HS := u1_
          have HU := u2_
          have HO := u3_
          have SZ := u4_
          clear u0_ u1_ u2_ u3_ u4_
          obtain ⟨A54, c54, e_, hc_, hC_⟩ := Kd.R_reads HO.out
          obtain ⟨n54, hn54⟩ : ∃ n, n = (J ++ [(lng ys false).1]).length := ⟨_, rfl⟩
          rw [← hn54] at e_
          subst e_
          clear hn54
          clear ho hb_ hg_ hat_ HR7 HV7 hc_ hC_
          refine hK.out _ _ ((blk_cell B2.out 2).trans rfl) (fun hHeld => ?_)
          clear hK K
          refine norm_ (a' := ?_) ?_ ?_
          rotate_left
          · show Act.put _ (some 54) _ = _
            simp only [Act.put, List.setIfInBounds_toArray, List.set_cons_zero, List.set_cons_succ]
            rfl
          refine pure_ (i := 6) (N := some 55) (v := ?_) (a' := ?_) #[true, true, true, true, true, true, true, false] rfl rfl (by kernel_rfl) (fun _ _ _ h => h) (Or.inl ⟨by rfl, ?_⟩) ?_ ?_
          rotate_left
          · intro w'
            go_simp
            with_reducible rfl
          rotate_left
          · simp only [Act.put, List.setIfInBounds_toArray, List.set_cons_zero, List.set_cons_succ]
            rfl
          refine last_ (i := 7) (N := none) #[true, true, true, true, true, true, true, true] rfl rfl (by kernel_rfl) (by decide) (fun K hK => ?_)
          have kz0 := (blk_cell B2.out 0).trans rfl
          have kf0 := blk_frozen B2.out 0
          have kz1 := (blk_cell B2.out 1).trans rfl
          have kf1 := blk_frozen B2.out 1
          have kz2 := (blk_cell B2.out 2).trans rfl
          have kf2 := blk_frozen B2.out 2
          have kz3 := (blk_cell B2.out 3).trans rfl
          have kf3 := blk_frozen B2.out 3
          refine skip_ (w1 := ?_) (by rfl) rfl ?_ ?_
          rotate_left
          · go_simp
            rfl
          refine hK.out _ _ ?_
          clear hK K
          refine done_ (by kernel_rfl) ?_
          clear kz0 kf0 kz1 kf1 kz2 kf2 kz3 kf3
          have B2o := B2
          have u0_ := Aside0.mk (show (w9.setCell ⟨g2, 2, none⟩ (.slice A54 n54 c54)).heap[g2]? = some (.cells #[.bool false, .slice none 0 0, (.slice A54 n54 c54), v3] 79 (0, 0)) from blk_put B2.out 2 _ rfl)
          have u1_ := Aside0.mk (show St w gr _ _ (w9.setCell ⟨g2, 2, none⟩ (.slice A54 n54 c54)) from St_set HS.out NR2.out G2.out _ _)
          have u2_ := Aside0.mk (show Kd.R (Kd.slice 5 (Kd.int .u8)) 22 (w9.setCell ⟨g2, 2, none⟩ (.slice A54 n54 c54)) w.heap.size (fun _ => True) (.slice A54 n54 c54) _ from Kd.R_mono (Kd.R_far (p := ⟨g2, 2, none⟩) (Kd.R_types HO.out B2o.out (by decide)) (fun k hk => hk.2) _) (fun _ _ => trivial))
          have u3_ := Aside0.mk (show Kd.R k90 90 (w9.setCell ⟨g2, 2, none⟩ (.slice A54 n54 c54)) w.heap.size (fun _ => True) v3 _ from Kd.R_mono (Kd.R_far (p := ⟨g2, 2, none⟩) (Kd.R_types HU.out B2o.out (by decide)) (fun k hk => hk.2) _) (fun _ _ => trivial))
          clear B2 HS HO HU
          have B2 := u0_
          have HS := u1_
          have HO := u2_
          have HU := u3_
          clear u0_ u1_ u2_ u3_
          clear B2o
          obtain ⟨W6, hW6⟩ : ∃ W, W = (w9.setCell ⟨g2, 2, none⟩ (.slice A54 n54 c54)) := ⟨_, rfl⟩
          rw [← hW6] at B2 HS HO HU ⊢
          clear hW6
          go_upto_region 11 with (fail)
          have u0_ := Aside0.mk (HS.out.next (below_drew (Below.refl _ _)))
          have u1_ := Aside0.mk (blk_drew B2.out)
          have u2_ := Aside0.mk (Kd.R_drew HO.out)
          have u3_ := Aside0.mk (Kd.R_drew HU.out)
          clear HS B2 HO HU
          have HS := u0_
          have B2 := u1_
          have HO := u2_
          have HU := u3_
          clear u0_ u1_ u2_ u3_
          refine start_ (n := 12) (S := fun w' => w'.cell? ⟨g2, 3, none⟩ = some v3) (ds := [11]) #[false, false, false, false, false, false, false, false, false, false, false, false] (by kernel_rfl) rfl rfl ((blk_cell B2.out 3).trans rfl) (fun hHeld => ?_)
          refine pure_ (i := 0) (N := some 56) (v := ?_) (a' := ?_) #[true, false, false, false, false, false, false, false, false, false, false, false] rfl rfl (by kernel_rfl) (fun _ _ _ h => h) (Or.inl ⟨by rfl, ?_⟩) ?_ ?_
          rotate_left
          · intro w'
            go_simp
            with_reducible rfl
          rotate_left
          · simp only [Act.put, List.setIfInBounds_toArray, List.set_cons_zero, List.set_cons_succ, i64_w]
            rfl
          refine take_ (i := 1) (N := some 57) (v := ?_) (a' := ?_) #[true, true, false, false, false, false, false, false, false, false, false, false] rfl rfl (by kernel_rfl) (fun _ _ _ h => h) (Or.inl ⟨by rfl, ?_⟩) hHeld ?_ ?_
          rotate_left
          · rintro w' s0
            go_simp
            with_reducible rfl
          rotate_left
          · simp only [Act.put, List.setIfInBounds_toArray, List.set_cons_zero, List.set_cons_succ, i64_w]
            rfl
          refine pure_ (i := 2) (N := some 58) (v := ?_) (a' := ?_) #[true, true, true, false, false, false, false, false, false, false, false, false] rfl rfl (by kernel_rfl) (fun _ _ _ h => h) (Or.inl ⟨by rfl, ?_⟩) ?_ ?_
          rotate_left
          · intro w'
            go_simp
            with_reducible rfl
          rotate_left
          · simp only [Act.put, List.setIfInBounds_toArray, List.set_cons_zero, List.set_cons_succ, i64_w]
            rfl
          refine pure_ (i := 5) (N := some 61) (v := ?_) (a' := ?_) #[true, true, true, false, false, true, false, false, false, false, false, false] rfl rfl (by kernel_rfl) (fun _ _ _ h => h) (Or.inl ⟨by rfl, ?_⟩) ?_ ?_
          rotate_left
          · intro w'
            go_simp
            with_reducible rfl
          rotate_left
          · simp only [Act.put, List.setIfInBounds_toArray, List.set_cons_zero, List.set_cons_succ, i64_w]
            rfl
          refine one_ (i := 3) (N := some 59) #[true, true, true, true, false, true, false, false, false, false, false, false] rfl rfl (by kernel_rfl) (by decide) (fun K hK => ?_)
          refine goesA_ #[.int .i64 8] Try.func106 (by kernel_rfl) rfl (by rfl) rfl rfl (by (try simp only [List.map_toArray, List.map_cons, List.map_nil]); first | done | rfl) (by rfl) ?_
          refine (Rn.num w _ gr (lng ys false).2.1 (lng ys false).2.2 8 HS.out (by decide) (by decide)).mono ?_
          rintro e w11 ⟨rfl, hk, hs⟩
          refine ⟨_, rfl, ?_⟩
          have u0_ := Aside0.mk (R_st HO.out HS.out (by decide) hk)
          have u1_ := Aside0.mk (R_st HU.out HS.out (by decide) hk)
          have u2_ := Aside0.mk (hk.blk B2.out N2r.out (by simp))
          have u3_ := Aside0.mk (hs)
          clear HO HU B2 HS
          have HO := u0_
          have HU := u1_
          have B2 := u2_
          have HS := u3_
          clear u0_ u1_ u2_ u3_
          clear hk hs
          refine hK.out _ _ ((blk_cell B2.out 3).trans rfl) (fun hHeld => ?_)
          clear hK K
          refine norm_ (a' := ?_) ?_ ?_
          rotate_left
          · show Act.put _ (some 59) _ = _
            simp only [Act.put, List.setIfInBounds_toArray, List.set_cons_zero, List.set_cons_succ, i64_w]
            rfl
          refine pure_ (i := 4) (N := some 60) (v := ?_) (a' := ?_) #[true, true, true, true, true, true, false, false, false, false, false, false] rfl rfl (by kernel_rfl) (fun _ _ _ h => h) (Or.inl ⟨by rfl, ?_⟩) ?_ ?_
          rotate_left
          · intro w'
            go_simp
            with_reducible rfl
          rotate_left
          · simp only [Act.put, List.setIfInBounds_toArray, List.set_cons_zero, List.set_cons_succ, i64_w]
            rfl
          refine one_ (i := 6) (N := some 62) #[true, true, true, true, true, true, true, false, false, false, false, false] rfl rfl (by kernel_rfl) (by decide) (fun K hK => ?_)
          refine goesA_ #[.int .i64 8] Try.func106 (by kernel_rfl) rfl (by rfl) rfl rfl (by (try simp only [List.map_toArray, List.map_cons, List.map_nil]); first | done | rfl) (by rfl) ?_
          refine (Rn.num w _ gr (txt (lng ys false).2.1 (lng ys false).2.2 8).2.1 (txt (lng ys false).2.1 (lng ys false).2.2 8).2.2 8 HS.out (by decide) (by decide)).mono ?_
          rintro e w12 ⟨rfl, hk, hs⟩
          refine ⟨_, rfl, ?_⟩
          have u0_ := Aside0.mk (R_st HO.out HS.out (by decide) hk)
          have u1_ := Aside0.mk (R_st HU.out HS.out (by decide) hk)
          have u2_ := Aside0.mk (hk.blk B2.out N2r.out (by simp))
          have u3_ := Aside0.mk (hs)
          clear HO HU B2 HS
          have HO := u0_
          have HU := u1_
          have B2 := u2_
          have HS := u3_
          clear u0_ u1_ u2_ u3_
          clear hk hs
          refine hK.out _ _ ((blk_cell B2.out 3).trans rfl) (fun hHeld => ?_)
          clear hK K
          refine norm_ (a' := ?_) ?_ ?_
          rotate_left
          · show Act.put _ (some 62) _ = _
            simp only [Act.put, List.setIfInBounds_toArray, List.set_cons_zero, List.set_cons_succ, i64_w]
            rfl
          refine pure_ (i := 7) (N := some 63) (v := ?_) (a' := ?_) #[true, true, true, true, true, true, true, true, false, false, false, false] rfl rfl (by kernel_rfl) (fun _ _ _ h => h) (Or.inl ⟨by rfl, ?_⟩) ?_ ?_
          rotate_left
          · intro w'
            go_simp
            with_reducible rfl
          rotate_left
          · simp only [Act.put, List.setIfInBounds_toArray, List.set_cons_zero, List.set_cons_succ, i64_w]
            rfl
          refine one_ (i := 8) (N := some 64) #[true, true, true, true, true, true, true, true, true, false, false, false] rfl rfl (by kernel_rfl) (by decide) (fun K hK => ?_)
          refine Kd.R_lit_step k90 (w0 := w) w.heap.size 90 ?hg (N := 64) ?hd (xs := [(⟨wrap64 (numu (txt (lng ys false).2.1 (lng ys false).2.2 8).1), numu (txt (txt (lng ys false).2.1 (lng ys false).2.2 8).2.1 (txt (lng ys false).2.1 (lng ys false).2.2 8).2.2 8).1⟩ : S90)]) (inner := [.int .i64 (wrap64 (numu (txt (lng ys false).2.1 (lng ys false).2.2 8).1)), .int .u64 (numu (txt (txt (lng ys false).2.1 (lng ys false).2.2 8).2.1 (txt (lng ys false).2.1 (lng ys false).2.2 8).2.2 8).1)]) (ok := fun _ => True) (okp := fun _ => False) ?hr ?hp (fun _ hk => hk.elim) trivial HS.out.below HS.out.below.size (by simp) ?_; (case hd => rfl); (case hg => rfl); (case hr => first | (go_simp; done) | (go_simp; rfl)); (case hp => exact (Reps.none _ _).snoc (k90_mkM _ _ _ _) rfl)
          intro v64 w13 ho hb_ hg_ hnew_
          have hbw := pw_below_grown (Below.refl _ _) none (Nat.le_refl _) hg_ (by simp)
          have u0_ := Aside0.mk (Kd.R_below HO.out hbw)
          have u1_ := Aside0.mk (Kd.R_below HU.out hbw)
          have u2_ := Aside0.mk (blk_below B2.out hbw)
          have u3_ := Aside0.mk (ho)
          have u4_ := Aside0.mk (HS.out.next hbw)
          clear HO HU B2 HS
          have HO := u0_
          have HU := u1_
          have B2 := u2_
          have HV7 := u3_
          have HS := u4_
          clear u0_ u1_ u2_ u3_ u4_
          obtain ⟨A64, c64, e_, hc_, hC_⟩ := Kd.R_reads HV7.out
          subst e_
          have HR7 := Aside0.mk hC_
          clear ho hb_ hg_ hnew_ hbw hc_ hC_
          refine hK.out _ _ ((blk_cell B2.out 3).trans rfl) (fun hHeld => ?_)
          clear hK K
          refine norm_ (a' := ?_) ?_ ?_
          rotate_left
          · show Act.put _ (some 64) _ = _
            simp only [Act.put, List.setIfInBounds_toArray, List.set_cons_zero, List.set_cons_succ, i64_w]
            rfl
          refine one_ (i := 9) (N := some 65) #[true, true, true, true, true, true, true, true, true, true, false, false] rfl rfl (by kernel_rfl) (by decide) (fun K hK => ?_)
          refine Kd.R_append_rows_step k90 (w0 := w) w.heap.size (by rfl) (.tmp 57) (.tmp 64) 77 90 (.agg #[.int .i64 0, .int .u64 0]) 16 rfl Try.underlying77 info90 rfl (by decide) (by omega) v3 U [(⟨wrap64 (numu (txt (lng ys false).2.1 (lng ys false).2.2 8).1), numu (txt (txt (lng ys false).2.1 (lng ys false).2.2 8).2.1 (txt (lng ys false).2.1 (lng ys false).2.2 8).2.2 8).1⟩ : S90)] A64 _ c64 (fun _ => True) (fun _ => False) rfl rfl HU.out HR7.out (fun x cs h => by rw [k90_open h]; exact k90_mkM _ _ _ _) (fun k hk => hk.elim) (fun _ _ => trivial) HS.out.below HS.out.below.size (by have := HJ.out; have := HI.out; have := HCN.out; simp only [List.length_cons, List.length_nil]; omega) ?_
          intro v65 w14 ho hb_ hg_ hat_
          have u0_ := Aside0.mk (blk_grown B2.out hg_ (Kd.R_ne HU.out B2.out (by decide)))
          have u1_ := Aside0.mk (St_grown HS.out hb_ hg_ (fun {cells} hb' => Kd.R_ne HU.out hb' (by decide)))
          have u2_ := Aside0.mk (Kd.R_mono (Kd.R_grown (R_apart HO.out HU.out (by decide)) hg_ (fun k hk => hk.2)) (fun _ _ => trivial))
          have u3_ := Aside0.mk (ho)
          clear B2 HS HO HU
          have B2 := u0_
          have HS := u1_
          have HO := u2_
          have HU := u3_
          clear u0_ u1_ u2_ u3_
          obtain ⟨A65, c65, e_, hc_, hC_⟩ := Kd.R_reads HU.out
          obtain ⟨n65, hn65⟩ : ∃ n, n = (U ++ [(⟨wrap64 (numu (txt (lng ys false).2.1 (lng ys false).2.2 8).1), numu (txt (txt (lng ys false).2.1 (lng ys false).2.2 8).2.1 (txt (lng ys false).2.1 (lng ys false).2.2 8).2.2 8).1⟩ : S90)]).length := ⟨_, rfl⟩
          rw [← hn65] at e_
          subst e_
          clear hn65
          clear ho hb_ hg_ hat_ HR7 HV7 hc_ hC_
          refine hK.out _ _ ((blk_cell B2.out 3).trans rfl) (fun hHeld => ?_)
          clear hK K
          refine norm_ (a' := ?_) ?_ ?_
          rotate_left
          · show Act.put _ (some 65) _ = _
            simp only [Act.put, List.setIfInBounds_toArray, List.set_cons_zero, List.set_cons_succ, i64_w]
            rfl
          refine pure_ (i := 10) (N := some 66) (v := ?_) (a' := ?_) #[true, true, true, true, true, true, true, true, true, true, true, false] rfl rfl (by kernel_rfl) (fun _ _ _ h => h) (Or.inl ⟨by rfl, ?_⟩) ?_ ?_
          rotate_left
          · intro w'
            go_simp
            with_reducible rfl
          rotate_left
          · simp only [Act.put, List.setIfInBounds_toArray, List.set_cons_zero, List.set_cons_succ, i64_w]
            rfl
          refine last_ (i := 11) (N := none) #[true, true, true, true, true, true, true, true, true, true, true, true] rfl rfl (by kernel_rfl) (by decide) (fun K hK => ?_)
          have kz0 := (blk_cell B2.out 0).trans rfl
          have kf0 := blk_frozen B2.out 0
          have kz1 := (blk_cell B2.out 1).trans rfl
          have kf1 := blk_frozen B2.out 1
          have kz2 := (blk_cell B2.out 2).trans rfl
          have kf2 := blk_frozen B2.out 2
          have kz3 := (blk_cell B2.out 3).trans rfl
          have kf3 := blk_frozen B2.out 3
          refine skip_ (w1 := ?_) (by rfl) rfl ?_ ?_
          rotate_left
          · go_simp
            rfl
          refine hK.out _ _ ?_
          clear hK K
          refine done_ (by kernel_rfl) ?_
          clear kz0 kf0 kz1 kf1 kz2 kf2 kz3 kf3
          have B2o := B2
          have u0_ := Aside0.mk (show (w14.setCell ⟨g2, 3, none⟩ (.slice A65 n65 c65)).heap[g2]? = some (.cells #[.bool false, .slice none 0 0, (.slice A54 n54 c54), (.slice A65 n65 c65)] 79 (0, 0)) from blk_put B2.out 3 _ rfl)
          have u1_ := Aside0.mk (show St w gr _ _ (w14.setCell ⟨g2, 3, none⟩ (.slice A65 n65 c65)) from St_set HS.out NR2.out G2.out _ _)
          have u2_ := Aside0.mk (show Kd.R (Kd.slice 5 (Kd.int .u8)) 22 (w14.setCell ⟨g2, 3, none⟩ (.slice A65 n65 c65)) w.heap.size (fun _ => True) (.slice A54 n54 c54) _ from Kd.R_mono (Kd.R_far (p := ⟨g2, 3, none⟩) (Kd.R_types HO.out B2o.out (by decide)) (fun k hk => hk.2) _) (fun _ _ => trivial))
          have u3_ := Aside0.mk (show Kd.R k90 90 (w14.setCell ⟨g2, 3, none⟩ (.slice A65 n65 c65)) w.heap.size (fun _ => True) (.slice A65 n65 c65) _ from Kd.R_mono (Kd.R_far (p := ⟨g2, 3, none⟩) (Kd.R_types HU.out B2o.out (by decide)) (fun k hk => hk.2) _) (fun _ _ => trivial))
          clear B2 HS HO HU
          have B2 := u0_
          have HS := u1_
          have HO := u2_
          have HU := u3_
          clear u0_ u1_ u2_ u3_
          clear B2o
          have HWI := Aside0.mk (show wrap64 (i + 1) = i + 1 by have := HI.out; have := HCN.out; unfold wrap64; omega)
          go_wp2_with (fail)
          go_roundg k1
          case measure => omega
          case rel => exact ⟨i + 1, _, _, _, _, J ++ [(lng ys false).1], U ++ [(⟨wrap64 (numu (txt (lng ys false).2.1 (lng ys false).2.2 8).1), numu (txt (txt (lng ys false).2.1 (lng ys false).2.2 8).2.1 (txt (lng ys false).2.1 (lng ys false).2.2 8).2.2 8).1⟩ : S90)], (by rw [HWI.out]), ⟨by have := HI.out; have := of_decide_eq_true c7b; exact ⟨by omega, by omega, by omega⟩⟩, ⟨by have h1 := HTK.out; rw [show (cnt - i).toNat = (cnt - (i + 1)).toNat + 1 by have := of_decide_eq_true c7b; omega, tkN, if_neg (by decide)] at h1; exact h1⟩, HS, B2, HO, HU, ⟨by have := HJ.out; simp only [List.length_append, List.length_cons, List.length_nil]; omega⟩, ⟨txt_mem2 (txt_mem2 (lng_mem HYS.out))⟩⟩
        · skip
          have e1 : (ys, true, J, U) = (xs, s, K, T) := by have h1 := HTK.out; rw [show (cnt - i).toNat = (cnt - i - 1).toNat + 1 by have := of_decide_eq_true c7b; omega, tkN, if_pos rfl] at h1; exact h1
          simp only [Prod.mk.injEq] at e1
          obtain ⟨ea_, eb_, ec_, ed_⟩ := e1
          replace ea_ := ea_.symm
          replace eb_ := eb_.symm
          replace ec_ := ec_.symm
          replace ed_ := ed_.symm
          subst ea_ eb_ ec_ ed_
          clear hI HI HTK HJ HYS HCN HT
          obtain ⟨A1, c1, e_, hc_, hC_⟩ := Kd.R_reads HO.out
          subst e_
          clear hc_ hC_
          obtain ⟨A3, c3, e_, hc_, hC_⟩ := Kd.R_reads HU.out
          subst e_
          clear hc_ hC_
          have kz0 := (blk_cell B2.out 0).trans rfl
          have kf0 := blk_frozen B2.out 0
          have kz1 := (blk_cell B2.out 1).trans rfl
          have kf1 := blk_frozen B2.out 1
          have kz2 := (blk_cell B2.out 2).trans rfl
          have kf2 := blk_frozen B2.out 2
          have kz3 := (blk_cell B2.out 3).trans rfl
          have kf3 := blk_frozen B2.out 3
          have kr1 := (blk_cell Br.out 1).trans rfl
          have HB := Aside0.mk HS.out.below
          clear HS
          rcases HRES.out with ⟨hs_, rfl⟩ | ⟨hs_, q, hmay, hq⟩
          · skip
            clear HRES
            go_wp2_with (fail)
            refine bodyPost_ret (results_ct rfl _ _ g2 79 #[.bool false, .slice none 0 0, .slice none 0 0, .slice none 0 0] (0, 0) _ rfl (by refine blk_put (cs := #[.bool false, .slice none 0 0, .slice none 0 0, .slice A3 T.length c3]) ?_ 3 _ rfl; refine blk_put (cs := #[.bool false, .slice none 0 0, .slice A1 K.length c1, .slice A3 T.length c3]) ?_ 2 _ rfl; refine blk_put (cs := #[.bool false, .slice none 0 0, .slice A1 K.length c1, .slice A3 T.length c3]) ?_ 1 _ rfl; refine blk_put (cs := #[.bool false, .slice none 0 0, .slice A1 K.length c1, .slice A3 T.length c3]) ?_ 0 _ rfl; exact B2.out) Try.underlying79 rfl (by kernel_rfl)) rfl ?_
            first | exact ⟨rfl, (by repeat (with_reducible first | exact HB.out | refine below_set ?_ G2.out))⟩ | exact ⟨.slice none 0 0, .slice none 0 0, .slice none 0 0, rfl, fun h_ => by cases h_, (by repeat (with_reducible first | exact HB.out | refine below_set ?_ G2.out))⟩
          · cases hs_
      · have c7b := decide_eq_false c7
        have e1 : (ys, sy, J, U) = (xs, s, K, T) := by have h1 := HTK.out; rw [show (cnt - i).toNat = 0 by omega, tkN] at h1; exact h1
        simp only [Prod.mk.injEq] at e1
        obtain ⟨ea_, eb_, ec_, ed_⟩ := e1
        replace ea_ := ea_.symm
        replace eb_ := eb_.symm
        replace ec_ := ec_.symm
        replace ed_ := ed_.symm
        subst ea_ eb_ ec_ ed_
        clear hI HI HTK HJ HYS HCN HT
        obtain ⟨A1, c1, e_, hc_, hC_⟩ := Kd.R_reads HO.out
        subst e_
        clear hc_ hC_
        obtain ⟨A3, c3, e_, hc_, hC_⟩ := Kd.R_reads HU.out
        subst e_
        clear hc_ hC_
        have kz0 := (blk_cell B2.out 0).trans rfl
        have kf0 := blk_frozen B2.out 0
        have kz1 := (blk_cell B2.out 1).trans rfl
        have kf1 := blk_frozen B2.out 1
        have kz2 := (blk_cell B2.out 2).trans rfl
        have kf2 := blk_frozen B2.out 2
        have kz3 := (blk_cell B2.out 3).trans rfl
        have kf3 := blk_frozen B2.out 3
        have kr1 := (blk_cell Br.out 1).trans rfl
        have HB := Aside0.mk HS.out.below
        clear HS
        rcases HRES.out with ⟨hs_, rfl⟩ | ⟨hs_, q, hmay, hq⟩
        · subst hs_
          clear HRES
          go_wp2_with (fail)
          refine bodyPost_ret (results_ct rfl _ _ g2 79 #[.bool false, .slice none 0 0, .slice none 0 0, .slice none 0 0] (0, 0) _ rfl (by refine blk_put (cs := #[.bool false, .slice none 0 0, .slice none 0 0, .slice A3 T.length c3]) ?_ 3 _ rfl; refine blk_put (cs := #[.bool false, .slice none 0 0, .slice A1 K.length c1, .slice A3 T.length c3]) ?_ 2 _ rfl; refine blk_put (cs := #[.bool false, .slice none 0 0, .slice A1 K.length c1, .slice A3 T.length c3]) ?_ 1 _ rfl; refine blk_put (cs := #[.bool false, .slice none 0 0, .slice A1 K.length c1, .slice A3 T.length c3]) ?_ 0 _ rfl; exact B2.out) Try.underlying79 rfl (by kernel_rfl)) rfl ?_
          first | exact ⟨rfl, (by repeat (with_reducible first | exact HB.out | refine below_set ?_ G2.out))⟩ | exact ⟨.slice none 0 0, .slice none 0 0, .slice none 0 0, rfl, fun h_ => by cases h_, (by repeat (with_reducible first | exact HB.out | refine below_set ?_ G2.out))⟩
        · subst hs_
          rcases hq with ⟨rfl, rfl⟩ | ⟨rfl, b, hput, heq⟩
          · have HMAY := Aside0.mk hmay
            clear hmay
            go_wp2_with (first | (go_at_call 71; (refine (node_May.calls k false none 0 ([] : List S87) A1 c1 K A3 c3 T _ _ ?s1 ?s2 ?s3 ?s4 ?s5 ?s6 HMAY.out).mono ?_); (case s1 => exact Kd.C_nil _ _); (case s2 => exact Nat.le_refl _); (case s3 => exact (Kd.R_reads' HO.out).2.2); (case s4 => exact (Kd.R_reads' HO.out).2.1); (case s5 => exact (Kd.R_reads' HU.out).2.2); (case s6 => exact (Kd.R_reads' HU.out).2.1); rintro e w20 ⟨rfl, hb⟩; have u0_ := Aside0.mk (blk_below B2.out hb); have u1_ := Aside0.mk (below_step HB.out hb); have u2_ := Aside0.mk (Kd.R_below HO.out hb); have u3_ := Aside0.mk (Kd.R_below HU.out hb); clear B2 HB HO HU; have B2 := u0_; have HB := u1_; have HO := u2_; have HU := u3_; clear u0_ u1_ u2_ u3_; clear kz0 kf0 kz1 kf1 kz2 kf2 kz3 kf3; have kz0 := (blk_cell B2.out 0).trans rfl; have kf0 := blk_frozen B2.out 0; have kz1 := (blk_cell B2.out 1).trans rfl; have kf1 := blk_frozen B2.out 1; have kz2 := (blk_cell B2.out 2).trans rfl; have kf2 := blk_frozen B2.out 2; have kz3 := (blk_cell B2.out 3).trans rfl; have kf3 := blk_frozen B2.out 3; clear hb))
            refine bodyPost_ret (results_ct rfl _ _ g2 79 #[.bool false, .slice none 0 0, .slice none 0 0, .slice none 0 0] (0, 0) _ rfl (by refine blk_put (cs := #[.bool false, .slice none 0 0, .slice none 0 0, .slice A3 T.length c3]) ?_ 3 _ rfl; refine blk_put (cs := #[.bool false, .slice none 0 0, .slice A1 K.length c1, .slice A3 T.length c3]) ?_ 2 _ rfl; refine blk_put (cs := #[.bool false, .slice none 0 0, .slice A1 K.length c1, .slice A3 T.length c3]) ?_ 1 _ rfl; refine blk_put (cs := #[.bool false, .slice none 0 0, .slice A1 K.length c1, .slice A3 T.length c3]) ?_ 0 _ rfl; exact B2.out) Try.underlying79 rfl (by kernel_rfl)) rfl ?_
            first | exact ⟨rfl, (by repeat (with_reducible first | exact HB.out | refine below_set ?_ G2.out))⟩ | exact ⟨.slice none 0 0, .slice none 0 0, .slice none 0 0, rfl, fun h_ => by cases h_, (by repeat (with_reducible first | exact HB.out | refine below_set ?_ G2.out))⟩
          · have HMAY := Aside0.mk hmay
            have HPUT := Aside0.mk hput
            have HEQ := Aside0.mk heq
            clear hmay hput heq
            cases ok
            · skip
              go_wp2_with (first | (go_at_call 71; (refine (node_May.calls k false none 0 ([] : List S87) A1 c1 K A3 c3 T _ _ ?s1 ?s2 ?s3 ?s4 ?s5 ?s6 HMAY.out).mono ?_); (case s1 => exact Kd.C_nil _ _); (case s2 => exact Nat.le_refl _); (case s3 => exact (Kd.R_reads' HO.out).2.2); (case s4 => exact (Kd.R_reads' HO.out).2.1); (case s5 => exact (Kd.R_reads' HU.out).2.2); (case s6 => exact (Kd.R_reads' HU.out).2.1); rintro e w20 ⟨rfl, hb⟩; have u0_ := Aside0.mk (blk_below B2.out hb); have u1_ := Aside0.mk (below_step HB.out hb); have u2_ := Aside0.mk (Kd.R_below HO.out hb); have u3_ := Aside0.mk (Kd.R_below HU.out hb); clear B2 HB HO HU; have B2 := u0_; have HB := u1_; have HO := u2_; have HU := u3_; clear u0_ u1_ u2_ u3_; clear kz0 kf0 kz1 kf1 kz2 kf2 kz3 kf3; have kz0 := (blk_cell B2.out 0).trans rfl; have kf0 := blk_frozen B2.out 0; have kz1 := (blk_cell B2.out 1).trans rfl; have kf1 := blk_frozen B2.out 1; have kz2 := (blk_cell B2.out 2).trans rfl; have kf2 := blk_frozen B2.out 2; have kz3 := (blk_cell B2.out 3).trans rfl; have kf3 := blk_frozen B2.out 3; clear hb) | (go_at_call 70; (refine (node_Put.calls k false none 0 ([] : List S87) A1 c1 K A3 c3 T _ _ ?s1 ?s2 ?s3 ?s4 ?s5 ?s6 HPUT.out).mono ?_); (case s1 => exact Kd.C_nil _ _); (case s2 => exact Nat.le_refl _); (case s3 => exact (Kd.R_reads' HO.out).2.2); (case s4 => exact (Kd.R_reads' HO.out).2.1); (case s5 => exact (Kd.R_reads' HU.out).2.2); (case s6 => exact (Kd.R_reads' HU.out).2.1); rintro e w21 ⟨v21, rfl, ho, hb⟩; have u0_ := Aside0.mk (blk_below B2.out hb); have u1_ := Aside0.mk (below_step HB.out hb); have u2_ := Aside0.mk (Kd.R_below HO.out hb); have u3_ := Aside0.mk (Kd.R_below HU.out hb); clear B2 HB HO HU; have B2 := u0_; have HB := u1_; have HO := u2_; have HU := u3_; clear u0_ u1_ u2_ u3_; clear kz0 kf0 kz1 kf1 kz2 kf2 kz3 kf3; have kz0 := (blk_cell B2.out 0).trans rfl; have kf0 := blk_frozen B2.out 0; have kz1 := (blk_cell B2.out 1).trans rfl; have kf1 := blk_frozen B2.out 1; have kz2 := (blk_cell B2.out 2).trans rfl; have kf2 := blk_frozen B2.out 2; have kz3 := (blk_cell B2.out 3).trans rfl; have kf3 := blk_frozen B2.out 3; obtain ⟨A21, c21, e_, hc_, hC_⟩ := Kd.R_reads ho; subst e_; have HC21 := Aside0.mk hC_; have HD21 := Aside0.mk hc_; clear hb ho hc_ hC_) | (go_at_call 78; (with_reducible refine (bytes_Equal.calls _ _ b _ _ l0 _ _ ?s1 ?s2 ?s3 ?s4 HEQ.out).mono ?_); (case s1 => exact HC21.out); (case s2 => exact HD21.out); (case s3 => exact Kd.C_below HR0.out HB.out); (case s4 => exact HC0.out); rintro e w22 ⟨rfl, hd⟩; have hb := hd.below; have u0_ := Aside0.mk (blk_below B2.out hb); have u1_ := Aside0.mk (below_step HB.out hb); have u2_ := Aside0.mk (Kd.R_below HO.out hb); have u3_ := Aside0.mk (Kd.R_below HU.out hb); clear B2 HB HO HU; have B2 := u0_; have HB := u1_; have HO := u2_; have HU := u3_; clear u0_ u1_ u2_ u3_; clear kz0 kf0 kz1 kf1 kz2 kf2 kz3 kf3; have kz0 := (blk_cell B2.out 0).trans rfl; have kf0 := blk_frozen B2.out 0; have kz1 := (blk_cell B2.out 1).trans rfl; have kf1 := blk_frozen B2.out 1; have kz2 := (blk_cell B2.out 2).trans rfl; have kf2 := blk_frozen B2.out 2; have kz3 := (blk_cell B2.out 3).trans rfl; have kf3 := blk_frozen B2.out 3; clear hb hd))
              refine bodyPost_ret (results_ct rfl _ _ g2 79 #[.bool false, .slice none 0 0, .slice none 0 0, .slice none 0 0] (0, 0) _ rfl (by refine blk_put (cs := #[.bool false, .slice none 0 0, .slice none 0 0, .slice A3 T.length c3]) ?_ 3 _ rfl; refine blk_put (cs := #[.bool false, .slice none 0 0, .slice A1 K.length c1, .slice A3 T.length c3]) ?_ 2 _ rfl; refine blk_put (cs := #[.bool false, .slice none 0 0, .slice A1 K.length c1, .slice A3 T.length c3]) ?_ 1 _ rfl; refine blk_put (cs := #[.bool false, .slice none 0 0, .slice A1 K.length c1, .slice A3 T.length c3]) ?_ 0 _ rfl; exact B2.out) Try.underlying79 rfl (by kernel_rfl)) rfl ?_
              first | exact ⟨rfl, (by repeat (with_reducible first | exact HB.out | refine below_set ?_ G2.out))⟩ | exact ⟨.slice none 0 0, .slice none 0 0, .slice none 0 0, rfl, fun h_ => by cases h_, (by repeat (with_reducible first | exact HB.out | refine below_set ?_ G2.out))⟩
            · skip
              go_wp2_with (first | (go_at_call 71; (refine (node_May.calls k false none 0 ([] : List S87) A1 c1 K A3 c3 T _ _ ?s1 ?s2 ?s3 ?s4 ?s5 ?s6 HMAY.out).mono ?_); (case s1 => exact Kd.C_nil _ _); (case s2 => exact Nat.le_refl _); (case s3 => exact (Kd.R_reads' HO.out).2.2); (case s4 => exact (Kd.R_reads' HO.out).2.1); (case s5 => exact (Kd.R_reads' HU.out).2.2); (case s6 => exact (Kd.R_reads' HU.out).2.1); rintro e w20 ⟨rfl, hb⟩; have u0_ := Aside0.mk (blk_below B2.out hb); have u1_ := Aside0.mk (below_step HB.out hb); have u2_ := Aside0.mk (Kd.R_below HO.out hb); have u3_ := Aside0.mk (Kd.R_below HU.out hb); clear B2 HB HO HU; have B2 := u0_; have HB := u1_; have HO := u2_; have HU := u3_; clear u0_ u1_ u2_ u3_; clear kz0 kf0 kz1 kf1 kz2 kf2 kz3 kf3; have kz0 := (blk_cell B2.out 0).trans rfl; have kf0 := blk_frozen B2.out 0; have kz1 := (blk_cell B2.out 1).trans rfl; have kf1 := blk_frozen B2.out 1; have kz2 := (blk_cell B2.out 2).trans rfl; have kf2 := blk_frozen B2.out 2; have kz3 := (blk_cell B2.out 3).trans rfl; have kf3 := blk_frozen B2.out 3; clear hb) | (go_at_call 70; (refine (node_Put.calls k false none 0 ([] : List S87) A1 c1 K A3 c3 T _ _ ?s1 ?s2 ?s3 ?s4 ?s5 ?s6 HPUT.out).mono ?_); (case s1 => exact Kd.C_nil _ _); (case s2 => exact Nat.le_refl _); (case s3 => exact (Kd.R_reads' HO.out).2.2); (case s4 => exact (Kd.R_reads' HO.out).2.1); (case s5 => exact (Kd.R_reads' HU.out).2.2); (case s6 => exact (Kd.R_reads' HU.out).2.1); rintro e w21 ⟨v21, rfl, ho, hb⟩; have u0_ := Aside0.mk (blk_below B2.out hb); have u1_ := Aside0.mk (below_step HB.out hb); have u2_ := Aside0.mk (Kd.R_below HO.out hb); have u3_ := Aside0.mk (Kd.R_below HU.out hb); clear B2 HB HO HU; have B2 := u0_; have HB := u1_; have HO := u2_; have HU := u3_; clear u0_ u1_ u2_ u3_; clear kz0 kf0 kz1 kf1 kz2 kf2 kz3 kf3; have kz0 := (blk_cell B2.out 0).trans rfl; have kf0 := blk_frozen B2.out 0; have kz1 := (blk_cell B2.out 1).trans rfl; have kf1 := blk_frozen B2.out 1; have kz2 := (blk_cell B2.out 2).trans rfl; have kf2 := blk_frozen B2.out 2; have kz3 := (blk_cell B2.out 3).trans rfl; have kf3 := blk_frozen B2.out 3; obtain ⟨A21, c21, e_, hc_, hC_⟩ := Kd.R_reads ho; subst e_; have HC21 := Aside0.mk hC_; have HD21 := Aside0.mk hc_; clear hb ho hc_ hC_) | (go_at_call 78; (with_reducible refine (bytes_Equal.calls _ _ b _ _ l0 _ _ ?s1 ?s2 ?s3 ?s4 HEQ.out).mono ?_); (case s1 => exact HC21.out); (case s2 => exact HD21.out); (case s3 => exact Kd.C_below HR0.out HB.out); (case s4 => exact HC0.out); rintro e w22 ⟨rfl, hd⟩; have hb := hd.below; have u0_ := Aside0.mk (blk_below B2.out hb); have u1_ := Aside0.mk (below_step HB.out hb); have u2_ := Aside0.mk (Kd.R_below HO.out hb); have u3_ := Aside0.mk (Kd.R_below HU.out hb); clear B2 HB HO HU; have B2 := u0_; have HB := u1_; have HO := u2_; have HU := u3_; clear u0_ u1_ u2_ u3_; clear kz0 kf0 kz1 kf1 kz2 kf2 kz3 kf3; have kz0 := (blk_cell B2.out 0).trans rfl; have kf0 := blk_frozen B2.out 0; have kz1 := (blk_cell B2.out 1).trans rfl; have kf1 := blk_frozen B2.out 1; have kz2 := (blk_cell B2.out 2).trans rfl; have kf2 := blk_frozen B2.out 2; have kz3 := (blk_cell B2.out 3).trans rfl; have kf3 := blk_frozen B2.out 3; clear hb hd))
              refine bodyPost_ret (results_ct rfl _ _ g2 79 #[.bool false, .slice none 0 0, .slice A1 K.length c1, .slice A3 T.length c3] (0, 0) _ rfl (by refine blk_put (cs := #[.bool false, .slice none 0 0, .slice A1 K.length c1, .slice A3 T.length c3]) ?_ 3 _ rfl; refine blk_put (cs := #[.bool false, .slice none 0 0, .slice A1 K.length c1, .slice A3 T.length c3]) ?_ 2 _ rfl; refine blk_put (cs := #[.bool false, .slice none 0 0, .slice A1 K.length c1, .slice A3 T.length c3]) ?_ 1 _ rfl; refine blk_put (cs := #[.bool false, .slice none 0 0, .slice A1 K.length c1, .slice A3 T.length c3]) ?_ 0 _ rfl; exact B2.out) Try.underlying79 rfl (by kernel_rfl)) rfl ?_
              exact ⟨_, _, _, rfl, ⟨Kd.R_nil _ _ _ _ _, Kd.R_mono (show Kd.R _ _ _ w.heap.size (fun k => True ∧ k ≠ g2) _ _ from (by repeat (with_reducible first | exact Kd.R_types HO.out B2.out (by decide) | refine Kd.R_far (p := ⟨g2, _, none⟩) ?_ (fun k hk => hk.2) _))) (fun _ _ => trivial), Kd.R_mono (show Kd.R _ _ _ w.heap.size (fun k => True ∧ k ≠ g2) _ _ from (by repeat (with_reducible first | exact Kd.R_types HU.out B2.out (by decide) | refine Kd.R_far (p := ⟨g2, _, none⟩) ?_ (fun k hk => hk.2) _))) (fun _ _ => trivial)⟩, (by repeat (with_reducible first | exact HB.out | refine below_set ?_ G2.out))⟩
end Go.Proofs.Ytfgeffmlfbeodaa.PNodeBack
