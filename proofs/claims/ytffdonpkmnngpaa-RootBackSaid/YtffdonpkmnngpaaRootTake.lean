/- root.Take: which bytes are a root. Bound to this program. -/
import Derived.Test.YtffdonpkmnngpaaRootPut
import Derived.Test.YtffdonpkmnngpaaRootNext
namespace Go.Proofs.Ytffdonpkmnngpaa.PRootAll
open Go Go.RowKit Go.Proofs Go.Proofs.Ytffdonpkmnngpaa.RG Go.Proofs.Ytffdonpkmnngpaa.RP Go.Proofs.YtffdonpkmnngpaaW.PrintWords Go.Proofs.YtffdonpkmnngpaaW.PrintLast Go.Proofs.YtffdonpkmnngpaaW.PrintMore
set_option linter.unusedVariables false
set_option linter.unusedSimpArgs false
set_option maxHeartbeats 4000000 in
set_option maxRecDepth 100000 in
theorem take_short (A0 : Option Addr) (c0 : Nat) (l0 : List Int) (a0 : Int) (w : World) (hr0 : Kd.C (Kd.int .u8) w A0 l0.length l0) (hc0 : l0.length ≤ c0) (h : l0.length ≠ 88) :
    Calls Try.prog 29 #[.int .u64 a0, .slice A0 l0.length c0] w fun e w' => e = .returned (.tuple #[.agg #[.int .u64 0, .int .i64 0, .int .i64 0, .int .u64 0, .int .i64 0, .int .u64 0, .int .i64 0, .int .u64 0, .int .i64 0, .int .u64 0, .int .i64 0, .int .u64 0], .int .i64 2]) ∧ Below w.heap.size w w' := by
  have hu44 := Try.underlying44
  have HB := Aside0.mk (Below.refl w.heap.size w)
  have b0 : ((l0.length : Int) != 88) = true := by simp; omega
  clear h hr0 hc0
  go_enter Try.func29, Try.ntmps29
  go_upto_region 1 with (first | ((with_reducible refine gate_dst (N := 3) rfl ?_); (try (refine gate_guard (by rfl) ?_; dsimp only)); refine box_event ?hg (N := 3) ?hd (cs := #[.slice A0 l0.length c0]) (t := 22) ?hr ?_; (case hd => rfl); (case hg => rfl); (case hr => first | (go_simp; done) | (go_simp; rfl)); intro g3 hg w3 hbox hb; have B3 := Aside0.mk hbox; have G3 := Aside0.mk (show w.heap.size ≤ g3 by rw [hg]; exact Nat.le_refl _); clear HB; have HB := Aside0.mk hb; clear hg hbox hb) | ((with_reducible refine gate_dst (N := 4) rfl ?_); (try (refine gate_guard (by rfl) ?_; dsimp only)); refine box_event ?hg (N := 4) ?hd (cs := #[.int .u64 0, .int .i64 0, .int .i64 0, .int .u64 0, .int .i64 0, .int .u64 0, .int .i64 0, .int .u64 0, .int .i64 0, .int .u64 0, .int .i64 0, .int .u64 0]) (t := 44) ?hr ?_; (case hd => rfl); (case hg => rfl); (case hr => first | (go_simp; done) | (go_simp; rfl)); intro g4 hg w4 hbox hb; have B4 := Aside0.mk hbox; have G4 := Aside0.mk (show w.heap.size ≤ g4 by rw [hg]; exact HB.out.size); have N34 := Aside0.mk (show g3 ≠ g4 by rw [hg]; exact Nat.ne_of_lt (blk_lt B3.out)); have n0_ := Aside0.mk (blk_below B3.out hb); have n1_ := Aside0.mk (below_step HB.out hb); clear B3 HB; have B3 := n0_; have HB := n1_; clear n0_ n1_ hg hbox hb))
  have xz0 := (blk_cell B3.out 0).trans rfl
  have xf0 := blk_frozen B3.out 0
  have yz0 := (blk_cell B4.out 0).trans rfl
  have yf0 := blk_frozen B4.out 0
  have yz1 := (blk_cell B4.out 1).trans rfl
  have yf1 := blk_frozen B4.out 1
  have yz2 := (blk_cell B4.out 2).trans rfl
  have yf2 := blk_frozen B4.out 2
  have yz3 := (blk_cell B4.out 3).trans rfl
  have yf3 := blk_frozen B4.out 3
  have yz4 := (blk_cell B4.out 4).trans rfl
  have yf4 := blk_frozen B4.out 4
  have yz5 := (blk_cell B4.out 5).trans rfl
  have yf5 := blk_frozen B4.out 5
  have yz6 := (blk_cell B4.out 6).trans rfl
  have yf6 := blk_frozen B4.out 6
  have yz7 := (blk_cell B4.out 7).trans rfl
  have yf7 := blk_frozen B4.out 7
  have yz8 := (blk_cell B4.out 8).trans rfl
  have yf8 := blk_frozen B4.out 8
  have yz9 := (blk_cell B4.out 9).trans rfl
  have yf9 := blk_frozen B4.out 9
  have yz10 := (blk_cell B4.out 10).trans rfl
  have yf10 := blk_frozen B4.out 10
  have yz11 := (blk_cell B4.out 11).trans rfl
  have yf11 := blk_frozen B4.out 11
  go_wp2_with (fail)
  refine bodyPost_ret (results_ct rfl _ _ g4 44 #[.int .u64 0, .int .i64 0, .int .i64 0, .int .u64 0, .int .i64 0, .int .u64 0, .int .i64 0, .int .u64 0, .int .i64 0, .int .u64 0, .int .i64 0, .int .u64 0] (0, 0) _ rfl (by refine blk_put (cs := #[.int .u64 0, .int .i64 0, .int .i64 0, .int .u64 0, .int .i64 0, .int .u64 0, .int .i64 0, .int .u64 0, .int .i64 0, .int .u64 0, .int .i64 0, .int .u64 0]) ?_ 11 _ rfl; refine blk_put (cs := #[.int .u64 0, .int .i64 0, .int .i64 0, .int .u64 0, .int .i64 0, .int .u64 0, .int .i64 0, .int .u64 0, .int .i64 0, .int .u64 0, .int .i64 0, .int .u64 0]) ?_ 10 _ rfl; refine blk_put (cs := #[.int .u64 0, .int .i64 0, .int .i64 0, .int .u64 0, .int .i64 0, .int .u64 0, .int .i64 0, .int .u64 0, .int .i64 0, .int .u64 0, .int .i64 0, .int .u64 0]) ?_ 9 _ rfl; refine blk_put (cs := #[.int .u64 0, .int .i64 0, .int .i64 0, .int .u64 0, .int .i64 0, .int .u64 0, .int .i64 0, .int .u64 0, .int .i64 0, .int .u64 0, .int .i64 0, .int .u64 0]) ?_ 8 _ rfl; refine blk_put (cs := #[.int .u64 0, .int .i64 0, .int .i64 0, .int .u64 0, .int .i64 0, .int .u64 0, .int .i64 0, .int .u64 0, .int .i64 0, .int .u64 0, .int .i64 0, .int .u64 0]) ?_ 7 _ rfl; refine blk_put (cs := #[.int .u64 0, .int .i64 0, .int .i64 0, .int .u64 0, .int .i64 0, .int .u64 0, .int .i64 0, .int .u64 0, .int .i64 0, .int .u64 0, .int .i64 0, .int .u64 0]) ?_ 6 _ rfl; refine blk_put (cs := #[.int .u64 0, .int .i64 0, .int .i64 0, .int .u64 0, .int .i64 0, .int .u64 0, .int .i64 0, .int .u64 0, .int .i64 0, .int .u64 0, .int .i64 0, .int .u64 0]) ?_ 5 _ rfl; refine blk_put (cs := #[.int .u64 0, .int .i64 0, .int .i64 0, .int .u64 0, .int .i64 0, .int .u64 0, .int .i64 0, .int .u64 0, .int .i64 0, .int .u64 0, .int .i64 0, .int .u64 0]) ?_ 4 _ rfl; refine blk_put (cs := #[.int .u64 0, .int .i64 0, .int .i64 0, .int .u64 0, .int .i64 0, .int .u64 0, .int .i64 0, .int .u64 0, .int .i64 0, .int .u64 0, .int .i64 0, .int .u64 0]) ?_ 3 _ rfl; refine blk_put (cs := #[.int .u64 0, .int .i64 0, .int .i64 0, .int .u64 0, .int .i64 0, .int .u64 0, .int .i64 0, .int .u64 0, .int .i64 0, .int .u64 0, .int .i64 0, .int .u64 0]) ?_ 2 _ rfl; refine blk_put (cs := #[.int .u64 0, .int .i64 0, .int .i64 0, .int .u64 0, .int .i64 0, .int .u64 0, .int .i64 0, .int .u64 0, .int .i64 0, .int .u64 0, .int .i64 0, .int .u64 0]) ?_ 1 _ rfl; refine blk_put (cs := #[.int .u64 0, .int .i64 0, .int .i64 0, .int .u64 0, .int .i64 0, .int .u64 0, .int .i64 0, .int .u64 0, .int .i64 0, .int .u64 0, .int .i64 0, .int .u64 0]) ?_ 0 _ rfl; exact B4.out) Try.underlying44 rfl (by kernel_rfl)) rfl ?_
  exact ⟨rfl, by repeat (with_reducible first | exact HB.out | refine below_set ?_ G4.out)⟩

theorem St_lt {w0 w : World} {g : Nat} {xs : List Int} (h : St w0 g xs w) : g < w.heap.size := by obtain ⟨A, c, hb, _⟩ := h.blk; exact blk_lt hb
theorem St_set {w0 w : World} {g g8 : Nat} {xs : List Int} (h : St w0 g xs w) (hne : g ≠ g8) (hg : w0.heap.size ≤ g8) (o : Nat) (v : Value) : St w0 g xs (w.setCell ⟨g8, o, none⟩ v) := by
  obtain ⟨h1, h2, A, c, h3, h4⟩ := h
  exact ⟨below_set h1 hg, h2, A, c, blk_far h3 hne _, h4⟩
theorem next_at (w0 w : World) (g : Nat) (l0 : List Int) (n m : Nat) (u : Int) (hm : n + 8 = m) (h8 : m ≤ l0.length) (hS : St w0 g (l0.drop n) w) (hu : numu ((l0.drop n).take 8) = u) :
    Calls Try.prog 48 #[.pointer (some ⟨g, 0, none⟩)] w fun e w' => e = .returned (.int .u64 u) ∧ KeepBut w w' g none ∧ St w0 g (l0.drop m) w' := by
  subst hu hm
  refine (next_ w0 w g (l0.drop n) hS (by rw [List.length_drop]; omega)).mono ?_
  rintro e w' ⟨h1, h2, h3⟩
  rw [List.drop_drop] at h3
  exact ⟨h1, h2, h3⟩
set_option maxHeartbeats 8000000 in
set_option maxRecDepth 100000 in
theorem take_long (k : Nat) (A0 : Option Addr) (c0 : Nat) (l0 : List Int) (a0 : Int) (mu0 mu1 mu2 mu3 mu4 mu5 mu6 mu7 mu8 mu9 mu10 : Int) (b : List Int) (q : Bool) (w : World) (hr0 : Kd.C (Kd.int .u8) w A0 l0.length l0) (hc0 : l0.length ≤ c0) (h88 : l0.length = 88)
    (hu0 : numu ((l0.drop 0).take 8) = mu0) (hu1 : numu ((l0.drop 8).take 8) = mu1) (hu2 : numu ((l0.drop 16).take 8) = mu2) (hu3 : numu ((l0.drop 24).take 8) = mu3) (hu4 : numu ((l0.drop 32).take 8) = mu4) (hu5 : numu ((l0.drop 40).take 8) = mu5) (hu6 : numu ((l0.drop 48).take 8) = mu6) (hu7 : numu ((l0.drop 56).take 8) = mu7) (hu8 : numu ((l0.drop 64).take 8) = mu8) (hu9 : numu ((l0.drop 72).take 8) = mu9) (hu10 : numu ((l0.drop 80).take 8) = mu10) (hput : root_Put.f k (wrap64 mu0) [(wrap64 mu1, mu2), (wrap64 mu3, mu4), (wrap64 mu5, mu6), (wrap64 mu7, mu8), (wrap64 mu9, mu10)] = some b) (heq : bytes_Equal.f b l0 = some q) :
    Calls Try.prog 29 #[.int .u64 a0, .slice A0 l0.length c0] w fun e w' => e = .returned (.tuple (if q = true then #[.agg #[.int .u64 a0, .int .i64 (wrap64 mu0), .int .i64 (wrap64 mu1), .int .u64 mu2, .int .i64 (wrap64 mu3), .int .u64 mu4, .int .i64 (wrap64 mu5), .int .u64 mu6, .int .i64 (wrap64 mu7), .int .u64 mu8, .int .i64 (wrap64 mu9), .int .u64 mu10], .int .i64 0] else #[.agg #[.int .u64 0, .int .i64 0, .int .i64 0, .int .u64 0, .int .i64 0, .int .u64 0, .int .i64 0, .int .u64 0, .int .i64 0, .int .u64 0, .int .i64 0, .int .u64 0], .int .i64 2])) ∧ Below w.heap.size w w' := by
  have hu44 := Try.underlying44
  have hu42 := Try.underlying42
  have hu41 := Try.underlying41
  have HB := Aside0.mk (Below.refl w.heap.size w)
  have HR0 := Aside0.mk hr0
  have HC0 := Aside0.mk hc0
  have H88 := Aside0.mk h88
  have HU0 := Aside0.mk hu0
  have HU1 := Aside0.mk hu1
  have HU2 := Aside0.mk hu2
  have HU3 := Aside0.mk hu3
  have HU4 := Aside0.mk hu4
  have HU5 := Aside0.mk hu5
  have HU6 := Aside0.mk hu6
  have HU7 := Aside0.mk hu7
  have HU8 := Aside0.mk hu8
  have HU9 := Aside0.mk hu9
  have HU10 := Aside0.mk hu10
  have HPUT := Aside0.mk hput
  have HEQ := Aside0.mk heq
  have b0 : ((l0.length : Int) != 88) = false := by simp; omega
  clear hr0 hc0 h88 hput heq hu0 hu1 hu2 hu3 hu4 hu5 hu6 hu7 hu8 hu9 hu10
  go_enter Try.func29, Try.ntmps29
  go_upto_region 1 with (first | ((with_reducible refine gate_dst (N := 3) rfl ?_); (try (refine gate_guard (by rfl) ?_; dsimp only)); refine box_event ?hg (N := 3) ?hd (cs := #[.slice A0 l0.length c0]) (t := 22) ?hr ?_; (case hd => rfl); (case hg => rfl); (case hr => first | (go_simp; done) | (go_simp; rfl)); intro g3 hg w3 hbox hb; have B3 := Aside0.mk hbox; have G3 := Aside0.mk (show w.heap.size ≤ g3 by rw [hg]; exact Nat.le_refl _); clear HB; have HB := Aside0.mk hb; clear hg hbox hb) | ((with_reducible refine gate_dst (N := 4) rfl ?_); (try (refine gate_guard (by rfl) ?_; dsimp only)); refine box_event ?hg (N := 4) ?hd (cs := #[.int .u64 0, .int .i64 0, .int .i64 0, .int .u64 0, .int .i64 0, .int .u64 0, .int .i64 0, .int .u64 0, .int .i64 0, .int .u64 0, .int .i64 0, .int .u64 0]) (t := 44) ?hr ?_; (case hd => rfl); (case hg => rfl); (case hr => first | (go_simp; done) | (go_simp; rfl)); intro g4 hg w4 hbox hb; have B4 := Aside0.mk hbox; have G4 := Aside0.mk (show w.heap.size ≤ g4 by rw [hg]; exact HB.out.size); have N34 := Aside0.mk (show g3 ≠ g4 by rw [hg]; exact Nat.ne_of_lt (blk_lt B3.out)); have n0_ := Aside0.mk (blk_below B3.out hb); have n1_ := Aside0.mk (below_step HB.out hb); clear B3 HB; have B3 := n0_; have HB := n1_; clear n0_ n1_ hg hbox hb))
  have xz0 := (blk_cell B3.out 0).trans rfl
  have xf0 := blk_frozen B3.out 0
  have yz0 := (blk_cell B4.out 0).trans rfl
  have yf0 := blk_frozen B4.out 0
  have yz1 := (blk_cell B4.out 1).trans rfl
  have yf1 := blk_frozen B4.out 1
  have yz2 := (blk_cell B4.out 2).trans rfl
  have yf2 := blk_frozen B4.out 2
  have yz3 := (blk_cell B4.out 3).trans rfl
  have yf3 := blk_frozen B4.out 3
  have yz4 := (blk_cell B4.out 4).trans rfl
  have yf4 := blk_frozen B4.out 4
  have yz5 := (blk_cell B4.out 5).trans rfl
  have yf5 := blk_frozen B4.out 5
  have yz6 := (blk_cell B4.out 6).trans rfl
  have yf6 := blk_frozen B4.out 6
  have yz7 := (blk_cell B4.out 7).trans rfl
  have yf7 := blk_frozen B4.out 7
  have yz8 := (blk_cell B4.out 8).trans rfl
  have yf8 := blk_frozen B4.out 8
  have yz9 := (blk_cell B4.out 9).trans rfl
  have yf9 := blk_frozen B4.out 9
  have yz10 := (blk_cell B4.out 10).trans rfl
  have yf10 := blk_frozen B4.out 10
  have yz11 := (blk_cell B4.out 11).trans rfl
  have yf11 := blk_frozen B4.out 11
  go_upto_region 5 with (fail)
  clear xz0 xf0
  clear yz0 yf0 yz1 yf1 yz2 yf2 yz3 yf3 yz4 yf4 yz5 yf5 yz6 yf6 yz7 yf7 yz8 yf8 yz9 yf9 yz10 yf10 yz11 yf11
  have N43 := Aside0.mk N34.out.symm
  have HS : Aside0 (St w g3 (l0.drop 0) w4) := ⟨⟨HB.out, G3.out, A0, c0, B3.out, HC0.out, HR0.out⟩⟩
  clear HB B3 b0
  go_upto_region 6 with (first | (go_at_call 48; (with_reducible refine (next_at w _ g3 l0 0 8 mu0 (by decide) (by have := H88.out; omega) HS.out HU0.out).mono ?_); rintro e w5 ⟨rfl, hk, hs⟩; have n0_ := Aside0.mk (hk.blk B4.out N43.out (by simp)); have ns_ := Aside0.mk hs; clear HS B4; have HS := ns_; have B4 := n0_; clear ns_ n0_ hk hs) | ((with_reducible refine gate_dst (N := 8) rfl ?_); (try (refine gate_guard (by rfl) ?_; dsimp only)); refine box_event ?hg (N := 8) ?hd (cs := #[.int .u64 0, .int .i64 0, .int .i64 0, .int .u64 0, .int .i64 0, .int .u64 0, .int .i64 0, .int .u64 0, .int .i64 0, .int .u64 0, .int .i64 0, .int .u64 0]) (t := 44) ?hr ?_; (case hd => rfl); (case hg => rfl); (case hr => first | (go_simp; done) | (go_simp; rfl)); intro g8 hg w6 hbox hb; have B8 := Aside0.mk hbox; have G8 := Aside0.mk (show w.heap.size ≤ g8 by rw [hg]; exact HS.out.below.size); have N38 := Aside0.mk (show g3 ≠ g8 by rw [hg]; exact Nat.ne_of_lt (St_lt HS.out)); have N48 := Aside0.mk (show g4 ≠ g8 by rw [hg]; exact Nat.ne_of_lt (blk_lt B4.out)); have n0_ := Aside0.mk (blk_below B4.out hb); have n1_ := Aside0.mk (HS.out.next hb); clear B4 HS; have B4 := n0_; have HS := n1_; clear n0_ n1_ hg hbox hb; have zz0 := (blk_cell B8.out 0).trans rfl; have zf0 := blk_frozen B8.out 0; have zz1 := (blk_cell B8.out 1).trans rfl; have zf1 := blk_frozen B8.out 1; have zz2 := (blk_cell B8.out 2).trans rfl; have zf2 := blk_frozen B8.out 2; have zz3 := (blk_cell B8.out 3).trans rfl; have zf3 := blk_frozen B8.out 3; have zz4 := (blk_cell B8.out 4).trans rfl; have zf4 := blk_frozen B8.out 4; have zz5 := (blk_cell B8.out 5).trans rfl; have zf5 := blk_frozen B8.out 5; have zz6 := (blk_cell B8.out 6).trans rfl; have zf6 := blk_frozen B8.out 6; have zz7 := (blk_cell B8.out 7).trans rfl; have zf7 := blk_frozen B8.out 7; have zz8 := (blk_cell B8.out 8).trans rfl; have zf8 := blk_frozen B8.out 8; have zz9 := (blk_cell B8.out 9).trans rfl; have zf9 := blk_frozen B8.out 9; have zz10 := (blk_cell B8.out 10).trans rfl; have zf10 := blk_frozen B8.out 10; have zz11 := (blk_cell B8.out 11).trans rfl; have zf11 := blk_frozen B8.out 11))
  clear zz0 zf0 zz1 zf1 zz2 zf2 zz3 zf3 zz4 zf4 zz5 zf5 zz6 zf6 zz7 zf7 zz8 zf8 zz9 zf9 zz10 zf10 zz11 zf11
  have n0_ := Aside0.mk (show ((((((((((((w6.setCell ⟨g8, 0, none⟩ (.int .u64 a0)).setCell ⟨g8, 1, none⟩ (.int .i64 (wrap64 mu0))).setCell ⟨g8, 2, none⟩ (.int .i64 0)).setCell ⟨g8, 3, none⟩ (.int .u64 0)).setCell ⟨g8, 4, none⟩ (.int .i64 0)).setCell ⟨g8, 5, none⟩ (.int .u64 0)).setCell ⟨g8, 6, none⟩ (.int .i64 0)).setCell ⟨g8, 7, none⟩ (.int .u64 0)).setCell ⟨g8, 8, none⟩ (.int .i64 0)).setCell ⟨g8, 9, none⟩ (.int .u64 0)).setCell ⟨g8, 10, none⟩ (.int .i64 0)).setCell ⟨g8, 11, none⟩ (.int .u64 0)).heap[g8]? = some (.cells #[.int .u64 a0, .int .i64 (wrap64 mu0), .int .i64 0, .int .u64 0, .int .i64 0, .int .u64 0, .int .i64 0, .int .u64 0, .int .i64 0, .int .u64 0, .int .i64 0, .int .u64 0] 44 (0, 0)) by refine blk_put (cs := #[.int .u64 a0, .int .i64 (wrap64 mu0), .int .i64 0, .int .u64 0, .int .i64 0, .int .u64 0, .int .i64 0, .int .u64 0, .int .i64 0, .int .u64 0, .int .i64 0, .int .u64 0]) ?_ 11 _ rfl; refine blk_put (cs := #[.int .u64 a0, .int .i64 (wrap64 mu0), .int .i64 0, .int .u64 0, .int .i64 0, .int .u64 0, .int .i64 0, .int .u64 0, .int .i64 0, .int .u64 0, .int .i64 0, .int .u64 0]) ?_ 10 _ rfl; refine blk_put (cs := #[.int .u64 a0, .int .i64 (wrap64 mu0), .int .i64 0, .int .u64 0, .int .i64 0, .int .u64 0, .int .i64 0, .int .u64 0, .int .i64 0, .int .u64 0, .int .i64 0, .int .u64 0]) ?_ 9 _ rfl; refine blk_put (cs := #[.int .u64 a0, .int .i64 (wrap64 mu0), .int .i64 0, .int .u64 0, .int .i64 0, .int .u64 0, .int .i64 0, .int .u64 0, .int .i64 0, .int .u64 0, .int .i64 0, .int .u64 0]) ?_ 8 _ rfl; refine blk_put (cs := #[.int .u64 a0, .int .i64 (wrap64 mu0), .int .i64 0, .int .u64 0, .int .i64 0, .int .u64 0, .int .i64 0, .int .u64 0, .int .i64 0, .int .u64 0, .int .i64 0, .int .u64 0]) ?_ 7 _ rfl; refine blk_put (cs := #[.int .u64 a0, .int .i64 (wrap64 mu0), .int .i64 0, .int .u64 0, .int .i64 0, .int .u64 0, .int .i64 0, .int .u64 0, .int .i64 0, .int .u64 0, .int .i64 0, .int .u64 0]) ?_ 6 _ rfl; refine blk_put (cs := #[.int .u64 a0, .int .i64 (wrap64 mu0), .int .i64 0, .int .u64 0, .int .i64 0, .int .u64 0, .int .i64 0, .int .u64 0, .int .i64 0, .int .u64 0, .int .i64 0, .int .u64 0]) ?_ 5 _ rfl; refine blk_put (cs := #[.int .u64 a0, .int .i64 (wrap64 mu0), .int .i64 0, .int .u64 0, .int .i64 0, .int .u64 0, .int .i64 0, .int .u64 0, .int .i64 0, .int .u64 0, .int .i64 0, .int .u64 0]) ?_ 4 _ rfl; refine blk_put (cs := #[.int .u64 a0, .int .i64 (wrap64 mu0), .int .i64 0, .int .u64 0, .int .i64 0, .int .u64 0, .int .i64 0, .int .u64 0, .int .i64 0, .int .u64 0, .int .i64 0, .int .u64 0]) ?_ 3 _ rfl; refine blk_put (cs := #[.int .u64 a0, .int .i64 (wrap64 mu0), .int .i64 0, .int .u64 0, .int .i64 0, .int .u64 0, .int .i64 0, .int .u64 0, .int .i64 0, .int .u64 0, .int .i64 0, .int .u64 0]) ?_ 2 _ rfl; refine blk_put (cs := #[.int .u64 a0, .int .i64 0, .int .i64 0, .int .u64 0, .int .i64 0, .int .u64 0, .int .i64 0, .int .u64 0, .int .i64 0, .int .u64 0, .int .i64 0, .int .u64 0]) ?_ 1 _ rfl; refine blk_put (cs := #[.int .u64 0, .int .i64 0, .int .i64 0, .int .u64 0, .int .i64 0, .int .u64 0, .int .i64 0, .int .u64 0, .int .i64 0, .int .u64 0, .int .i64 0, .int .u64 0]) ?_ 0 _ rfl; exact B8.out)
  have n1_ := Aside0.mk (show ((((((((((((w6.setCell ⟨g8, 0, none⟩ (.int .u64 a0)).setCell ⟨g8, 1, none⟩ (.int .i64 (wrap64 mu0))).setCell ⟨g8, 2, none⟩ (.int .i64 0)).setCell ⟨g8, 3, none⟩ (.int .u64 0)).setCell ⟨g8, 4, none⟩ (.int .i64 0)).setCell ⟨g8, 5, none⟩ (.int .u64 0)).setCell ⟨g8, 6, none⟩ (.int .i64 0)).setCell ⟨g8, 7, none⟩ (.int .u64 0)).setCell ⟨g8, 8, none⟩ (.int .i64 0)).setCell ⟨g8, 9, none⟩ (.int .u64 0)).setCell ⟨g8, 10, none⟩ (.int .i64 0)).setCell ⟨g8, 11, none⟩ (.int .u64 0)).heap[g4]? = some (.cells #[.int .u64 0, .int .i64 0, .int .i64 0, .int .u64 0, .int .i64 0, .int .u64 0, .int .i64 0, .int .u64 0, .int .i64 0, .int .u64 0, .int .i64 0, .int .u64 0] 44 (0, 0)) by refine blk_far ?_ N48.out _; refine blk_far ?_ N48.out _; refine blk_far ?_ N48.out _; refine blk_far ?_ N48.out _; refine blk_far ?_ N48.out _; refine blk_far ?_ N48.out _; refine blk_far ?_ N48.out _; refine blk_far ?_ N48.out _; refine blk_far ?_ N48.out _; refine blk_far ?_ N48.out _; refine blk_far ?_ N48.out _; refine blk_far ?_ N48.out _; exact B4.out)
  have n2_ := Aside0.mk (show St w g3 _ ((((((((((((w6.setCell ⟨g8, 0, none⟩ (.int .u64 a0)).setCell ⟨g8, 1, none⟩ (.int .i64 (wrap64 mu0))).setCell ⟨g8, 2, none⟩ (.int .i64 0)).setCell ⟨g8, 3, none⟩ (.int .u64 0)).setCell ⟨g8, 4, none⟩ (.int .i64 0)).setCell ⟨g8, 5, none⟩ (.int .u64 0)).setCell ⟨g8, 6, none⟩ (.int .i64 0)).setCell ⟨g8, 7, none⟩ (.int .u64 0)).setCell ⟨g8, 8, none⟩ (.int .i64 0)).setCell ⟨g8, 9, none⟩ (.int .u64 0)).setCell ⟨g8, 10, none⟩ (.int .i64 0)).setCell ⟨g8, 11, none⟩ (.int .u64 0)) from St_set (St_set (St_set (St_set (St_set (St_set (St_set (St_set (St_set (St_set (St_set (St_set (HS.out) N38.out G8.out _ _) N38.out G8.out _ _) N38.out G8.out _ _) N38.out G8.out _ _) N38.out G8.out _ _) N38.out G8.out _ _) N38.out G8.out _ _) N38.out G8.out _ _) N38.out G8.out _ _) N38.out G8.out _ _) N38.out G8.out _ _) N38.out G8.out _ _)
  clear B8 B4 HS
  have B8 := n0_
  have B4 := n1_
  have HS := n2_
  clear n0_ n1_ n2_
  go_wp2_with (fail)
  have N83 := Aside0.mk N38.out.symm
  go_loopg [21] 5 (fun kq v21 w' => ∃ i : Int, v21 = .int .i64 i ∧ Aside0 (i + (kq : Int) = 5) ∧ Aside0 (0 ≤ i) ∧ Aside0 (St w g3 (l0.drop (8 + 16 * i.toNat)) w') ∧ Aside0 (w'.heap[g4]? = some (.cells #[.int .u64 0, .int .i64 0, .int .i64 0, .int .u64 0, .int .i64 0, .int .u64 0, .int .i64 0, .int .u64 0, .int .i64 0, .int .u64 0, .int .i64 0, .int .u64 0] 44 (0, 0))) ∧ Aside0 (w'.heap[g8]? = some (.cells (([.int .u64 a0, .int .i64 (wrap64 mu0), .int .i64 (wrap64 mu1), .int .u64 mu2, .int .i64 (wrap64 mu3), .int .u64 mu4, .int .i64 (wrap64 mu5), .int .u64 mu6, .int .i64 (wrap64 mu7), .int .u64 mu8, .int .i64 (wrap64 mu9), .int .u64 mu10] : List Value).take (2 + 2 * i.toNat) ++ ([.int .u64 0, .int .i64 0, .int .i64 0, .int .u64 0, .int .i64 0, .int .u64 0, .int .i64 0, .int .u64 0, .int .i64 0, .int .u64 0, .int .i64 0, .int .u64 0] : List Value).drop (2 + 2 * i.toNat)).toArray 44 (0, 0))))
  case atStart => exact ⟨0, rfl, ⟨rfl⟩, ⟨by decide⟩, HS, B4, B8⟩
  case round =>
    clear HS B4 B8
    obtain ⟨i, rfl, HI, HI0, HS, B4, B8r⟩ := hrel
    match gk with
    | 0 =>
      obtain rfl : i = 5 := by have := HI.out; omega
      have n0_ : Aside0 (St w g3 (l0.drop 88) wr) := HS
      have B8 : Aside0 (wr.heap[g8]? = some (.cells #[.int .u64 a0, .int .i64 (wrap64 mu0), .int .i64 (wrap64 mu1), .int .u64 mu2, .int .i64 (wrap64 mu3), .int .u64 mu4, .int .i64 (wrap64 mu5), .int .u64 mu6, .int .i64 (wrap64 mu7), .int .u64 mu8, .int .i64 (wrap64 mu9), .int .u64 mu10] 44 (0, 0))) := B8r
      clear HS B8r
      have HS := n0_
      clear n0_
      have HB := Aside0.mk HS.out.below
      clear HS
      have zz0 := (blk_cell B8.out 0).trans rfl
      have zf0 := blk_frozen B8.out 0
      have zz1 := (blk_cell B8.out 1).trans rfl
      have zf1 := blk_frozen B8.out 1
      have zz2 := (blk_cell B8.out 2).trans rfl
      have zf2 := blk_frozen B8.out 2
      have zz3 := (blk_cell B8.out 3).trans rfl
      have zf3 := blk_frozen B8.out 3
      have zz4 := (blk_cell B8.out 4).trans rfl
      have zf4 := blk_frozen B8.out 4
      have zz5 := (blk_cell B8.out 5).trans rfl
      have zf5 := blk_frozen B8.out 5
      have zz6 := (blk_cell B8.out 6).trans rfl
      have zf6 := blk_frozen B8.out 6
      have zz7 := (blk_cell B8.out 7).trans rfl
      have zf7 := blk_frozen B8.out 7
      have zz8 := (blk_cell B8.out 8).trans rfl
      have zf8 := blk_frozen B8.out 8
      have zz9 := (blk_cell B8.out 9).trans rfl
      have zf9 := blk_frozen B8.out 9
      have zz10 := (blk_cell B8.out 10).trans rfl
      have zf10 := blk_frozen B8.out 10
      have zz11 := (blk_cell B8.out 11).trans rfl
      have zf11 := blk_frozen B8.out 11
      cases q
      · skip
        go_wp2_with (first | (go_at_call 31; (with_reducible refine (root_Put.calls k a0 (wrap64 mu0) (wrap64 mu1) mu2 (wrap64 mu3) mu4 (wrap64 mu5) mu6 (wrap64 mu7) mu8 (wrap64 mu9) mu10 b _ HPUT.out).mono ?_); rintro e w7 ⟨v7, rfl, ho_, hb_⟩; have n0_ := Aside0.mk (blk_below B8.out hb_); have n1_ := Aside0.mk (blk_below B4.out hb_); have n2_ := Aside0.mk (below_step HB.out hb_); clear B8 B4 HB; have B8 := n0_; have B4 := n1_; have HB := n2_; clear n0_ n1_ n2_; obtain ⟨A9, c9, e9, hc9, hC9⟩ := Kd.R_reads ho_; subst e9; have HC9 := Aside0.mk hC9; have HD9 := Aside0.mk hc9; clear hb_ ho_ hC9 hc9; have zz0 := (blk_cell B8.out 0).trans rfl; have zf0 := blk_frozen B8.out 0; have zz1 := (blk_cell B8.out 1).trans rfl; have zf1 := blk_frozen B8.out 1; have zz2 := (blk_cell B8.out 2).trans rfl; have zf2 := blk_frozen B8.out 2; have zz3 := (blk_cell B8.out 3).trans rfl; have zf3 := blk_frozen B8.out 3; have zz4 := (blk_cell B8.out 4).trans rfl; have zf4 := blk_frozen B8.out 4; have zz5 := (blk_cell B8.out 5).trans rfl; have zf5 := blk_frozen B8.out 5; have zz6 := (blk_cell B8.out 6).trans rfl; have zf6 := blk_frozen B8.out 6; have zz7 := (blk_cell B8.out 7).trans rfl; have zf7 := blk_frozen B8.out 7; have zz8 := (blk_cell B8.out 8).trans rfl; have zf8 := blk_frozen B8.out 8; have zz9 := (blk_cell B8.out 9).trans rfl; have zf9 := blk_frozen B8.out 9; have zz10 := (blk_cell B8.out 10).trans rfl; have zf10 := blk_frozen B8.out 10; have zz11 := (blk_cell B8.out 11).trans rfl; have zf11 := blk_frozen B8.out 11; have yz0 := (blk_cell B4.out 0).trans rfl; have yf0 := blk_frozen B4.out 0; have yz1 := (blk_cell B4.out 1).trans rfl; have yf1 := blk_frozen B4.out 1; have yz2 := (blk_cell B4.out 2).trans rfl; have yf2 := blk_frozen B4.out 2; have yz3 := (blk_cell B4.out 3).trans rfl; have yf3 := blk_frozen B4.out 3; have yz4 := (blk_cell B4.out 4).trans rfl; have yf4 := blk_frozen B4.out 4; have yz5 := (blk_cell B4.out 5).trans rfl; have yf5 := blk_frozen B4.out 5; have yz6 := (blk_cell B4.out 6).trans rfl; have yf6 := blk_frozen B4.out 6; have yz7 := (blk_cell B4.out 7).trans rfl; have yf7 := blk_frozen B4.out 7; have yz8 := (blk_cell B4.out 8).trans rfl; have yf8 := blk_frozen B4.out 8; have yz9 := (blk_cell B4.out 9).trans rfl; have yf9 := blk_frozen B4.out 9; have yz10 := (blk_cell B4.out 10).trans rfl; have yf10 := blk_frozen B4.out 10; have yz11 := (blk_cell B4.out 11).trans rfl; have yf11 := blk_frozen B4.out 11) | (go_at_call 49; (with_reducible refine (bytes_Equal.calls _ _ b _ _ l0 _ _ ?side1 ?side2 ?side3 ?side4 HEQ.out).mono ?_); (case side1 => exact HC9.out); (case side2 => exact HD9.out); (case side3 => exact Kd.C_below HR0.out HB.out); (case side4 => exact HC0.out); rintro e w8 ⟨rfl, ⟨nd, rfl⟩⟩))
        refine bodyPost_ret (results_ct rfl _ _ g4 44 #[.int .u64 0, .int .i64 0, .int .i64 0, .int .u64 0, .int .i64 0, .int .u64 0, .int .i64 0, .int .u64 0, .int .i64 0, .int .u64 0, .int .i64 0, .int .u64 0] (0, 0) _ rfl (by refine blk_put (cs := #[.int .u64 0, .int .i64 0, .int .i64 0, .int .u64 0, .int .i64 0, .int .u64 0, .int .i64 0, .int .u64 0, .int .i64 0, .int .u64 0, .int .i64 0, .int .u64 0]) ?_ 11 _ rfl; refine blk_put (cs := #[.int .u64 0, .int .i64 0, .int .i64 0, .int .u64 0, .int .i64 0, .int .u64 0, .int .i64 0, .int .u64 0, .int .i64 0, .int .u64 0, .int .i64 0, .int .u64 0]) ?_ 10 _ rfl; refine blk_put (cs := #[.int .u64 0, .int .i64 0, .int .i64 0, .int .u64 0, .int .i64 0, .int .u64 0, .int .i64 0, .int .u64 0, .int .i64 0, .int .u64 0, .int .i64 0, .int .u64 0]) ?_ 9 _ rfl; refine blk_put (cs := #[.int .u64 0, .int .i64 0, .int .i64 0, .int .u64 0, .int .i64 0, .int .u64 0, .int .i64 0, .int .u64 0, .int .i64 0, .int .u64 0, .int .i64 0, .int .u64 0]) ?_ 8 _ rfl; refine blk_put (cs := #[.int .u64 0, .int .i64 0, .int .i64 0, .int .u64 0, .int .i64 0, .int .u64 0, .int .i64 0, .int .u64 0, .int .i64 0, .int .u64 0, .int .i64 0, .int .u64 0]) ?_ 7 _ rfl; refine blk_put (cs := #[.int .u64 0, .int .i64 0, .int .i64 0, .int .u64 0, .int .i64 0, .int .u64 0, .int .i64 0, .int .u64 0, .int .i64 0, .int .u64 0, .int .i64 0, .int .u64 0]) ?_ 6 _ rfl; refine blk_put (cs := #[.int .u64 0, .int .i64 0, .int .i64 0, .int .u64 0, .int .i64 0, .int .u64 0, .int .i64 0, .int .u64 0, .int .i64 0, .int .u64 0, .int .i64 0, .int .u64 0]) ?_ 5 _ rfl; refine blk_put (cs := #[.int .u64 0, .int .i64 0, .int .i64 0, .int .u64 0, .int .i64 0, .int .u64 0, .int .i64 0, .int .u64 0, .int .i64 0, .int .u64 0, .int .i64 0, .int .u64 0]) ?_ 4 _ rfl; refine blk_put (cs := #[.int .u64 0, .int .i64 0, .int .i64 0, .int .u64 0, .int .i64 0, .int .u64 0, .int .i64 0, .int .u64 0, .int .i64 0, .int .u64 0, .int .i64 0, .int .u64 0]) ?_ 3 _ rfl; refine blk_put (cs := #[.int .u64 0, .int .i64 0, .int .i64 0, .int .u64 0, .int .i64 0, .int .u64 0, .int .i64 0, .int .u64 0, .int .i64 0, .int .u64 0, .int .i64 0, .int .u64 0]) ?_ 2 _ rfl; refine blk_put (cs := #[.int .u64 0, .int .i64 0, .int .i64 0, .int .u64 0, .int .i64 0, .int .u64 0, .int .i64 0, .int .u64 0, .int .i64 0, .int .u64 0, .int .i64 0, .int .u64 0]) ?_ 1 _ rfl; refine blk_put (cs := #[.int .u64 0, .int .i64 0, .int .i64 0, .int .u64 0, .int .i64 0, .int .u64 0, .int .i64 0, .int .u64 0, .int .i64 0, .int .u64 0, .int .i64 0, .int .u64 0]) ?_ 0 _ rfl; exact blk_drewN B4.out _) Try.underlying44 rfl (by kernel_rfl)) rfl ?_
        exact ⟨rfl, by repeat (with_reducible first | exact HB.out | apply pw_below_drewN | refine below_set ?_ G4.out)⟩
      · skip
        go_wp2_with (first | (go_at_call 31; (with_reducible refine (root_Put.calls k a0 (wrap64 mu0) (wrap64 mu1) mu2 (wrap64 mu3) mu4 (wrap64 mu5) mu6 (wrap64 mu7) mu8 (wrap64 mu9) mu10 b _ HPUT.out).mono ?_); rintro e w7 ⟨v7, rfl, ho_, hb_⟩; have n0_ := Aside0.mk (blk_below B8.out hb_); have n1_ := Aside0.mk (blk_below B4.out hb_); have n2_ := Aside0.mk (below_step HB.out hb_); clear B8 B4 HB; have B8 := n0_; have B4 := n1_; have HB := n2_; clear n0_ n1_ n2_; obtain ⟨A9, c9, e9, hc9, hC9⟩ := Kd.R_reads ho_; subst e9; have HC9 := Aside0.mk hC9; have HD9 := Aside0.mk hc9; clear hb_ ho_ hC9 hc9; have zz0 := (blk_cell B8.out 0).trans rfl; have zf0 := blk_frozen B8.out 0; have zz1 := (blk_cell B8.out 1).trans rfl; have zf1 := blk_frozen B8.out 1; have zz2 := (blk_cell B8.out 2).trans rfl; have zf2 := blk_frozen B8.out 2; have zz3 := (blk_cell B8.out 3).trans rfl; have zf3 := blk_frozen B8.out 3; have zz4 := (blk_cell B8.out 4).trans rfl; have zf4 := blk_frozen B8.out 4; have zz5 := (blk_cell B8.out 5).trans rfl; have zf5 := blk_frozen B8.out 5; have zz6 := (blk_cell B8.out 6).trans rfl; have zf6 := blk_frozen B8.out 6; have zz7 := (blk_cell B8.out 7).trans rfl; have zf7 := blk_frozen B8.out 7; have zz8 := (blk_cell B8.out 8).trans rfl; have zf8 := blk_frozen B8.out 8; have zz9 := (blk_cell B8.out 9).trans rfl; have zf9 := blk_frozen B8.out 9; have zz10 := (blk_cell B8.out 10).trans rfl; have zf10 := blk_frozen B8.out 10; have zz11 := (blk_cell B8.out 11).trans rfl; have zf11 := blk_frozen B8.out 11; have yz0 := (blk_cell B4.out 0).trans rfl; have yf0 := blk_frozen B4.out 0; have yz1 := (blk_cell B4.out 1).trans rfl; have yf1 := blk_frozen B4.out 1; have yz2 := (blk_cell B4.out 2).trans rfl; have yf2 := blk_frozen B4.out 2; have yz3 := (blk_cell B4.out 3).trans rfl; have yf3 := blk_frozen B4.out 3; have yz4 := (blk_cell B4.out 4).trans rfl; have yf4 := blk_frozen B4.out 4; have yz5 := (blk_cell B4.out 5).trans rfl; have yf5 := blk_frozen B4.out 5; have yz6 := (blk_cell B4.out 6).trans rfl; have yf6 := blk_frozen B4.out 6; have yz7 := (blk_cell B4.out 7).trans rfl; have yf7 := blk_frozen B4.out 7; have yz8 := (blk_cell B4.out 8).trans rfl; have yf8 := blk_frozen B4.out 8; have yz9 := (blk_cell B4.out 9).trans rfl; have yf9 := blk_frozen B4.out 9; have yz10 := (blk_cell B4.out 10).trans rfl; have yf10 := blk_frozen B4.out 10; have yz11 := (blk_cell B4.out 11).trans rfl; have yf11 := blk_frozen B4.out 11) | (go_at_call 49; (with_reducible refine (bytes_Equal.calls _ _ b _ _ l0 _ _ ?side1 ?side2 ?side3 ?side4 HEQ.out).mono ?_); (case side1 => exact HC9.out); (case side2 => exact HD9.out); (case side3 => exact Kd.C_below HR0.out HB.out); (case side4 => exact HC0.out); rintro e w8 ⟨rfl, ⟨nd, rfl⟩⟩))
        refine bodyPost_ret (results_ct rfl _ _ g4 44 #[.int .u64 a0, .int .i64 (wrap64 mu0), .int .i64 (wrap64 mu1), .int .u64 mu2, .int .i64 (wrap64 mu3), .int .u64 mu4, .int .i64 (wrap64 mu5), .int .u64 mu6, .int .i64 (wrap64 mu7), .int .u64 mu8, .int .i64 (wrap64 mu9), .int .u64 mu10] (0, 0) _ rfl (by refine blk_put (cs := #[.int .u64 a0, .int .i64 (wrap64 mu0), .int .i64 (wrap64 mu1), .int .u64 mu2, .int .i64 (wrap64 mu3), .int .u64 mu4, .int .i64 (wrap64 mu5), .int .u64 mu6, .int .i64 (wrap64 mu7), .int .u64 mu8, .int .i64 (wrap64 mu9), .int .u64 0]) ?_ 11 _ rfl; refine blk_put (cs := #[.int .u64 a0, .int .i64 (wrap64 mu0), .int .i64 (wrap64 mu1), .int .u64 mu2, .int .i64 (wrap64 mu3), .int .u64 mu4, .int .i64 (wrap64 mu5), .int .u64 mu6, .int .i64 (wrap64 mu7), .int .u64 mu8, .int .i64 0, .int .u64 0]) ?_ 10 _ rfl; refine blk_put (cs := #[.int .u64 a0, .int .i64 (wrap64 mu0), .int .i64 (wrap64 mu1), .int .u64 mu2, .int .i64 (wrap64 mu3), .int .u64 mu4, .int .i64 (wrap64 mu5), .int .u64 mu6, .int .i64 (wrap64 mu7), .int .u64 0, .int .i64 0, .int .u64 0]) ?_ 9 _ rfl; refine blk_put (cs := #[.int .u64 a0, .int .i64 (wrap64 mu0), .int .i64 (wrap64 mu1), .int .u64 mu2, .int .i64 (wrap64 mu3), .int .u64 mu4, .int .i64 (wrap64 mu5), .int .u64 mu6, .int .i64 0, .int .u64 0, .int .i64 0, .int .u64 0]) ?_ 8 _ rfl; refine blk_put (cs := #[.int .u64 a0, .int .i64 (wrap64 mu0), .int .i64 (wrap64 mu1), .int .u64 mu2, .int .i64 (wrap64 mu3), .int .u64 mu4, .int .i64 (wrap64 mu5), .int .u64 0, .int .i64 0, .int .u64 0, .int .i64 0, .int .u64 0]) ?_ 7 _ rfl; refine blk_put (cs := #[.int .u64 a0, .int .i64 (wrap64 mu0), .int .i64 (wrap64 mu1), .int .u64 mu2, .int .i64 (wrap64 mu3), .int .u64 mu4, .int .i64 0, .int .u64 0, .int .i64 0, .int .u64 0, .int .i64 0, .int .u64 0]) ?_ 6 _ rfl; refine blk_put (cs := #[.int .u64 a0, .int .i64 (wrap64 mu0), .int .i64 (wrap64 mu1), .int .u64 mu2, .int .i64 (wrap64 mu3), .int .u64 0, .int .i64 0, .int .u64 0, .int .i64 0, .int .u64 0, .int .i64 0, .int .u64 0]) ?_ 5 _ rfl; refine blk_put (cs := #[.int .u64 a0, .int .i64 (wrap64 mu0), .int .i64 (wrap64 mu1), .int .u64 mu2, .int .i64 0, .int .u64 0, .int .i64 0, .int .u64 0, .int .i64 0, .int .u64 0, .int .i64 0, .int .u64 0]) ?_ 4 _ rfl; refine blk_put (cs := #[.int .u64 a0, .int .i64 (wrap64 mu0), .int .i64 (wrap64 mu1), .int .u64 0, .int .i64 0, .int .u64 0, .int .i64 0, .int .u64 0, .int .i64 0, .int .u64 0, .int .i64 0, .int .u64 0]) ?_ 3 _ rfl; refine blk_put (cs := #[.int .u64 a0, .int .i64 (wrap64 mu0), .int .i64 0, .int .u64 0, .int .i64 0, .int .u64 0, .int .i64 0, .int .u64 0, .int .i64 0, .int .u64 0, .int .i64 0, .int .u64 0]) ?_ 2 _ rfl; refine blk_put (cs := #[.int .u64 a0, .int .i64 0, .int .i64 0, .int .u64 0, .int .i64 0, .int .u64 0, .int .i64 0, .int .u64 0, .int .i64 0, .int .u64 0, .int .i64 0, .int .u64 0]) ?_ 1 _ rfl; refine blk_put (cs := #[.int .u64 0, .int .i64 0, .int .i64 0, .int .u64 0, .int .i64 0, .int .u64 0, .int .i64 0, .int .u64 0, .int .i64 0, .int .u64 0, .int .i64 0, .int .u64 0]) ?_ 0 _ rfl; exact blk_drewN B4.out _) Try.underlying44 rfl (by kernel_rfl)) rfl ?_
        exact ⟨rfl, by repeat (with_reducible first | exact HB.out | apply pw_below_drewN | refine below_set ?_ G4.out)⟩
    | 1 =>
      obtain rfl : i = 4 := by have := HI.out; omega
      have n0_ : Aside0 (St w g3 (l0.drop 72) wr) := HS
      have B8 : Aside0 (wr.heap[g8]? = some (.cells #[.int .u64 a0, .int .i64 (wrap64 mu0), .int .i64 (wrap64 mu1), .int .u64 mu2, .int .i64 (wrap64 mu3), .int .u64 mu4, .int .i64 (wrap64 mu5), .int .u64 mu6, .int .i64 (wrap64 mu7), .int .u64 mu8, .int .i64 0, .int .u64 0] 44 (0, 0))) := B8r
      clear HS B8r
      have HS := n0_
      clear n0_
      have x4 : ∀ w : World, (Instr.indexAt 42 (.pointer (some ⟨g8, 2, none⟩)) (.int .i64 4)).run Try.prog w = .ok (.pointer (some ⟨g8, 10, none⟩)) w := fun _ => by kernel_rfl
      go_upto_region 10 with (first | (go_at_call 48; (with_reducible refine (next_at w _ g3 l0 72 80 mu9 (by decide) (by have := H88.out; omega) HS.out HU9.out).mono ?_); rintro e w5 ⟨rfl, hk, hs⟩; have n0_ := Aside0.mk (hk.blk B4.out N43.out (by simp)); have n1_ := Aside0.mk (hk.blk B8.out N83.out (by simp)); have ns_ := Aside0.mk hs; clear HS B4 B8; have HS := ns_; have B4 := n0_; have B8 := n1_; clear ns_ n0_ n1_ hk hs) | (go_at_call 48; (with_reducible refine (next_at w _ g3 l0 80 88 mu10 (by decide) (by have := H88.out; omega) HS.out HU10.out).mono ?_); rintro e w6 ⟨rfl, hk, hs⟩; have n0_ := Aside0.mk (hk.blk B4.out N43.out (by simp)); have n1_ := Aside0.mk (hk.blk B8.out N83.out (by simp)); have ns_ := Aside0.mk hs; clear HS B4 B8; have HS := ns_; have B4 := n0_; have B8 := n1_; clear ns_ n0_ n1_ hk hs; have zz0 := (blk_cell B8.out 0).trans rfl; have zf0 := blk_frozen B8.out 0; have zz1 := (blk_cell B8.out 1).trans rfl; have zf1 := blk_frozen B8.out 1; have zz2 := (blk_cell B8.out 2).trans rfl; have zf2 := blk_frozen B8.out 2; have zz3 := (blk_cell B8.out 3).trans rfl; have zf3 := blk_frozen B8.out 3; have zz4 := (blk_cell B8.out 4).trans rfl; have zf4 := blk_frozen B8.out 4; have zz5 := (blk_cell B8.out 5).trans rfl; have zf5 := blk_frozen B8.out 5; have zz6 := (blk_cell B8.out 6).trans rfl; have zf6 := blk_frozen B8.out 6; have zz7 := (blk_cell B8.out 7).trans rfl; have zf7 := blk_frozen B8.out 7; have zz8 := (blk_cell B8.out 8).trans rfl; have zf8 := blk_frozen B8.out 8; have zz9 := (blk_cell B8.out 9).trans rfl; have zf9 := blk_frozen B8.out 9; have zz10 := (blk_cell B8.out 10).trans rfl; have zf10 := blk_frozen B8.out 10; have zz11 := (blk_cell B8.out 11).trans rfl; have zf11 := blk_frozen B8.out 11))
      clear zz0 zf0 zz1 zf1 zz2 zf2 zz3 zf3 zz4 zf4 zz5 zf5 zz6 zf6 zz7 zf7 zz8 zf8 zz9 zf9 zz10 zf10 zz11 zf11
      have n0_ := Aside0.mk (show ((w6.setCell ⟨g8, 10, none⟩ (.int .i64 (wrap64 mu9))).setCell ⟨g8, 11, none⟩ (.int .u64 mu10)).heap[g8]? = some (.cells #[.int .u64 a0, .int .i64 (wrap64 mu0), .int .i64 (wrap64 mu1), .int .u64 mu2, .int .i64 (wrap64 mu3), .int .u64 mu4, .int .i64 (wrap64 mu5), .int .u64 mu6, .int .i64 (wrap64 mu7), .int .u64 mu8, .int .i64 (wrap64 mu9), .int .u64 mu10] 44 (0, 0)) by refine blk_put (cs := #[.int .u64 a0, .int .i64 (wrap64 mu0), .int .i64 (wrap64 mu1), .int .u64 mu2, .int .i64 (wrap64 mu3), .int .u64 mu4, .int .i64 (wrap64 mu5), .int .u64 mu6, .int .i64 (wrap64 mu7), .int .u64 mu8, .int .i64 (wrap64 mu9), .int .u64 0]) ?_ 11 _ rfl; refine blk_put (cs := #[.int .u64 a0, .int .i64 (wrap64 mu0), .int .i64 (wrap64 mu1), .int .u64 mu2, .int .i64 (wrap64 mu3), .int .u64 mu4, .int .i64 (wrap64 mu5), .int .u64 mu6, .int .i64 (wrap64 mu7), .int .u64 mu8, .int .i64 0, .int .u64 0]) ?_ 10 _ rfl; exact B8.out)
      have n1_ := Aside0.mk (show ((w6.setCell ⟨g8, 10, none⟩ (.int .i64 (wrap64 mu9))).setCell ⟨g8, 11, none⟩ (.int .u64 mu10)).heap[g4]? = some (.cells #[.int .u64 0, .int .i64 0, .int .i64 0, .int .u64 0, .int .i64 0, .int .u64 0, .int .i64 0, .int .u64 0, .int .i64 0, .int .u64 0, .int .i64 0, .int .u64 0] 44 (0, 0)) by refine blk_far ?_ N48.out _; refine blk_far ?_ N48.out _; exact B4.out)
      have n2_ := Aside0.mk (show St w g3 _ ((w6.setCell ⟨g8, 10, none⟩ (.int .i64 (wrap64 mu9))).setCell ⟨g8, 11, none⟩ (.int .u64 mu10)) from St_set (St_set (HS.out) N38.out G8.out _ _) N38.out G8.out _ _)
      clear B8 B4 HS
      have B8 := n0_
      have B4 := n1_
      have HS := n2_
      clear n0_ n1_ n2_
      go_wp2_with (fail)
      go_roundg 0
      case measure => omega
      case rel => exact ⟨5, (by first | rfl | kernel_rfl), ⟨by have := HI.out; omega⟩, ⟨by decide⟩, HS, B4, B8⟩
    | 2 =>
      obtain rfl : i = 3 := by have := HI.out; omega
      have n0_ : Aside0 (St w g3 (l0.drop 56) wr) := HS
      have B8 : Aside0 (wr.heap[g8]? = some (.cells #[.int .u64 a0, .int .i64 (wrap64 mu0), .int .i64 (wrap64 mu1), .int .u64 mu2, .int .i64 (wrap64 mu3), .int .u64 mu4, .int .i64 (wrap64 mu5), .int .u64 mu6, .int .i64 0, .int .u64 0, .int .i64 0, .int .u64 0] 44 (0, 0))) := B8r
      clear HS B8r
      have HS := n0_
      clear n0_
      have x3 : ∀ w : World, (Instr.indexAt 42 (.pointer (some ⟨g8, 2, none⟩)) (.int .i64 3)).run Try.prog w = .ok (.pointer (some ⟨g8, 8, none⟩)) w := fun _ => by kernel_rfl
      go_upto_region 10 with (first | (go_at_call 48; (with_reducible refine (next_at w _ g3 l0 56 64 mu7 (by decide) (by have := H88.out; omega) HS.out HU7.out).mono ?_); rintro e w5 ⟨rfl, hk, hs⟩; have n0_ := Aside0.mk (hk.blk B4.out N43.out (by simp)); have n1_ := Aside0.mk (hk.blk B8.out N83.out (by simp)); have ns_ := Aside0.mk hs; clear HS B4 B8; have HS := ns_; have B4 := n0_; have B8 := n1_; clear ns_ n0_ n1_ hk hs) | (go_at_call 48; (with_reducible refine (next_at w _ g3 l0 64 72 mu8 (by decide) (by have := H88.out; omega) HS.out HU8.out).mono ?_); rintro e w6 ⟨rfl, hk, hs⟩; have n0_ := Aside0.mk (hk.blk B4.out N43.out (by simp)); have n1_ := Aside0.mk (hk.blk B8.out N83.out (by simp)); have ns_ := Aside0.mk hs; clear HS B4 B8; have HS := ns_; have B4 := n0_; have B8 := n1_; clear ns_ n0_ n1_ hk hs; have zz0 := (blk_cell B8.out 0).trans rfl; have zf0 := blk_frozen B8.out 0; have zz1 := (blk_cell B8.out 1).trans rfl; have zf1 := blk_frozen B8.out 1; have zz2 := (blk_cell B8.out 2).trans rfl; have zf2 := blk_frozen B8.out 2; have zz3 := (blk_cell B8.out 3).trans rfl; have zf3 := blk_frozen B8.out 3; have zz4 := (blk_cell B8.out 4).trans rfl; have zf4 := blk_frozen B8.out 4; have zz5 := (blk_cell B8.out 5).trans rfl; have zf5 := blk_frozen B8.out 5; have zz6 := (blk_cell B8.out 6).trans rfl; have zf6 := blk_frozen B8.out 6; have zz7 := (blk_cell B8.out 7).trans rfl; have zf7 := blk_frozen B8.out 7; have zz8 := (blk_cell B8.out 8).trans rfl; have zf8 := blk_frozen B8.out 8; have zz9 := (blk_cell B8.out 9).trans rfl; have zf9 := blk_frozen B8.out 9; have zz10 := (blk_cell B8.out 10).trans rfl; have zf10 := blk_frozen B8.out 10; have zz11 := (blk_cell B8.out 11).trans rfl; have zf11 := blk_frozen B8.out 11))
      clear zz0 zf0 zz1 zf1 zz2 zf2 zz3 zf3 zz4 zf4 zz5 zf5 zz6 zf6 zz7 zf7 zz8 zf8 zz9 zf9 zz10 zf10 zz11 zf11
      have n0_ := Aside0.mk (show ((w6.setCell ⟨g8, 8, none⟩ (.int .i64 (wrap64 mu7))).setCell ⟨g8, 9, none⟩ (.int .u64 mu8)).heap[g8]? = some (.cells #[.int .u64 a0, .int .i64 (wrap64 mu0), .int .i64 (wrap64 mu1), .int .u64 mu2, .int .i64 (wrap64 mu3), .int .u64 mu4, .int .i64 (wrap64 mu5), .int .u64 mu6, .int .i64 (wrap64 mu7), .int .u64 mu8, .int .i64 0, .int .u64 0] 44 (0, 0)) by refine blk_put (cs := #[.int .u64 a0, .int .i64 (wrap64 mu0), .int .i64 (wrap64 mu1), .int .u64 mu2, .int .i64 (wrap64 mu3), .int .u64 mu4, .int .i64 (wrap64 mu5), .int .u64 mu6, .int .i64 (wrap64 mu7), .int .u64 0, .int .i64 0, .int .u64 0]) ?_ 9 _ rfl; refine blk_put (cs := #[.int .u64 a0, .int .i64 (wrap64 mu0), .int .i64 (wrap64 mu1), .int .u64 mu2, .int .i64 (wrap64 mu3), .int .u64 mu4, .int .i64 (wrap64 mu5), .int .u64 mu6, .int .i64 0, .int .u64 0, .int .i64 0, .int .u64 0]) ?_ 8 _ rfl; exact B8.out)
      have n1_ := Aside0.mk (show ((w6.setCell ⟨g8, 8, none⟩ (.int .i64 (wrap64 mu7))).setCell ⟨g8, 9, none⟩ (.int .u64 mu8)).heap[g4]? = some (.cells #[.int .u64 0, .int .i64 0, .int .i64 0, .int .u64 0, .int .i64 0, .int .u64 0, .int .i64 0, .int .u64 0, .int .i64 0, .int .u64 0, .int .i64 0, .int .u64 0] 44 (0, 0)) by refine blk_far ?_ N48.out _; refine blk_far ?_ N48.out _; exact B4.out)
      have n2_ := Aside0.mk (show St w g3 _ ((w6.setCell ⟨g8, 8, none⟩ (.int .i64 (wrap64 mu7))).setCell ⟨g8, 9, none⟩ (.int .u64 mu8)) from St_set (St_set (HS.out) N38.out G8.out _ _) N38.out G8.out _ _)
      clear B8 B4 HS
      have B8 := n0_
      have B4 := n1_
      have HS := n2_
      clear n0_ n1_ n2_
      go_wp2_with (fail)
      go_roundg 1
      case measure => omega
      case rel => exact ⟨4, (by first | rfl | kernel_rfl), ⟨by have := HI.out; omega⟩, ⟨by decide⟩, HS, B4, B8⟩
    | 3 =>
      obtain rfl : i = 2 := by have := HI.out; omega
      have n0_ : Aside0 (St w g3 (l0.drop 40) wr) := HS
      have B8 : Aside0 (wr.heap[g8]? = some (.cells #[.int .u64 a0, .int .i64 (wrap64 mu0), .int .i64 (wrap64 mu1), .int .u64 mu2, .int .i64 (wrap64 mu3), .int .u64 mu4, .int .i64 0, .int .u64 0, .int .i64 0, .int .u64 0, .int .i64 0, .int .u64 0] 44 (0, 0))) := B8r
      clear HS B8r
      have HS := n0_
      clear n0_
      have x2 : ∀ w : World, (Instr.indexAt 42 (.pointer (some ⟨g8, 2, none⟩)) (.int .i64 2)).run Try.prog w = .ok (.pointer (some ⟨g8, 6, none⟩)) w := fun _ => by kernel_rfl
      go_upto_region 10 with (first | (go_at_call 48; (with_reducible refine (next_at w _ g3 l0 40 48 mu5 (by decide) (by have := H88.out; omega) HS.out HU5.out).mono ?_); rintro e w5 ⟨rfl, hk, hs⟩; have n0_ := Aside0.mk (hk.blk B4.out N43.out (by simp)); have n1_ := Aside0.mk (hk.blk B8.out N83.out (by simp)); have ns_ := Aside0.mk hs; clear HS B4 B8; have HS := ns_; have B4 := n0_; have B8 := n1_; clear ns_ n0_ n1_ hk hs) | (go_at_call 48; (with_reducible refine (next_at w _ g3 l0 48 56 mu6 (by decide) (by have := H88.out; omega) HS.out HU6.out).mono ?_); rintro e w6 ⟨rfl, hk, hs⟩; have n0_ := Aside0.mk (hk.blk B4.out N43.out (by simp)); have n1_ := Aside0.mk (hk.blk B8.out N83.out (by simp)); have ns_ := Aside0.mk hs; clear HS B4 B8; have HS := ns_; have B4 := n0_; have B8 := n1_; clear ns_ n0_ n1_ hk hs; have zz0 := (blk_cell B8.out 0).trans rfl; have zf0 := blk_frozen B8.out 0; have zz1 := (blk_cell B8.out 1).trans rfl; have zf1 := blk_frozen B8.out 1; have zz2 := (blk_cell B8.out 2).trans rfl; have zf2 := blk_frozen B8.out 2; have zz3 := (blk_cell B8.out 3).trans rfl; have zf3 := blk_frozen B8.out 3; have zz4 := (blk_cell B8.out 4).trans rfl; have zf4 := blk_frozen B8.out 4; have zz5 := (blk_cell B8.out 5).trans rfl; have zf5 := blk_frozen B8.out 5; have zz6 := (blk_cell B8.out 6).trans rfl; have zf6 := blk_frozen B8.out 6; have zz7 := (blk_cell B8.out 7).trans rfl; have zf7 := blk_frozen B8.out 7; have zz8 := (blk_cell B8.out 8).trans rfl; have zf8 := blk_frozen B8.out 8; have zz9 := (blk_cell B8.out 9).trans rfl; have zf9 := blk_frozen B8.out 9; have zz10 := (blk_cell B8.out 10).trans rfl; have zf10 := blk_frozen B8.out 10; have zz11 := (blk_cell B8.out 11).trans rfl; have zf11 := blk_frozen B8.out 11))
      clear zz0 zf0 zz1 zf1 zz2 zf2 zz3 zf3 zz4 zf4 zz5 zf5 zz6 zf6 zz7 zf7 zz8 zf8 zz9 zf9 zz10 zf10 zz11 zf11
      have n0_ := Aside0.mk (show ((w6.setCell ⟨g8, 6, none⟩ (.int .i64 (wrap64 mu5))).setCell ⟨g8, 7, none⟩ (.int .u64 mu6)).heap[g8]? = some (.cells #[.int .u64 a0, .int .i64 (wrap64 mu0), .int .i64 (wrap64 mu1), .int .u64 mu2, .int .i64 (wrap64 mu3), .int .u64 mu4, .int .i64 (wrap64 mu5), .int .u64 mu6, .int .i64 0, .int .u64 0, .int .i64 0, .int .u64 0] 44 (0, 0)) by refine blk_put (cs := #[.int .u64 a0, .int .i64 (wrap64 mu0), .int .i64 (wrap64 mu1), .int .u64 mu2, .int .i64 (wrap64 mu3), .int .u64 mu4, .int .i64 (wrap64 mu5), .int .u64 0, .int .i64 0, .int .u64 0, .int .i64 0, .int .u64 0]) ?_ 7 _ rfl; refine blk_put (cs := #[.int .u64 a0, .int .i64 (wrap64 mu0), .int .i64 (wrap64 mu1), .int .u64 mu2, .int .i64 (wrap64 mu3), .int .u64 mu4, .int .i64 0, .int .u64 0, .int .i64 0, .int .u64 0, .int .i64 0, .int .u64 0]) ?_ 6 _ rfl; exact B8.out)
      have n1_ := Aside0.mk (show ((w6.setCell ⟨g8, 6, none⟩ (.int .i64 (wrap64 mu5))).setCell ⟨g8, 7, none⟩ (.int .u64 mu6)).heap[g4]? = some (.cells #[.int .u64 0, .int .i64 0, .int .i64 0, .int .u64 0, .int .i64 0, .int .u64 0, .int .i64 0, .int .u64 0, .int .i64 0, .int .u64 0, .int .i64 0, .int .u64 0] 44 (0, 0)) by refine blk_far ?_ N48.out _; refine blk_far ?_ N48.out _; exact B4.out)
      have n2_ := Aside0.mk (show St w g3 _ ((w6.setCell ⟨g8, 6, none⟩ (.int .i64 (wrap64 mu5))).setCell ⟨g8, 7, none⟩ (.int .u64 mu6)) from St_set (St_set (HS.out) N38.out G8.out _ _) N38.out G8.out _ _)
      clear B8 B4 HS
      have B8 := n0_
      have B4 := n1_
      have HS := n2_
      clear n0_ n1_ n2_
      go_wp2_with (fail)
      go_roundg 2
      case measure => omega
      case rel => exact ⟨3, (by first | rfl | kernel_rfl), ⟨by have := HI.out; omega⟩, ⟨by decide⟩, HS, B4, B8⟩
    | 4 =>
      obtain rfl : i = 1 := by have := HI.out; omega
      have n0_ : Aside0 (St w g3 (l0.drop 24) wr) := HS
      have B8 : Aside0 (wr.heap[g8]? = some (.cells #[.int .u64 a0, .int .i64 (wrap64 mu0), .int .i64 (wrap64 mu1), .int .u64 mu2, .int .i64 0, .int .u64 0, .int .i64 0, .int .u64 0, .int .i64 0, .int .u64 0, .int .i64 0, .int .u64 0] 44 (0, 0))) := B8r
      clear HS B8r
      have HS := n0_
      clear n0_
      have x1 : ∀ w : World, (Instr.indexAt 42 (.pointer (some ⟨g8, 2, none⟩)) (.int .i64 1)).run Try.prog w = .ok (.pointer (some ⟨g8, 4, none⟩)) w := fun _ => by kernel_rfl
      go_upto_region 10 with (first | (go_at_call 48; (with_reducible refine (next_at w _ g3 l0 24 32 mu3 (by decide) (by have := H88.out; omega) HS.out HU3.out).mono ?_); rintro e w5 ⟨rfl, hk, hs⟩; have n0_ := Aside0.mk (hk.blk B4.out N43.out (by simp)); have n1_ := Aside0.mk (hk.blk B8.out N83.out (by simp)); have ns_ := Aside0.mk hs; clear HS B4 B8; have HS := ns_; have B4 := n0_; have B8 := n1_; clear ns_ n0_ n1_ hk hs) | (go_at_call 48; (with_reducible refine (next_at w _ g3 l0 32 40 mu4 (by decide) (by have := H88.out; omega) HS.out HU4.out).mono ?_); rintro e w6 ⟨rfl, hk, hs⟩; have n0_ := Aside0.mk (hk.blk B4.out N43.out (by simp)); have n1_ := Aside0.mk (hk.blk B8.out N83.out (by simp)); have ns_ := Aside0.mk hs; clear HS B4 B8; have HS := ns_; have B4 := n0_; have B8 := n1_; clear ns_ n0_ n1_ hk hs; have zz0 := (blk_cell B8.out 0).trans rfl; have zf0 := blk_frozen B8.out 0; have zz1 := (blk_cell B8.out 1).trans rfl; have zf1 := blk_frozen B8.out 1; have zz2 := (blk_cell B8.out 2).trans rfl; have zf2 := blk_frozen B8.out 2; have zz3 := (blk_cell B8.out 3).trans rfl; have zf3 := blk_frozen B8.out 3; have zz4 := (blk_cell B8.out 4).trans rfl; have zf4 := blk_frozen B8.out 4; have zz5 := (blk_cell B8.out 5).trans rfl; have zf5 := blk_frozen B8.out 5; have zz6 := (blk_cell B8.out 6).trans rfl; have zf6 := blk_frozen B8.out 6; have zz7 := (blk_cell B8.out 7).trans rfl; have zf7 := blk_frozen B8.out 7; have zz8 := (blk_cell B8.out 8).trans rfl; have zf8 := blk_frozen B8.out 8; have zz9 := (blk_cell B8.out 9).trans rfl; have zf9 := blk_frozen B8.out 9; have zz10 := (blk_cell B8.out 10).trans rfl; have zf10 := blk_frozen B8.out 10; have zz11 := (blk_cell B8.out 11).trans rfl; have zf11 := blk_frozen B8.out 11))
      clear zz0 zf0 zz1 zf1 zz2 zf2 zz3 zf3 zz4 zf4 zz5 zf5 zz6 zf6 zz7 zf7 zz8 zf8 zz9 zf9 zz10 zf10 zz11 zf11
      have n0_ := Aside0.mk (show ((w6.setCell ⟨g8, 4, none⟩ (.int .i64 (wrap64 mu3))).setCell ⟨g8, 5, none⟩ (.int .u64 mu4)).heap[g8]? = some (.cells #[.int .u64 a0, .int .i64 (wrap64 mu0), .int .i64 (wrap64 mu1), .int .u64 mu2, .int .i64 (wrap64 mu3), .int .u64 mu4, .int .i64 0, .int .u64 0, .int .i64 0, .int .u64 0, .int .i64 0, .int .u64 0] 44 (0, 0)) by refine blk_put (cs := #[.int .u64 a0, .int .i64 (wrap64 mu0), .int .i64 (wrap64 mu1), .int .u64 mu2, .int .i64 (wrap64 mu3), .int .u64 0, .int .i64 0, .int .u64 0, .int .i64 0, .int .u64 0, .int .i64 0, .int .u64 0]) ?_ 5 _ rfl; refine blk_put (cs := #[.int .u64 a0, .int .i64 (wrap64 mu0), .int .i64 (wrap64 mu1), .int .u64 mu2, .int .i64 0, .int .u64 0, .int .i64 0, .int .u64 0, .int .i64 0, .int .u64 0, .int .i64 0, .int .u64 0]) ?_ 4 _ rfl; exact B8.out)
      have n1_ := Aside0.mk (show ((w6.setCell ⟨g8, 4, none⟩ (.int .i64 (wrap64 mu3))).setCell ⟨g8, 5, none⟩ (.int .u64 mu4)).heap[g4]? = some (.cells #[.int .u64 0, .int .i64 0, .int .i64 0, .int .u64 0, .int .i64 0, .int .u64 0, .int .i64 0, .int .u64 0, .int .i64 0, .int .u64 0, .int .i64 0, .int .u64 0] 44 (0, 0)) by refine blk_far ?_ N48.out _; refine blk_far ?_ N48.out _; exact B4.out)
      have n2_ := Aside0.mk (show St w g3 _ ((w6.setCell ⟨g8, 4, none⟩ (.int .i64 (wrap64 mu3))).setCell ⟨g8, 5, none⟩ (.int .u64 mu4)) from St_set (St_set (HS.out) N38.out G8.out _ _) N38.out G8.out _ _)
      clear B8 B4 HS
      have B8 := n0_
      have B4 := n1_
      have HS := n2_
      clear n0_ n1_ n2_
      go_wp2_with (fail)
      go_roundg 3
      case measure => omega
      case rel => exact ⟨2, (by first | rfl | kernel_rfl), ⟨by have := HI.out; omega⟩, ⟨by decide⟩, HS, B4, B8⟩
    | 5 =>
      obtain rfl : i = 0 := by have := HI.out; omega
      have n0_ : Aside0 (St w g3 (l0.drop 8) wr) := HS
      have B8 : Aside0 (wr.heap[g8]? = some (.cells #[.int .u64 a0, .int .i64 (wrap64 mu0), .int .i64 0, .int .u64 0, .int .i64 0, .int .u64 0, .int .i64 0, .int .u64 0, .int .i64 0, .int .u64 0, .int .i64 0, .int .u64 0] 44 (0, 0))) := B8r
      clear HS B8r
      have HS := n0_
      clear n0_
      have x0 : ∀ w : World, (Instr.indexAt 42 (.pointer (some ⟨g8, 2, none⟩)) (.int .i64 0)).run Try.prog w = .ok (.pointer (some ⟨g8, 2, none⟩)) w := fun _ => by kernel_rfl
      go_upto_region 10 with (first | (go_at_call 48; (with_reducible refine (next_at w _ g3 l0 8 16 mu1 (by decide) (by have := H88.out; omega) HS.out HU1.out).mono ?_); rintro e w5 ⟨rfl, hk, hs⟩; have n0_ := Aside0.mk (hk.blk B4.out N43.out (by simp)); have n1_ := Aside0.mk (hk.blk B8.out N83.out (by simp)); have ns_ := Aside0.mk hs; clear HS B4 B8; have HS := ns_; have B4 := n0_; have B8 := n1_; clear ns_ n0_ n1_ hk hs) | (go_at_call 48; (with_reducible refine (next_at w _ g3 l0 16 24 mu2 (by decide) (by have := H88.out; omega) HS.out HU2.out).mono ?_); rintro e w6 ⟨rfl, hk, hs⟩; have n0_ := Aside0.mk (hk.blk B4.out N43.out (by simp)); have n1_ := Aside0.mk (hk.blk B8.out N83.out (by simp)); have ns_ := Aside0.mk hs; clear HS B4 B8; have HS := ns_; have B4 := n0_; have B8 := n1_; clear ns_ n0_ n1_ hk hs; have zz0 := (blk_cell B8.out 0).trans rfl; have zf0 := blk_frozen B8.out 0; have zz1 := (blk_cell B8.out 1).trans rfl; have zf1 := blk_frozen B8.out 1; have zz2 := (blk_cell B8.out 2).trans rfl; have zf2 := blk_frozen B8.out 2; have zz3 := (blk_cell B8.out 3).trans rfl; have zf3 := blk_frozen B8.out 3; have zz4 := (blk_cell B8.out 4).trans rfl; have zf4 := blk_frozen B8.out 4; have zz5 := (blk_cell B8.out 5).trans rfl; have zf5 := blk_frozen B8.out 5; have zz6 := (blk_cell B8.out 6).trans rfl; have zf6 := blk_frozen B8.out 6; have zz7 := (blk_cell B8.out 7).trans rfl; have zf7 := blk_frozen B8.out 7; have zz8 := (blk_cell B8.out 8).trans rfl; have zf8 := blk_frozen B8.out 8; have zz9 := (blk_cell B8.out 9).trans rfl; have zf9 := blk_frozen B8.out 9; have zz10 := (blk_cell B8.out 10).trans rfl; have zf10 := blk_frozen B8.out 10; have zz11 := (blk_cell B8.out 11).trans rfl; have zf11 := blk_frozen B8.out 11))
      clear zz0 zf0 zz1 zf1 zz2 zf2 zz3 zf3 zz4 zf4 zz5 zf5 zz6 zf6 zz7 zf7 zz8 zf8 zz9 zf9 zz10 zf10 zz11 zf11
      have n0_ := Aside0.mk (show ((w6.setCell ⟨g8, 2, none⟩ (.int .i64 (wrap64 mu1))).setCell ⟨g8, 3, none⟩ (.int .u64 mu2)).heap[g8]? = some (.cells #[.int .u64 a0, .int .i64 (wrap64 mu0), .int .i64 (wrap64 mu1), .int .u64 mu2, .int .i64 0, .int .u64 0, .int .i64 0, .int .u64 0, .int .i64 0, .int .u64 0, .int .i64 0, .int .u64 0] 44 (0, 0)) by refine blk_put (cs := #[.int .u64 a0, .int .i64 (wrap64 mu0), .int .i64 (wrap64 mu1), .int .u64 0, .int .i64 0, .int .u64 0, .int .i64 0, .int .u64 0, .int .i64 0, .int .u64 0, .int .i64 0, .int .u64 0]) ?_ 3 _ rfl; refine blk_put (cs := #[.int .u64 a0, .int .i64 (wrap64 mu0), .int .i64 0, .int .u64 0, .int .i64 0, .int .u64 0, .int .i64 0, .int .u64 0, .int .i64 0, .int .u64 0, .int .i64 0, .int .u64 0]) ?_ 2 _ rfl; exact B8.out)
      have n1_ := Aside0.mk (show ((w6.setCell ⟨g8, 2, none⟩ (.int .i64 (wrap64 mu1))).setCell ⟨g8, 3, none⟩ (.int .u64 mu2)).heap[g4]? = some (.cells #[.int .u64 0, .int .i64 0, .int .i64 0, .int .u64 0, .int .i64 0, .int .u64 0, .int .i64 0, .int .u64 0, .int .i64 0, .int .u64 0, .int .i64 0, .int .u64 0] 44 (0, 0)) by refine blk_far ?_ N48.out _; refine blk_far ?_ N48.out _; exact B4.out)
      have n2_ := Aside0.mk (show St w g3 _ ((w6.setCell ⟨g8, 2, none⟩ (.int .i64 (wrap64 mu1))).setCell ⟨g8, 3, none⟩ (.int .u64 mu2)) from St_set (St_set (HS.out) N38.out G8.out _ _) N38.out G8.out _ _)
      clear B8 B4 HS
      have B8 := n0_
      have B4 := n1_
      have HS := n2_
      clear n0_ n1_ n2_
      go_wp2_with (fail)
      go_roundg 4
      case measure => omega
      case rel => exact ⟨1, (by first | rfl | kernel_rfl), ⟨by have := HI.out; omega⟩, ⟨by decide⟩, HS, B4, B8⟩
    | n + 6 => exact absurd HI.out (by have := HI0.out; omega)
end Go.Proofs.Ytffdonpkmnngpaa.PRootAll
