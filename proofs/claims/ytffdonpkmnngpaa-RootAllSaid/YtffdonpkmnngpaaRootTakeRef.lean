/- pandectref6.TakeRoot: which bytes are a root, as the document reads them. Bound to this program. -/
import Derived.Test.YtffdonpkmnngpaaRootTake
namespace Go.Proofs.Ytffdonpkmnngpaa.PRootAll
open Go Go.RowKit Go.Proofs Go.Proofs.Ytffdonpkmnngpaa.RG Go.Proofs.Ytffdonpkmnngpaa.RP Go.Proofs.YtffdonpkmnngpaaW.PrintWords Go.Proofs.YtffdonpkmnngpaaW.PrintLast Go.Proofs.YtffdonpkmnngpaaW.PrintMore
set_option linter.unusedVariables false
set_option linter.unusedSimpArgs false
theorem num8 (k : Nat) (A : Option Addr) (c : Nat) (y : List Int) (u : Int) (w : World) (hl : y.length = 8) (hr : Kd.C (Kd.int .u8) w A 8 y) (hc : 8 ≤ c) (hu : pandectref2_Num.f k y = some u) :
    Calls Try.prog 47 #[.slice A 8 c] w fun e w' => e = .returned (.int .u64 u) ∧ Drawn0 w w' := by
  rw [← hl] at hr hc ⊢
  exact pandectref2_Num.calls k A c y u w hr hc hu
theorem head8 (w : World) (A0 : Option Addr) (c0 : Nat) (l0 : List Int) (hr0 : Kd.C (Kd.int .u8) w A0 l0.length l0) (hc0 : l0.length ≤ c0) (hn : 8 ≤ l0.length) :
    (∀ W : World, (Instr.slice 22 (.slice A0 l0.length c0) none (some (.int .i64 8)) none).run Try.prog W = .ok (.slice A0 8 c0) W) ∧ Kd.C (Kd.int .u8) w A0 8 (l0.take 8) := by
  obtain ⟨i0, hi0, _, hsz, _⟩ := info_parts info5
  obtain ⟨h1, h2, h3⟩ := print_take_of (P := Try.prog) (Value.int .u8) 0 22 5 .i64 Try.underlying22 hi0 hsz A0 c0 l0 8 (by omega) (by omega) hc0
  have e : (l0.take (8 : Int).toNat).length = 8 := by rw [List.length_take]; simp; omega
  rw [e] at h1 h2
  exact ⟨h1, Kd.C_of_reads (d := (0 : Int)) (h1 := fun _ => rfl) (h2 w (Kd.reads_of_C hr0))⟩
/-- The sixteen bytes at n, and their halves. -/
theorem cuts (w : World) (A0 : Option Addr) (c0 : Nat) (l0 : List Int) (n : Nat) (i j : Int) (hr0 : Kd.C (Kd.int .u8) w A0 l0.length l0) (hc0 : l0.length ≤ c0) (hi : i = n) (hj : j = n + 16) (hn : n + 16 ≤ l0.length) :
    ∃ (A1 A3 : Option Addr), (∀ W : World, (Instr.slice 22 (.slice A0 l0.length c0) (some (.int .i64 i)) (some (.int .i64 j)) none).run Try.prog W = .ok (.slice A1 16 (c0 - n)) W) ∧
      (∀ W : World, (Instr.slice 22 (.slice A1 16 (c0 - n)) none (some (.int .i64 8)) none).run Try.prog W = .ok (.slice A1 8 (c0 - n)) W) ∧
      (∀ W : World, (Instr.slice 22 (.slice A1 16 (c0 - n)) (some (.int .i64 8)) none none).run Try.prog W = .ok (.slice A3 8 (c0 - n - 8)) W) ∧
      Kd.C (Kd.int .u8) w A1 8 ((l0.drop n).take 8) ∧ Kd.C (Kd.int .u8) w A3 8 ((l0.drop (n + 8)).take 8) ∧ 8 ≤ c0 - n ∧ 8 ≤ c0 - n - 8 := by
  obtain ⟨i0, hi0, _, hsz, _⟩ := info_parts info5
  obtain ⟨A1, h1, h2, h3⟩ := print_mid_of (P := Try.prog) (Value.int .u8) 0 22 5 .i64 .i64 Try.underlying22 hi0 hsz A0 c0 l0 i j (by omega) (by omega) (by omega) hc0
  have ei : i.toNat = n := by omega
  have ej : j.toNat = n + 16 := by omega
  rw [ei, ej] at h1 h2 h3
  have ey : (l0.take (n + 16)).drop n = (l0.drop n).take 16 := by rw [List.drop_take]; congr 1; omega
  rw [ey] at h1 h2 h3
  obtain ⟨y, hy⟩ : ∃ y, y = (l0.drop n).take 16 := ⟨_, rfl⟩
  have hyl : y.length = 16 := by rw [hy, List.length_take, List.length_drop]; omega
  rw [← hy] at h1 h2 h3
  have hcy : y.length ≤ c0 - n := h3
  obtain ⟨t1, t2, t3⟩ := print_take_of (P := Try.prog) (Value.int .u8) 0 22 5 .i64 Try.underlying22 hi0 hsz A1 (c0 - n) y 8 (by omega) (by omega) hcy
  obtain ⟨A3, d1, d2, d3⟩ := print_drop_of (P := Try.prog) (Value.int .u8) 0 22 5 .i64 Try.underlying22 hi0 hsz A1 (c0 - n) y 8 (by omega) (by omega) hcy
  have et : (y.take (8 : Int).toNat) = (l0.drop n).take 8 := by rw [hy, List.take_take]; simp
  have ed : (y.drop (8 : Int).toNat) = (l0.drop (n + 8)).take 8 := by rw [hy, List.drop_take, List.drop_drop]; simp
  rw [et] at t1 t2 t3
  rw [ed] at d1 d2 d3
  have lt : ((l0.drop n).take 8).length = 8 := by rw [List.length_take, List.length_drop]; omega
  have ld : ((l0.drop (n + 8)).take 8).length = 8 := by rw [List.length_take, List.length_drop]; omega
  rw [lt, hyl] at t1
  rw [ld, hyl] at d1
  rw [lt] at t2 t3
  rw [ld] at d2 d3
  have hR := h2 w (Kd.reads_of_C hr0)
  refine ⟨A1, A3, ?_, t1, d1, Kd.C_of_reads (d := (0 : Int)) (h1 := fun _ => rfl) (t2 w hR), Kd.C_of_reads (d := (0 : Int)) (h1 := fun _ => rfl) (d2 w hR), t3, d3⟩
  rw [hyl] at h1
  exact h1
set_option maxHeartbeats 8000000 in
set_option maxRecDepth 100000 in
theorem takeR_short (A0 : Option Addr) (c0 : Nat) (l0 : List Int) (a0 : Int) (w : World) (hr0 : Kd.C (Kd.int .u8) w A0 l0.length l0) (hc0 : l0.length ≤ c0) (h : l0.length ≠ 88) :
    Calls Try.prog 30 #[.int .u64 a0, .slice A0 l0.length c0] w fun e w' => e = .returned (.tuple #[.agg #[.int .u64 0, .int .i64 0, .int .i64 0, .int .u64 0, .int .i64 0, .int .u64 0, .int .i64 0, .int .u64 0, .int .i64 0, .int .u64 0, .int .i64 0, .int .u64 0], .int .i64 2]) ∧ Below w.heap.size w w' := by
  have hu44 := Try.underlying44
  have HB := Aside0.mk (Below.refl w.heap.size w)
  have b0 : ((l0.length : Int) != 88) = true := by simp; omega
  clear h hr0 hc0
  go_enter Try.func30, Try.ntmps30
  go_upto_region 1 with (first | ((with_reducible refine gate_dst (N := 4) rfl ?_); (try (refine gate_guard (by rfl) ?_; dsimp only)); refine box_event ?hg (N := 4) ?hd (cs := #[.int .u64 0, .int .i64 0, .int .i64 0, .int .u64 0, .int .i64 0, .int .u64 0, .int .i64 0, .int .u64 0, .int .i64 0, .int .u64 0, .int .i64 0, .int .u64 0]) (t := 44) ?hr ?_; (case hd => rfl); (case hg => rfl); (case hr => first | (go_simp; done) | (go_simp; rfl)); intro g4 hg w4 hbox hb; have B4 := Aside0.mk hbox; have G4 := Aside0.mk (show w.heap.size ≤ g4 by rw [hg]; exact Nat.le_refl _); clear HB; have HB := Aside0.mk hb; clear hg hbox hb))
  have yz0 := (blk_cell B4.out 0).trans rfl
  have yf0 := blk_frozen B4.out 0
  have yz1 := (blk_cell B4.out 1).trans rfl
  have yf1 := blk_frozen B4.out 1
  have yz2 := (blk_cell B4.out 2).trans rfl
  have yf2 := blk_frozen B4.out 2
  have yz3 := (blk_cell B4.out 3).trans rfl
  have yf3 := blk_frozen B4.out 3
  have yz4 := (blk_cell B4.out 4).trans rfl
  have yf4 := blk_frozen B4.out 4
  have yz5 := (blk_cell B4.out 5).trans rfl
  have yf5 := blk_frozen B4.out 5
  have yz6 := (blk_cell B4.out 6).trans rfl
  have yf6 := blk_frozen B4.out 6
  have yz7 := (blk_cell B4.out 7).trans rfl
  have yf7 := blk_frozen B4.out 7
  have yz8 := (blk_cell B4.out 8).trans rfl
  have yf8 := blk_frozen B4.out 8
  have yz9 := (blk_cell B4.out 9).trans rfl
  have yf9 := blk_frozen B4.out 9
  have yz10 := (blk_cell B4.out 10).trans rfl
  have yf10 := blk_frozen B4.out 10
  have yz11 := (blk_cell B4.out 11).trans rfl
  have yf11 := blk_frozen B4.out 11
  go_wp2_with (fail)
  refine bodyPost_ret (results_ct rfl _ _ g4 44 #[.int .u64 0, .int .i64 0, .int .i64 0, .int .u64 0, .int .i64 0, .int .u64 0, .int .i64 0, .int .u64 0, .int .i64 0, .int .u64 0, .int .i64 0, .int .u64 0] (0, 0) _ rfl (by refine blk_put (cs := #[.int .u64 0, .int .i64 0, .int .i64 0, .int .u64 0, .int .i64 0, .int .u64 0, .int .i64 0, .int .u64 0, .int .i64 0, .int .u64 0, .int .i64 0, .int .u64 0]) ?_ 11 _ rfl; refine blk_put (cs := #[.int .u64 0, .int .i64 0, .int .i64 0, .int .u64 0, .int .i64 0, .int .u64 0, .int .i64 0, .int .u64 0, .int .i64 0, .int .u64 0, .int .i64 0, .int .u64 0]) ?_ 10 _ rfl; refine blk_put (cs := #[.int .u64 0, .int .i64 0, .int .i64 0, .int .u64 0, .int .i64 0, .int .u64 0, .int .i64 0, .int .u64 0, .int .i64 0, .int .u64 0, .int .i64 0, .int .u64 0]) ?_ 9 _ rfl; refine blk_put (cs := #[.int .u64 0, .int .i64 0, .int .i64 0, .int .u64 0, .int .i64 0, .int .u64 0, .int .i64 0, .int .u64 0, .int .i64 0, .int .u64 0, .int .i64 0, .int .u64 0]) ?_ 8 _ rfl; refine blk_put (cs := #[.int .u64 0, .int .i64 0, .int .i64 0, .int .u64 0, .int .i64 0, .int .u64 0, .int .i64 0, .int .u64 0, .int .i64 0, .int .u64 0, .int .i64 0, .int .u64 0]) ?_ 7 _ rfl; refine blk_put (cs := #[.int .u64 0, .int .i64 0, .int .i64 0, .int .u64 0, .int .i64 0, .int .u64 0, .int .i64 0, .int .u64 0, .int .i64 0, .int .u64 0, .int .i64 0, .int .u64 0]) ?_ 6 _ rfl; refine blk_put (cs := #[.int .u64 0, .int .i64 0, .int .i64 0, .int .u64 0, .int .i64 0, .int .u64 0, .int .i64 0, .int .u64 0, .int .i64 0, .int .u64 0, .int .i64 0, .int .u64 0]) ?_ 5 _ rfl; refine blk_put (cs := #[.int .u64 0, .int .i64 0, .int .i64 0, .int .u64 0, .int .i64 0, .int .u64 0, .int .i64 0, .int .u64 0, .int .i64 0, .int .u64 0, .int .i64 0, .int .u64 0]) ?_ 4 _ rfl; refine blk_put (cs := #[.int .u64 0, .int .i64 0, .int .i64 0, .int .u64 0, .int .i64 0, .int .u64 0, .int .i64 0, .int .u64 0, .int .i64 0, .int .u64 0, .int .i64 0, .int .u64 0]) ?_ 3 _ rfl; refine blk_put (cs := #[.int .u64 0, .int .i64 0, .int .i64 0, .int .u64 0, .int .i64 0, .int .u64 0, .int .i64 0, .int .u64 0, .int .i64 0, .int .u64 0, .int .i64 0, .int .u64 0]) ?_ 2 _ rfl; refine blk_put (cs := #[.int .u64 0, .int .i64 0, .int .i64 0, .int .u64 0, .int .i64 0, .int .u64 0, .int .i64 0, .int .u64 0, .int .i64 0, .int .u64 0, .int .i64 0, .int .u64 0]) ?_ 1 _ rfl; refine blk_put (cs := #[.int .u64 0, .int .i64 0, .int .i64 0, .int .u64 0, .int .i64 0, .int .u64 0, .int .i64 0, .int .u64 0, .int .i64 0, .int .u64 0, .int .i64 0, .int .u64 0]) ?_ 0 _ rfl; exact B4.out) Try.underlying44 rfl (by kernel_rfl)) rfl ?_
  exact ⟨rfl, by repeat (with_reducible first | exact HB.out | refine below_set ?_ G4.out)⟩
set_option maxHeartbeats 8000000 in
set_option maxRecDepth 100000 in
theorem takeR_long (k : Nat) (A0 : Option Addr) (c0 : Nat) (l0 : List Int) (a0 : Int) (mu0 mu1 mu2 mu3 mu4 mu5 mu6 mu7 mu8 mu9 mu10 : Int) (b : List Int) (q : Bool) (w : World) (hr0 : Kd.C (Kd.int .u8) w A0 l0.length l0) (hc0 : l0.length ≤ c0) (h88 : l0.length = 88)
    (hu0 : pandectref2_Num.f k ((l0.drop 0).take 8) = some mu0) (hu1 : pandectref2_Num.f k ((l0.drop 8).take 8) = some mu1) (hu2 : pandectref2_Num.f k ((l0.drop 16).take 8) = some mu2) (hu3 : pandectref2_Num.f k ((l0.drop 24).take 8) = some mu3) (hu4 : pandectref2_Num.f k ((l0.drop 32).take 8) = some mu4) (hu5 : pandectref2_Num.f k ((l0.drop 40).take 8) = some mu5) (hu6 : pandectref2_Num.f k ((l0.drop 48).take 8) = some mu6) (hu7 : pandectref2_Num.f k ((l0.drop 56).take 8) = some mu7) (hu8 : pandectref2_Num.f k ((l0.drop 64).take 8) = some mu8) (hu9 : pandectref2_Num.f k ((l0.drop 72).take 8) = some mu9) (hu10 : pandectref2_Num.f k ((l0.drop 80).take 8) = some mu10) (hput : pandectref6_PutRoot.f k (wrap64 mu0) [(wrap64 mu1, mu2), (wrap64 mu3, mu4), (wrap64 mu5, mu6), (wrap64 mu7, mu8), (wrap64 mu9, mu10)] = some b) (hq : ((strOfNums b).toList == (strOfNums l0).toList) = q) :
    Calls Try.prog 30 #[.int .u64 a0, .slice A0 l0.length c0] w fun e w' => e = .returned (.tuple (if q = true then #[.agg #[.int .u64 a0, .int .i64 (wrap64 mu0), .int .i64 (wrap64 mu1), .int .u64 mu2, .int .i64 (wrap64 mu3), .int .u64 mu4, .int .i64 (wrap64 mu5), .int .u64 mu6, .int .i64 (wrap64 mu7), .int .u64 mu8, .int .i64 (wrap64 mu9), .int .u64 mu10], .int .i64 0] else #[.agg #[.int .u64 0, .int .i64 0, .int .i64 0, .int .u64 0, .int .i64 0, .int .u64 0, .int .i64 0, .int .u64 0, .int .i64 0, .int .u64 0, .int .i64 0, .int .u64 0], .int .i64 2])) ∧ Below w.heap.size w w' := by
  have hu44 := Try.underlying44
  have hu42 := Try.underlying42
  have hu41 := Try.underlying41
  have HB := Aside0.mk (Below.refl w.heap.size w)
  have HR0 := Aside0.mk hr0
  have HC0 := Aside0.mk hc0
  have H88 := Aside0.mk h88
  have HU0 := Aside0.mk hu0
  have HU1 := Aside0.mk hu1
  have HU2 := Aside0.mk hu2
  have HU3 := Aside0.mk hu3
  have HU4 := Aside0.mk hu4
  have HU5 := Aside0.mk hu5
  have HU6 := Aside0.mk hu6
  have HU7 := Aside0.mk hu7
  have HU8 := Aside0.mk hu8
  have HU9 := Aside0.mk hu9
  have HU10 := Aside0.mk hu10
  have HPUT := Aside0.mk hput
  have HQ := Aside0.mk hq
  have b0 : ((l0.length : Int) != 88) = false := by simp; omega
  obtain ⟨hh1, hh2⟩ := head8 w A0 c0 l0 hr0 hc0 (by omega)
  have HH := Aside0.mk hh2
  clear hr0 hc0 h88 hput hq hu0 hu1 hu2 hu3 hu4 hu5 hu6 hu7 hu8 hu9 hu10 hh2
  go_enter Try.func30, Try.ntmps30
  go_upto_region 1 with (first | ((with_reducible refine gate_dst (N := 4) rfl ?_); (try (refine gate_guard (by rfl) ?_; dsimp only)); refine box_event ?hg (N := 4) ?hd (cs := #[.int .u64 0, .int .i64 0, .int .i64 0, .int .u64 0, .int .i64 0, .int .u64 0, .int .i64 0, .int .u64 0, .int .i64 0, .int .u64 0, .int .i64 0, .int .u64 0]) (t := 44) ?hr ?_; (case hd => rfl); (case hg => rfl); (case hr => first | (go_simp; done) | (go_simp; rfl)); intro g4 hg w4 hbox hb; have B4 := Aside0.mk hbox; have G4 := Aside0.mk (show w.heap.size ≤ g4 by rw [hg]; exact Nat.le_refl _); clear HB; have HB := Aside0.mk hb; clear hg hbox hb))
  have yz0 := (blk_cell B4.out 0).trans rfl
  have yf0 := blk_frozen B4.out 0
  have yz1 := (blk_cell B4.out 1).trans rfl
  have yf1 := blk_frozen B4.out 1
  have yz2 := (blk_cell B4.out 2).trans rfl
  have yf2 := blk_frozen B4.out 2
  have yz3 := (blk_cell B4.out 3).trans rfl
  have yf3 := blk_frozen B4.out 3
  have yz4 := (blk_cell B4.out 4).trans rfl
  have yf4 := blk_frozen B4.out 4
  have yz5 := (blk_cell B4.out 5).trans rfl
  have yf5 := blk_frozen B4.out 5
  have yz6 := (blk_cell B4.out 6).trans rfl
  have yf6 := blk_frozen B4.out 6
  have yz7 := (blk_cell B4.out 7).trans rfl
  have yf7 := blk_frozen B4.out 7
  have yz8 := (blk_cell B4.out 8).trans rfl
  have yf8 := blk_frozen B4.out 8
  have yz9 := (blk_cell B4.out 9).trans rfl
  have yf9 := blk_frozen B4.out 9
  have yz10 := (blk_cell B4.out 10).trans rfl
  have yf10 := blk_frozen B4.out 10
  have yz11 := (blk_cell B4.out 11).trans rfl
  have yf11 := blk_frozen B4.out 11
  go_upto_region 4 with (first | (go_at_call 47; (refine (num8 k A0 c0 (l0.take 8) mu0 _ (by have := H88.out; rw [List.length_take]; omega) ?s1 (by have := HC0.out; have := H88.out; omega) HU0.out).mono ?_); (case s1 => exact Kd.C_below HH.out HB.out); rintro e w5 ⟨rfl, ⟨nd, rfl⟩⟩; have n0_ := Aside0.mk (blk_drewN B4.out nd); have n1_ := Aside0.mk (pw_below_drewN HB.out nd); clear B4 HB; have B4 := n0_; have HB := n1_; clear n0_ n1_) | ((with_reducible refine gate_dst (N := 6) rfl ?_); (try (refine gate_guard (by rfl) ?_; dsimp only)); refine box_event ?hg (N := 6) ?hd (cs := #[.int .u64 0, .int .i64 0, .int .i64 0, .int .u64 0, .int .i64 0, .int .u64 0, .int .i64 0, .int .u64 0, .int .i64 0, .int .u64 0, .int .i64 0, .int .u64 0]) (t := 44) ?hr ?_; (case hd => rfl); (case hg => rfl); (case hr => first | (go_simp; done) | (go_simp; rfl)); intro g6 hg w6 hbox hb; have B6 := Aside0.mk hbox; have G6 := Aside0.mk (show w.heap.size ≤ g6 by rw [hg]; exact HB.out.size); have N46 := Aside0.mk (show g4 ≠ g6 by rw [hg]; exact Nat.ne_of_lt (blk_lt B4.out)); have n0_ := Aside0.mk (blk_below B4.out hb); have n1_ := Aside0.mk (below_step HB.out hb); clear B4 HB; have B4 := n0_; have HB := n1_; clear n0_ n1_ hg hbox hb; have zz0 := (blk_cell B6.out 0).trans rfl; have zf0 := blk_frozen B6.out 0; have zz1 := (blk_cell B6.out 1).trans rfl; have zf1 := blk_frozen B6.out 1; have zz2 := (blk_cell B6.out 2).trans rfl; have zf2 := blk_frozen B6.out 2; have zz3 := (blk_cell B6.out 3).trans rfl; have zf3 := blk_frozen B6.out 3; have zz4 := (blk_cell B6.out 4).trans rfl; have zf4 := blk_frozen B6.out 4; have zz5 := (blk_cell B6.out 5).trans rfl; have zf5 := blk_frozen B6.out 5; have zz6 := (blk_cell B6.out 6).trans rfl; have zf6 := blk_frozen B6.out 6; have zz7 := (blk_cell B6.out 7).trans rfl; have zf7 := blk_frozen B6.out 7; have zz8 := (blk_cell B6.out 8).trans rfl; have zf8 := blk_frozen B6.out 8; have zz9 := (blk_cell B6.out 9).trans rfl; have zf9 := blk_frozen B6.out 9; have zz10 := (blk_cell B6.out 10).trans rfl; have zf10 := blk_frozen B6.out 10; have zz11 := (blk_cell B6.out 11).trans rfl; have zf11 := blk_frozen B6.out 11))
  clear zz0 zf0 zz1 zf1 zz2 zf2 zz3 zf3 zz4 zf4 zz5 zf5 zz6 zf6 zz7 zf7 zz8 zf8 zz9 zf9 zz10 zf10 zz11 zf11 yz0 yf0 yz1 yf1 yz2 yf2 yz3 yf3 yz4 yf4 yz5 yf5 yz6 yf6 yz7 yf7 yz8 yf8 yz9 yf9 yz10 yf10 yz11 yf11 hh1 b0
  have n0_ := Aside0.mk (show ((((((((((((w6.setCell ⟨g6, 0, none⟩ (.int .u64 a0)).setCell ⟨g6, 1, none⟩ (.int .i64 (wrap64 mu0))).setCell ⟨g6, 2, none⟩ (.int .i64 0)).setCell ⟨g6, 3, none⟩ (.int .u64 0)).setCell ⟨g6, 4, none⟩ (.int .i64 0)).setCell ⟨g6, 5, none⟩ (.int .u64 0)).setCell ⟨g6, 6, none⟩ (.int .i64 0)).setCell ⟨g6, 7, none⟩ (.int .u64 0)).setCell ⟨g6, 8, none⟩ (.int .i64 0)).setCell ⟨g6, 9, none⟩ (.int .u64 0)).setCell ⟨g6, 10, none⟩ (.int .i64 0)).setCell ⟨g6, 11, none⟩ (.int .u64 0)).heap[g6]? = some (.cells #[.int .u64 a0, .int .i64 (wrap64 mu0), .int .i64 0, .int .u64 0, .int .i64 0, .int .u64 0, .int .i64 0, .int .u64 0, .int .i64 0, .int .u64 0, .int .i64 0, .int .u64 0] 44 (0, 0)) by refine blk_put (cs := #[.int .u64 a0, .int .i64 (wrap64 mu0), .int .i64 0, .int .u64 0, .int .i64 0, .int .u64 0, .int .i64 0, .int .u64 0, .int .i64 0, .int .u64 0, .int .i64 0, .int .u64 0]) ?_ 11 _ rfl; refine blk_put (cs := #[.int .u64 a0, .int .i64 (wrap64 mu0), .int .i64 0, .int .u64 0, .int .i64 0, .int .u64 0, .int .i64 0, .int .u64 0, .int .i64 0, .int .u64 0, .int .i64 0, .int .u64 0]) ?_ 10 _ rfl; refine blk_put (cs := #[.int .u64 a0, .int .i64 (wrap64 mu0), .int .i64 0, .int .u64 0, .int .i64 0, .int .u64 0, .int .i64 0, .int .u64 0, .int .i64 0, .int .u64 0, .int .i64 0, .int .u64 0]) ?_ 9 _ rfl; refine blk_put (cs := #[.int .u64 a0, .int .i64 (wrap64 mu0), .int .i64 0, .int .u64 0, .int .i64 0, .int .u64 0, .int .i64 0, .int .u64 0, .int .i64 0, .int .u64 0, .int .i64 0, .int .u64 0]) ?_ 8 _ rfl; refine blk_put (cs := #[.int .u64 a0, .int .i64 (wrap64 mu0), .int .i64 0, .int .u64 0, .int .i64 0, .int .u64 0, .int .i64 0, .int .u64 0, .int .i64 0, .int .u64 0, .int .i64 0, .int .u64 0]) ?_ 7 _ rfl; refine blk_put (cs := #[.int .u64 a0, .int .i64 (wrap64 mu0), .int .i64 0, .int .u64 0, .int .i64 0, .int .u64 0, .int .i64 0, .int .u64 0, .int .i64 0, .int .u64 0, .int .i64 0, .int .u64 0]) ?_ 6 _ rfl; refine blk_put (cs := #[.int .u64 a0, .int .i64 (wrap64 mu0), .int .i64 0, .int .u64 0, .int .i64 0, .int .u64 0, .int .i64 0, .int .u64 0, .int .i64 0, .int .u64 0, .int .i64 0, .int .u64 0]) ?_ 5 _ rfl; refine blk_put (cs := #[.int .u64 a0, .int .i64 (wrap64 mu0), .int .i64 0, .int .u64 0, .int .i64 0, .int .u64 0, .int .i64 0, .int .u64 0, .int .i64 0, .int .u64 0, .int .i64 0, .int .u64 0]) ?_ 4 _ rfl; refine blk_put (cs := #[.int .u64 a0, .int .i64 (wrap64 mu0), .int .i64 0, .int .u64 0, .int .i64 0, .int .u64 0, .int .i64 0, .int .u64 0, .int .i64 0, .int .u64 0, .int .i64 0, .int .u64 0]) ?_ 3 _ rfl; refine blk_put (cs := #[.int .u64 a0, .int .i64 (wrap64 mu0), .int .i64 0, .int .u64 0, .int .i64 0, .int .u64 0, .int .i64 0, .int .u64 0, .int .i64 0, .int .u64 0, .int .i64 0, .int .u64 0]) ?_ 2 _ rfl; refine blk_put (cs := #[.int .u64 a0, .int .i64 0, .int .i64 0, .int .u64 0, .int .i64 0, .int .u64 0, .int .i64 0, .int .u64 0, .int .i64 0, .int .u64 0, .int .i64 0, .int .u64 0]) ?_ 1 _ rfl; refine blk_put (cs := #[.int .u64 0, .int .i64 0, .int .i64 0, .int .u64 0, .int .i64 0, .int .u64 0, .int .i64 0, .int .u64 0, .int .i64 0, .int .u64 0, .int .i64 0, .int .u64 0]) ?_ 0 _ rfl; exact B6.out)
  have n1_ := Aside0.mk (show ((((((((((((w6.setCell ⟨g6, 0, none⟩ (.int .u64 a0)).setCell ⟨g6, 1, none⟩ (.int .i64 (wrap64 mu0))).setCell ⟨g6, 2, none⟩ (.int .i64 0)).setCell ⟨g6, 3, none⟩ (.int .u64 0)).setCell ⟨g6, 4, none⟩ (.int .i64 0)).setCell ⟨g6, 5, none⟩ (.int .u64 0)).setCell ⟨g6, 6, none⟩ (.int .i64 0)).setCell ⟨g6, 7, none⟩ (.int .u64 0)).setCell ⟨g6, 8, none⟩ (.int .i64 0)).setCell ⟨g6, 9, none⟩ (.int .u64 0)).setCell ⟨g6, 10, none⟩ (.int .i64 0)).setCell ⟨g6, 11, none⟩ (.int .u64 0)).heap[g4]? = some (.cells #[.int .u64 0, .int .i64 0, .int .i64 0, .int .u64 0, .int .i64 0, .int .u64 0, .int .i64 0, .int .u64 0, .int .i64 0, .int .u64 0, .int .i64 0, .int .u64 0] 44 (0, 0)) by refine blk_far ?_ N46.out _; refine blk_far ?_ N46.out _; refine blk_far ?_ N46.out _; refine blk_far ?_ N46.out _; refine blk_far ?_ N46.out _; refine blk_far ?_ N46.out _; refine blk_far ?_ N46.out _; refine blk_far ?_ N46.out _; refine blk_far ?_ N46.out _; refine blk_far ?_ N46.out _; refine blk_far ?_ N46.out _; refine blk_far ?_ N46.out _; exact B4.out)
  have n2_ := Aside0.mk (show Below w.heap.size w ((((((((((((w6.setCell ⟨g6, 0, none⟩ (.int .u64 a0)).setCell ⟨g6, 1, none⟩ (.int .i64 (wrap64 mu0))).setCell ⟨g6, 2, none⟩ (.int .i64 0)).setCell ⟨g6, 3, none⟩ (.int .u64 0)).setCell ⟨g6, 4, none⟩ (.int .i64 0)).setCell ⟨g6, 5, none⟩ (.int .u64 0)).setCell ⟨g6, 6, none⟩ (.int .i64 0)).setCell ⟨g6, 7, none⟩ (.int .u64 0)).setCell ⟨g6, 8, none⟩ (.int .i64 0)).setCell ⟨g6, 9, none⟩ (.int .u64 0)).setCell ⟨g6, 10, none⟩ (.int .i64 0)).setCell ⟨g6, 11, none⟩ (.int .u64 0)) by repeat (with_reducible first | exact HB.out | refine below_set ?_ G6.out))
  clear B6 B4 HB
  have B6 := n0_
  have B4 := n1_
  have HB := n2_
  clear n0_ n1_ n2_
  go_wp2_with (fail)
  go_loopg [7] 5 (fun kq v7 w' => ∃ i : Int, v7 = .int .i64 i ∧ Aside0 (i + (kq : Int) = 5) ∧ Aside0 (0 ≤ i) ∧ Aside0 (Below w.heap.size w w') ∧ Aside0 (w'.heap[g4]? = some (.cells #[.int .u64 0, .int .i64 0, .int .i64 0, .int .u64 0, .int .i64 0, .int .u64 0, .int .i64 0, .int .u64 0, .int .i64 0, .int .u64 0, .int .i64 0, .int .u64 0] 44 (0, 0))) ∧ Aside0 (w'.heap[g6]? = some (.cells (([.int .u64 a0, .int .i64 (wrap64 mu0), .int .i64 (wrap64 mu1), .int .u64 mu2, .int .i64 (wrap64 mu3), .int .u64 mu4, .int .i64 (wrap64 mu5), .int .u64 mu6, .int .i64 (wrap64 mu7), .int .u64 mu8, .int .i64 (wrap64 mu9), .int .u64 mu10] : List Value).take (2 + 2 * i.toNat) ++ ([.int .u64 0, .int .i64 0, .int .i64 0, .int .u64 0, .int .i64 0, .int .u64 0, .int .i64 0, .int .u64 0, .int .i64 0, .int .u64 0, .int .i64 0, .int .u64 0] : List Value).drop (2 + 2 * i.toNat)).toArray 44 (0, 0))))
  case atStart => exact ⟨0, rfl, ⟨rfl⟩, ⟨by decide⟩, HB, B4, B6⟩
  case round =>
    clear HB B4 B6
    obtain ⟨i, rfl, HI, HI0, HB, B4, B6r⟩ := hrel
    match gk with
    | 0 =>
      obtain rfl : i = 5 := by have := HI.out; omega
      have B6 : Aside0 (wr.heap[g6]? = some (.cells #[.int .u64 a0, .int .i64 (wrap64 mu0), .int .i64 (wrap64 mu1), .int .u64 mu2, .int .i64 (wrap64 mu3), .int .u64 mu4, .int .i64 (wrap64 mu5), .int .u64 mu6, .int .i64 (wrap64 mu7), .int .u64 mu8, .int .i64 (wrap64 mu9), .int .u64 mu10] 44 (0, 0))) := B6r
      clear B6r
      have hqq := HQ.out
      cases q
      · have hq2 : (!((strOfNums b).toList == (strOfNums l0).toList)) = true := by rw [hqq]; rfl
        clear hqq
        go_upto_region 9 with (fail)
        refine RG.region 50 (fun W => Below w.heap.size w W ∧ W.heap[g4]? = some (.cells #[.int .u64 0, .int .i64 0, .int .i64 0, .int .u64 0, .int .i64 0, .int .u64 0, .int .i64 0, .int .u64 0, .int .i64 0, .int .u64 0, .int .i64 0, .int .u64 0] 44 (0, 0)) ∧ W.heap[g6]? = some (.cells #[.int .u64 a0, .int .i64 (wrap64 mu0), .int .i64 (wrap64 mu1), .int .u64 mu2, .int .i64 (wrap64 mu3), .int .u64 mu4, .int .i64 (wrap64 mu5), .int .u64 mu6, .int .i64 (wrap64 mu7), .int .u64 mu8, .int .i64 (wrap64 mu9), .int .u64 mu10] 44 (0, 0))) [Sp.exact ?_, Sp.ex (Row b), Sp.exact ?_, Sp.exact ?_, Sp.exact ?_, Sp.exact ?_] (by kernel_rfl) (by kernel_rfl) rfl (fun _ _ hb h => ⟨below_then h.1 h.1.size hb, blk_below h.2.1 hb, blk_below h.2.2 hb⟩) (by exact ⟨fun _ _ _ hb h => Row.below h hb, trivial⟩) (⟨below_drew1 HB.out, blk_drew B4.out, blk_drew B6.out⟩) ?_
        rotate_right
        refine rgW.read (b' := ?_) (by rfl) ?_ ?_ ?_; rotate_left; (focus (intro W hS hK; have z0 := (blk_cell hS.2.2 0).trans rfl; have f0 := blk_frozen hS.2.2 0; have z1 := (blk_cell hS.2.2 1).trans rfl; have f1 := blk_frozen hS.2.2 1; have z2 := (blk_cell hS.2.2 2).trans rfl; have f2 := blk_frozen hS.2.2 2; have z3 := (blk_cell hS.2.2 3).trans rfl; have f3 := blk_frozen hS.2.2 3; have z4 := (blk_cell hS.2.2 4).trans rfl; have f4 := blk_frozen hS.2.2 4; have z5 := (blk_cell hS.2.2 5).trans rfl; have f5 := blk_frozen hS.2.2 5; have z6 := (blk_cell hS.2.2 6).trans rfl; have f6 := blk_frozen hS.2.2 6; have z7 := (blk_cell hS.2.2 7).trans rfl; have f7 := blk_frozen hS.2.2 7; have z8 := (blk_cell hS.2.2 8).trans rfl; have f8 := blk_frozen hS.2.2 8; have z9 := (blk_cell hS.2.2 9).trans rfl; have f9 := blk_frozen hS.2.2 9; have z10 := (blk_cell hS.2.2 10).trans rfl; have f10 := blk_frozen hS.2.2 10; have z11 := (blk_cell hS.2.2 11).trans rfl; have f11 := blk_frozen hS.2.2 11; go_simp; with_reducible rfl)); (focus (simp only [Act.put, List.setIfInBounds_toArray, List.set_cons_zero, List.set_cons_succ]; try rfl))
        refine rgW.call (b' := ?_) #[.agg #[.int .u64 a0, .int .i64 (wrap64 mu0), .int .i64 (wrap64 mu1), .int .u64 mu2, .int .i64 (wrap64 mu3), .int .u64 mu4, .int .i64 (wrap64 mu5), .int .u64 mu6, .int .i64 (wrap64 mu7), .int .u64 mu8, .int .i64 (wrap64 mu9), .int .u64 mu10]] Try.func32 (by kernel_rfl) rfl (by rfl) rfl (by (try simp only [List.map_toArray, List.map_cons, List.map_nil]); first | done | rfl) (fun W hS hK => ?_) ?_ ?_
        rotate_left
        · with_reducible refine (pandectref6_PutRoot.calls k a0 (wrap64 mu0) (wrap64 mu1) mu2 (wrap64 mu3) mu4 (wrap64 mu5) mu6 (wrap64 mu7) mu8 (wrap64 mu9) mu10 b W HPUT.out).mono ?_
          rintro e W' ⟨v, rfl, ho, hb⟩
          exact ⟨v, rfl, .of_R ho, hb⟩
        · intro v
          simp only [Act.put, List.setIfInBounds_toArray, List.set_cons_zero, List.set_cons_succ]
          exact rfl
        intro vb_
        refine rgW.conv (b' := ?_) (xs := b) (by rfl) rfl (by rfl) Try.underlying22 Try.underlying5 Try.underlying9 ?_ ?_ ?_ ?_; rotate_left; (focus rfl); (focus (intro W hS hK; exact hK.1 (by kernel_rfl))); (focus (simp only [Act.put, List.setIfInBounds_toArray, List.set_cons_zero, List.set_cons_succ]; try rfl))
        refine rgW.just (b' := ?_) (Or.inl ⟨by rfl, ?_⟩) ?_ ?_; rotate_left; (focus (intro w'; go_simp; with_reducible rfl)); (focus (simp only [Act.put, List.setIfInBounds_toArray, List.set_cons_zero, List.set_cons_succ]; try rfl))
        refine rgW.conv (b' := ?_) (xs := l0) (by rfl) rfl (by rfl) Try.underlying22 Try.underlying5 Try.underlying9 ?_ ?_ ?_ ?_; rotate_left; (focus rfl); (focus (intro W hS hK; exact ⟨_, _, rfl, HC0.out, Kd.C_below HR0.out hS.1⟩)); (focus (simp only [Act.put, List.setIfInBounds_toArray, List.set_cons_zero, List.set_cons_succ]; try rfl))
        refine rgW.just (b' := ?_) (Or.inl ⟨by rfl, ?_⟩) ?_ ?_; rotate_left; (focus (intro w'; go_simp; with_reducible rfl)); (focus (simp only [Act.put, List.setIfInBounds_toArray, List.set_cons_zero, List.set_cons_succ]; try rfl))
        intro W hS hA
        clear hA HB B4 B6
        have HB := Aside0.mk hS.1
        have B4 := Aside0.mk hS.2.1
        have B6 := Aside0.mk hS.2.2
        clear hS
        have zz0 := (blk_cell B6.out 0).trans rfl
        have zf0 := blk_frozen B6.out 0
        have zz1 := (blk_cell B6.out 1).trans rfl
        have zf1 := blk_frozen B6.out 1
        have zz2 := (blk_cell B6.out 2).trans rfl
        have zf2 := blk_frozen B6.out 2
        have zz3 := (blk_cell B6.out 3).trans rfl
        have zf3 := blk_frozen B6.out 3
        have zz4 := (blk_cell B6.out 4).trans rfl
        have zf4 := blk_frozen B6.out 4
        have zz5 := (blk_cell B6.out 5).trans rfl
        have zf5 := blk_frozen B6.out 5
        have zz6 := (blk_cell B6.out 6).trans rfl
        have zf6 := blk_frozen B6.out 6
        have zz7 := (blk_cell B6.out 7).trans rfl
        have zf7 := blk_frozen B6.out 7
        have zz8 := (blk_cell B6.out 8).trans rfl
        have zf8 := blk_frozen B6.out 8
        have zz9 := (blk_cell B6.out 9).trans rfl
        have zf9 := blk_frozen B6.out 9
        have zz10 := (blk_cell B6.out 10).trans rfl
        have zf10 := blk_frozen B6.out 10
        have zz11 := (blk_cell B6.out 11).trans rfl
        have zf11 := blk_frozen B6.out 11
        have yz0 := (blk_cell B4.out 0).trans rfl
        have yf0 := blk_frozen B4.out 0
        have yz1 := (blk_cell B4.out 1).trans rfl
        have yf1 := blk_frozen B4.out 1
        have yz2 := (blk_cell B4.out 2).trans rfl
        have yf2 := blk_frozen B4.out 2
        have yz3 := (blk_cell B4.out 3).trans rfl
        have yf3 := blk_frozen B4.out 3
        have yz4 := (blk_cell B4.out 4).trans rfl
        have yf4 := blk_frozen B4.out 4
        have yz5 := (blk_cell B4.out 5).trans rfl
        have yf5 := blk_frozen B4.out 5
        have yz6 := (blk_cell B4.out 6).trans rfl
        have yf6 := blk_frozen B4.out 6
        have yz7 := (blk_cell B4.out 7).trans rfl
        have yf7 := blk_frozen B4.out 7
        have yz8 := (blk_cell B4.out 8).trans rfl
        have yf8 := blk_frozen B4.out 8
        have yz9 := (blk_cell B4.out 9).trans rfl
        have yf9 := blk_frozen B4.out 9
        have yz10 := (blk_cell B4.out 10).trans rfl
        have yf10 := blk_frozen B4.out 10
        have yz11 := (blk_cell B4.out 11).trans rfl
        have yf11 := blk_frozen B4.out 11
        go_wp2_with (fail)
        refine bodyPost_ret (results_ct rfl _ _ g4 44 #[.int .u64 0, .int .i64 0, .int .i64 0, .int .u64 0, .int .i64 0, .int .u64 0, .int .i64 0, .int .u64 0, .int .i64 0, .int .u64 0, .int .i64 0, .int .u64 0] (0, 0) _ rfl (by refine blk_put (cs := #[.int .u64 0, .int .i64 0, .int .i64 0, .int .u64 0, .int .i64 0, .int .u64 0, .int .i64 0, .int .u64 0, .int .i64 0, .int .u64 0, .int .i64 0, .int .u64 0]) ?_ 11 _ rfl; refine blk_put (cs := #[.int .u64 0, .int .i64 0, .int .i64 0, .int .u64 0, .int .i64 0, .int .u64 0, .int .i64 0, .int .u64 0, .int .i64 0, .int .u64 0, .int .i64 0, .int .u64 0]) ?_ 10 _ rfl; refine blk_put (cs := #[.int .u64 0, .int .i64 0, .int .i64 0, .int .u64 0, .int .i64 0, .int .u64 0, .int .i64 0, .int .u64 0, .int .i64 0, .int .u64 0, .int .i64 0, .int .u64 0]) ?_ 9 _ rfl; refine blk_put (cs := #[.int .u64 0, .int .i64 0, .int .i64 0, .int .u64 0, .int .i64 0, .int .u64 0, .int .i64 0, .int .u64 0, .int .i64 0, .int .u64 0, .int .i64 0, .int .u64 0]) ?_ 8 _ rfl; refine blk_put (cs := #[.int .u64 0, .int .i64 0, .int .i64 0, .int .u64 0, .int .i64 0, .int .u64 0, .int .i64 0, .int .u64 0, .int .i64 0, .int .u64 0, .int .i64 0, .int .u64 0]) ?_ 7 _ rfl; refine blk_put (cs := #[.int .u64 0, .int .i64 0, .int .i64 0, .int .u64 0, .int .i64 0, .int .u64 0, .int .i64 0, .int .u64 0, .int .i64 0, .int .u64 0, .int .i64 0, .int .u64 0]) ?_ 6 _ rfl; refine blk_put (cs := #[.int .u64 0, .int .i64 0, .int .i64 0, .int .u64 0, .int .i64 0, .int .u64 0, .int .i64 0, .int .u64 0, .int .i64 0, .int .u64 0, .int .i64 0, .int .u64 0]) ?_ 5 _ rfl; refine blk_put (cs := #[.int .u64 0, .int .i64 0, .int .i64 0, .int .u64 0, .int .i64 0, .int .u64 0, .int .i64 0, .int .u64 0, .int .i64 0, .int .u64 0, .int .i64 0, .int .u64 0]) ?_ 4 _ rfl; refine blk_put (cs := #[.int .u64 0, .int .i64 0, .int .i64 0, .int .u64 0, .int .i64 0, .int .u64 0, .int .i64 0, .int .u64 0, .int .i64 0, .int .u64 0, .int .i64 0, .int .u64 0]) ?_ 3 _ rfl; refine blk_put (cs := #[.int .u64 0, .int .i64 0, .int .i64 0, .int .u64 0, .int .i64 0, .int .u64 0, .int .i64 0, .int .u64 0, .int .i64 0, .int .u64 0, .int .i64 0, .int .u64 0]) ?_ 2 _ rfl; refine blk_put (cs := #[.int .u64 0, .int .i64 0, .int .i64 0, .int .u64 0, .int .i64 0, .int .u64 0, .int .i64 0, .int .u64 0, .int .i64 0, .int .u64 0, .int .i64 0, .int .u64 0]) ?_ 1 _ rfl; refine blk_put (cs := #[.int .u64 0, .int .i64 0, .int .i64 0, .int .u64 0, .int .i64 0, .int .u64 0, .int .i64 0, .int .u64 0, .int .i64 0, .int .u64 0, .int .i64 0, .int .u64 0]) ?_ 0 _ rfl; exact B4.out) Try.underlying44 rfl (by kernel_rfl)) rfl ?_
        exact ⟨rfl, by repeat (with_reducible first | exact HB.out | apply pw_below_drewN | refine below_set ?_ G4.out)⟩
      · have hq2 : (!((strOfNums b).toList == (strOfNums l0).toList)) = false := by rw [hqq]; rfl
        clear hqq
        go_upto_region 9 with (fail)
        refine RG.region 50 (fun W => Below w.heap.size w W ∧ W.heap[g4]? = some (.cells #[.int .u64 0, .int .i64 0, .int .i64 0, .int .u64 0, .int .i64 0, .int .u64 0, .int .i64 0, .int .u64 0, .int .i64 0, .int .u64 0, .int .i64 0, .int .u64 0] 44 (0, 0)) ∧ W.heap[g6]? = some (.cells #[.int .u64 a0, .int .i64 (wrap64 mu0), .int .i64 (wrap64 mu1), .int .u64 mu2, .int .i64 (wrap64 mu3), .int .u64 mu4, .int .i64 (wrap64 mu5), .int .u64 mu6, .int .i64 (wrap64 mu7), .int .u64 mu8, .int .i64 (wrap64 mu9), .int .u64 mu10] 44 (0, 0))) [Sp.exact ?_, Sp.ex (Row b), Sp.exact ?_, Sp.exact ?_, Sp.exact ?_, Sp.exact ?_] (by kernel_rfl) (by kernel_rfl) rfl (fun _ _ hb h => ⟨below_then h.1 h.1.size hb, blk_below h.2.1 hb, blk_below h.2.2 hb⟩) (by exact ⟨fun _ _ _ hb h => Row.below h hb, trivial⟩) (⟨below_drew1 HB.out, blk_drew B4.out, blk_drew B6.out⟩) ?_
        rotate_right
        refine rgW.read (b' := ?_) (by rfl) ?_ ?_ ?_; rotate_left; (focus (intro W hS hK; have z0 := (blk_cell hS.2.2 0).trans rfl; have f0 := blk_frozen hS.2.2 0; have z1 := (blk_cell hS.2.2 1).trans rfl; have f1 := blk_frozen hS.2.2 1; have z2 := (blk_cell hS.2.2 2).trans rfl; have f2 := blk_frozen hS.2.2 2; have z3 := (blk_cell hS.2.2 3).trans rfl; have f3 := blk_frozen hS.2.2 3; have z4 := (blk_cell hS.2.2 4).trans rfl; have f4 := blk_frozen hS.2.2 4; have z5 := (blk_cell hS.2.2 5).trans rfl; have f5 := blk_frozen hS.2.2 5; have z6 := (blk_cell hS.2.2 6).trans rfl; have f6 := blk_frozen hS.2.2 6; have z7 := (blk_cell hS.2.2 7).trans rfl; have f7 := blk_frozen hS.2.2 7; have z8 := (blk_cell hS.2.2 8).trans rfl; have f8 := blk_frozen hS.2.2 8; have z9 := (blk_cell hS.2.2 9).trans rfl; have f9 := blk_frozen hS.2.2 9; have z10 := (blk_cell hS.2.2 10).trans rfl; have f10 := blk_frozen hS.2.2 10; have z11 := (blk_cell hS.2.2 11).trans rfl; have f11 := blk_frozen hS.2.2 11; go_simp; with_reducible rfl)); (focus (simp only [Act.put, List.setIfInBounds_toArray, List.set_cons_zero, List.set_cons_succ]; try rfl))
        refine rgW.call (b' := ?_) #[.agg #[.int .u64 a0, .int .i64 (wrap64 mu0), .int .i64 (wrap64 mu1), .int .u64 mu2, .int .i64 (wrap64 mu3), .int .u64 mu4, .int .i64 (wrap64 mu5), .int .u64 mu6, .int .i64 (wrap64 mu7), .int .u64 mu8, .int .i64 (wrap64 mu9), .int .u64 mu10]] Try.func32 (by kernel_rfl) rfl (by rfl) rfl (by (try simp only [List.map_toArray, List.map_cons, List.map_nil]); first | done | rfl) (fun W hS hK => ?_) ?_ ?_
        rotate_left
        · with_reducible refine (pandectref6_PutRoot.calls k a0 (wrap64 mu0) (wrap64 mu1) mu2 (wrap64 mu3) mu4 (wrap64 mu5) mu6 (wrap64 mu7) mu8 (wrap64 mu9) mu10 b W HPUT.out).mono ?_
          rintro e W' ⟨v, rfl, ho, hb⟩
          exact ⟨v, rfl, .of_R ho, hb⟩
        · intro v
          simp only [Act.put, List.setIfInBounds_toArray, List.set_cons_zero, List.set_cons_succ]
          exact rfl
        intro vb_
        refine rgW.conv (b' := ?_) (xs := b) (by rfl) rfl (by rfl) Try.underlying22 Try.underlying5 Try.underlying9 ?_ ?_ ?_ ?_; rotate_left; (focus rfl); (focus (intro W hS hK; exact hK.1 (by kernel_rfl))); (focus (simp only [Act.put, List.setIfInBounds_toArray, List.set_cons_zero, List.set_cons_succ]; try rfl))
        refine rgW.just (b' := ?_) (Or.inl ⟨by rfl, ?_⟩) ?_ ?_; rotate_left; (focus (intro w'; go_simp; with_reducible rfl)); (focus (simp only [Act.put, List.setIfInBounds_toArray, List.set_cons_zero, List.set_cons_succ]; try rfl))
        refine rgW.conv (b' := ?_) (xs := l0) (by rfl) rfl (by rfl) Try.underlying22 Try.underlying5 Try.underlying9 ?_ ?_ ?_ ?_; rotate_left; (focus rfl); (focus (intro W hS hK; exact ⟨_, _, rfl, HC0.out, Kd.C_below HR0.out hS.1⟩)); (focus (simp only [Act.put, List.setIfInBounds_toArray, List.set_cons_zero, List.set_cons_succ]; try rfl))
        refine rgW.just (b' := ?_) (Or.inl ⟨by rfl, ?_⟩) ?_ ?_; rotate_left; (focus (intro w'; go_simp; with_reducible rfl)); (focus (simp only [Act.put, List.setIfInBounds_toArray, List.set_cons_zero, List.set_cons_succ]; try rfl))
        intro W hS hA
        clear hA HB B4 B6
        have HB := Aside0.mk hS.1
        have B4 := Aside0.mk hS.2.1
        have B6 := Aside0.mk hS.2.2
        clear hS
        have zz0 := (blk_cell B6.out 0).trans rfl
        have zf0 := blk_frozen B6.out 0
        have zz1 := (blk_cell B6.out 1).trans rfl
        have zf1 := blk_frozen B6.out 1
        have zz2 := (blk_cell B6.out 2).trans rfl
        have zf2 := blk_frozen B6.out 2
        have zz3 := (blk_cell B6.out 3).trans rfl
        have zf3 := blk_frozen B6.out 3
        have zz4 := (blk_cell B6.out 4).trans rfl
        have zf4 := blk_frozen B6.out 4
        have zz5 := (blk_cell B6.out 5).trans rfl
        have zf5 := blk_frozen B6.out 5
        have zz6 := (blk_cell B6.out 6).trans rfl
        have zf6 := blk_frozen B6.out 6
        have zz7 := (blk_cell B6.out 7).trans rfl
        have zf7 := blk_frozen B6.out 7
        have zz8 := (blk_cell B6.out 8).trans rfl
        have zf8 := blk_frozen B6.out 8
        have zz9 := (blk_cell B6.out 9).trans rfl
        have zf9 := blk_frozen B6.out 9
        have zz10 := (blk_cell B6.out 10).trans rfl
        have zf10 := blk_frozen B6.out 10
        have zz11 := (blk_cell B6.out 11).trans rfl
        have zf11 := blk_frozen B6.out 11
        have yz0 := (blk_cell B4.out 0).trans rfl
        have yf0 := blk_frozen B4.out 0
        have yz1 := (blk_cell B4.out 1).trans rfl
        have yf1 := blk_frozen B4.out 1
        have yz2 := (blk_cell B4.out 2).trans rfl
        have yf2 := blk_frozen B4.out 2
        have yz3 := (blk_cell B4.out 3).trans rfl
        have yf3 := blk_frozen B4.out 3
        have yz4 := (blk_cell B4.out 4).trans rfl
        have yf4 := blk_frozen B4.out 4
        have yz5 := (blk_cell B4.out 5).trans rfl
        have yf5 := blk_frozen B4.out 5
        have yz6 := (blk_cell B4.out 6).trans rfl
        have yf6 := blk_frozen B4.out 6
        have yz7 := (blk_cell B4.out 7).trans rfl
        have yf7 := blk_frozen B4.out 7
        have yz8 := (blk_cell B4.out 8).trans rfl
        have yf8 := blk_frozen B4.out 8
        have yz9 := (blk_cell B4.out 9).trans rfl
        have yf9 := blk_frozen B4.out 9
        have yz10 := (blk_cell B4.out 10).trans rfl
        have yf10 := blk_frozen B4.out 10
        have yz11 := (blk_cell B4.out 11).trans rfl
        have yf11 := blk_frozen B4.out 11
        go_wp2_with (fail)
        refine bodyPost_ret (results_ct rfl _ _ g4 44 #[.int .u64 a0, .int .i64 (wrap64 mu0), .int .i64 (wrap64 mu1), .int .u64 mu2, .int .i64 (wrap64 mu3), .int .u64 mu4, .int .i64 (wrap64 mu5), .int .u64 mu6, .int .i64 (wrap64 mu7), .int .u64 mu8, .int .i64 (wrap64 mu9), .int .u64 mu10] (0, 0) _ rfl (by refine blk_put (cs := #[.int .u64 a0, .int .i64 (wrap64 mu0), .int .i64 (wrap64 mu1), .int .u64 mu2, .int .i64 (wrap64 mu3), .int .u64 mu4, .int .i64 (wrap64 mu5), .int .u64 mu6, .int .i64 (wrap64 mu7), .int .u64 mu8, .int .i64 (wrap64 mu9), .int .u64 0]) ?_ 11 _ rfl; refine blk_put (cs := #[.int .u64 a0, .int .i64 (wrap64 mu0), .int .i64 (wrap64 mu1), .int .u64 mu2, .int .i64 (wrap64 mu3), .int .u64 mu4, .int .i64 (wrap64 mu5), .int .u64 mu6, .int .i64 (wrap64 mu7), .int .u64 mu8, .int .i64 0, .int .u64 0]) ?_ 10 _ rfl; refine blk_put (cs := #[.int .u64 a0, .int .i64 (wrap64 mu0), .int .i64 (wrap64 mu1), .int .u64 mu2, .int .i64 (wrap64 mu3), .int .u64 mu4, .int .i64 (wrap64 mu5), .int .u64 mu6, .int .i64 (wrap64 mu7), .int .u64 0, .int .i64 0, .int .u64 0]) ?_ 9 _ rfl; refine blk_put (cs := #[.int .u64 a0, .int .i64 (wrap64 mu0), .int .i64 (wrap64 mu1), .int .u64 mu2, .int .i64 (wrap64 mu3), .int .u64 mu4, .int .i64 (wrap64 mu5), .int .u64 mu6, .int .i64 0, .int .u64 0, .int .i64 0, .int .u64 0]) ?_ 8 _ rfl; refine blk_put (cs := #[.int .u64 a0, .int .i64 (wrap64 mu0), .int .i64 (wrap64 mu1), .int .u64 mu2, .int .i64 (wrap64 mu3), .int .u64 mu4, .int .i64 (wrap64 mu5), .int .u64 0, .int .i64 0, .int .u64 0, .int .i64 0, .int .u64 0]) ?_ 7 _ rfl; refine blk_put (cs := #[.int .u64 a0, .int .i64 (wrap64 mu0), .int .i64 (wrap64 mu1), .int .u64 mu2, .int .i64 (wrap64 mu3), .int .u64 mu4, .int .i64 0, .int .u64 0, .int .i64 0, .int .u64 0, .int .i64 0, .int .u64 0]) ?_ 6 _ rfl; refine blk_put (cs := #[.int .u64 a0, .int .i64 (wrap64 mu0), .int .i64 (wrap64 mu1), .int .u64 mu2, .int .i64 (wrap64 mu3), .int .u64 0, .int .i64 0, .int .u64 0, .int .i64 0, .int .u64 0, .int .i64 0, .int .u64 0]) ?_ 5 _ rfl; refine blk_put (cs := #[.int .u64 a0, .int .i64 (wrap64 mu0), .int .i64 (wrap64 mu1), .int .u64 mu2, .int .i64 0, .int .u64 0, .int .i64 0, .int .u64 0, .int .i64 0, .int .u64 0, .int .i64 0, .int .u64 0]) ?_ 4 _ rfl; refine blk_put (cs := #[.int .u64 a0, .int .i64 (wrap64 mu0), .int .i64 (wrap64 mu1), .int .u64 0, .int .i64 0, .int .u64 0, .int .i64 0, .int .u64 0, .int .i64 0, .int .u64 0, .int .i64 0, .int .u64 0]) ?_ 3 _ rfl; refine blk_put (cs := #[.int .u64 a0, .int .i64 (wrap64 mu0), .int .i64 0, .int .u64 0, .int .i64 0, .int .u64 0, .int .i64 0, .int .u64 0, .int .i64 0, .int .u64 0, .int .i64 0, .int .u64 0]) ?_ 2 _ rfl; refine blk_put (cs := #[.int .u64 a0, .int .i64 0, .int .i64 0, .int .u64 0, .int .i64 0, .int .u64 0, .int .i64 0, .int .u64 0, .int .i64 0, .int .u64 0, .int .i64 0, .int .u64 0]) ?_ 1 _ rfl; refine blk_put (cs := #[.int .u64 0, .int .i64 0, .int .i64 0, .int .u64 0, .int .i64 0, .int .u64 0, .int .i64 0, .int .u64 0, .int .i64 0, .int .u64 0, .int .i64 0, .int .u64 0]) ?_ 0 _ rfl; exact B4.out) Try.underlying44 rfl (by kernel_rfl)) rfl ?_
        exact ⟨rfl, by repeat (with_reducible first | exact HB.out | apply pw_below_drewN | refine below_set ?_ G4.out)⟩
    | 1 =>
      obtain rfl : i = 4 := by have := HI.out; omega
      have B6 : Aside0 (wr.heap[g6]? = some (.cells #[.int .u64 a0, .int .i64 (wrap64 mu0), .int .i64 (wrap64 mu1), .int .u64 mu2, .int .i64 (wrap64 mu3), .int .u64 mu4, .int .i64 (wrap64 mu5), .int .u64 mu6, .int .i64 (wrap64 mu7), .int .u64 mu8, .int .i64 0, .int .u64 0] 44 (0, 0))) := B6r
      clear B6r
      obtain ⟨A1, A3, ct1, ct2, ct3, hA1, hA3, hL1, hL3⟩ := cuts w A0 c0 l0 72 72 88 HR0.out HC0.out rfl rfl (by have := H88.out; omega)
      have HA1 := Aside0.mk hA1
      have HA3 := Aside0.mk hA3
      have HL1 := Aside0.mk hL1
      have HL3 := Aside0.mk hL3
      clear hA1 hA3 hL1 hL3
      have x4 : ∀ w : World, (Instr.indexAt 42 (.pointer (some ⟨g6, 2, none⟩)) (.int .i64 4)).run Try.prog w = .ok (.pointer (some ⟨g6, 10, none⟩)) w := fun _ => by kernel_rfl
      go_upto_region 8 with (fail)
      refine RG.regionT 50 10 (fun W => Below w.heap.size w W ∧ W.heap[g4]? = some (.cells #[.int .u64 0, .int .i64 0, .int .i64 0, .int .u64 0, .int .i64 0, .int .u64 0, .int .i64 0, .int .u64 0, .int .i64 0, .int .u64 0, .int .i64 0, .int .u64 0] 44 (0, 0)) ∧ W.heap[g6]? = some (.cells #[.int .u64 a0, .int .i64 (wrap64 mu0), .int .i64 (wrap64 mu1), .int .u64 mu2, .int .i64 (wrap64 mu3), .int .u64 mu4, .int .i64 (wrap64 mu5), .int .u64 mu6, .int .i64 (wrap64 mu7), .int .u64 mu8, .int .i64 0, .int .u64 0] 44 (0, 0))) [Sp.exact ?_, Sp.exact ?_, Sp.exact ?_, Sp.exact ?_, Sp.exact ?_, Sp.exact ?_, Sp.exact ?_, Sp.exact ?_, Sp.exact ?_, Sp.exact ?_] (by kernel_rfl) (by kernel_rfl) (by kernel_rfl) rfl (fun _ _ hb h => ⟨below_then h.1 h.1.size hb, blk_below h.2.1 hb, blk_below h.2.2 hb⟩) (trivial) (⟨below_drew1 HB.out, blk_drew B4.out, blk_drew B6.out⟩) ?_
      rotate_right
      simp only [List.toList_toArray, List.take_succ_cons, List.take_zero, List.drop_succ_cons, List.drop_zero]
      refine rgW.just (b' := ?_) (Or.inl ⟨by rfl, ?_⟩) ?_ ?_; rotate_left; (focus (intro w'; go_simp; with_reducible rfl)); (focus (simp only [Act.put, List.setIfInBounds_toArray, List.set_cons_zero, List.set_cons_succ]; try rfl))
      refine rgW.just (b' := ?_) (Or.inl ⟨by rfl, ?_⟩) ?_ ?_; rotate_left; (focus (intro w'; go_simp; with_reducible rfl)); (focus (simp only [Act.put, List.setIfInBounds_toArray, List.set_cons_zero, List.set_cons_succ]; try rfl))
      refine rgW.just (b' := ?_) (Or.inl ⟨by rfl, ?_⟩) ?_ ?_; rotate_left; (focus (intro w'; go_simp; with_reducible rfl)); (focus (simp only [Act.put, List.setIfInBounds_toArray, List.set_cons_zero, List.set_cons_succ]; try rfl))
      refine rgW.callx (b' := ?_) (d := .int .u64 mu9) #[.slice A1 8 (c0 - 72)] Try.func47 (by kernel_rfl) rfl (by rfl) rfl (by (try simp only [List.map_toArray, List.map_cons, List.map_nil]); first | done | rfl) (fun W hS hK => ?_) ?_ ?_ ?_
      rotate_left
      · with_reducible refine (num8 k A1 (c0 - 72) ((l0.drop 72).take 8) mu9 W (by have := H88.out; rw [List.length_take, List.length_drop]; omega) (Kd.C_below HA1.out hS.1) HL1.out HU9.out).mono ?_
        rintro e W' ⟨rfl, hd⟩
        exact ⟨rfl, hd.below⟩
      · rfl
      · simp only [Act.put, List.setIfInBounds_toArray, List.set_cons_zero, List.set_cons_succ]
        try rfl
      refine rgW.just (b' := ?_) (Or.inl ⟨by rfl, ?_⟩) ?_ ?_; rotate_left; (focus (intro w'; go_simp; with_reducible rfl)); (focus (simp only [Act.put, List.setIfInBounds_toArray, List.set_cons_zero, List.set_cons_succ]; try rfl))
      refine rgW.just (b' := ?_) (Or.inl ⟨by rfl, ?_⟩) ?_ ?_; rotate_left; (focus (intro w'; go_simp; with_reducible rfl)); (focus (simp only [Act.put, List.setIfInBounds_toArray, List.set_cons_zero, List.set_cons_succ]; try rfl))
      refine rgW.just (b' := ?_) (Or.inl ⟨by rfl, ?_⟩) ?_ ?_; rotate_left; (focus (intro w'; go_simp; with_reducible rfl)); (focus (simp only [Act.put, List.setIfInBounds_toArray, List.set_cons_zero, List.set_cons_succ]; try rfl))
      refine rgW.callx (b' := ?_) (d := .int .u64 mu10) #[.slice A3 8 (c0 - 72 - 8)] Try.func47 (by kernel_rfl) rfl (by rfl) rfl (by (try simp only [List.map_toArray, List.map_cons, List.map_nil]); first | done | rfl) (fun W hS hK => ?_) ?_ ?_ ?_
      rotate_left
      · with_reducible refine (num8 k A3 (c0 - 72 - 8) ((l0.drop (72 + 8)).take 8) mu10 W (by have := H88.out; rw [List.length_take, List.length_drop]; omega) (Kd.C_below HA3.out hS.1) HL3.out HU10.out).mono ?_
        rintro e W' ⟨rfl, hd⟩
        exact ⟨rfl, hd.below⟩
      · rfl
      · simp only [Act.put, List.setIfInBounds_toArray, List.set_cons_zero, List.set_cons_succ]
        try rfl
      refine rgW.just (b' := ?_) (Or.inl ⟨by rfl, ?_⟩) ?_ ?_; rotate_left; (focus (intro w'; go_simp; with_reducible rfl)); (focus (simp only [Act.put, List.setIfInBounds_toArray, List.set_cons_zero, List.set_cons_succ]; try rfl))
      refine rgW.just (b' := ?_) (Or.inl ⟨by rfl, ?_⟩) ?_ ?_; rotate_left; (focus (intro w'; go_simp; with_reducible rfl)); (focus (simp only [Act.put, List.setIfInBounds_toArray, List.set_cons_zero, List.set_cons_succ]; try rfl))
      intro W hS hA
      clear hA HB B4 B6
      have HB := Aside0.mk hS.1
      have B4 := Aside0.mk hS.2.1
      have B6 := Aside0.mk hS.2.2
      clear hS
      have zz0 := (blk_cell B6.out 0).trans rfl
      have zf0 := blk_frozen B6.out 0
      have zz1 := (blk_cell B6.out 1).trans rfl
      have zf1 := blk_frozen B6.out 1
      have zz2 := (blk_cell B6.out 2).trans rfl
      have zf2 := blk_frozen B6.out 2
      have zz3 := (blk_cell B6.out 3).trans rfl
      have zf3 := blk_frozen B6.out 3
      have zz4 := (blk_cell B6.out 4).trans rfl
      have zf4 := blk_frozen B6.out 4
      have zz5 := (blk_cell B6.out 5).trans rfl
      have zf5 := blk_frozen B6.out 5
      have zz6 := (blk_cell B6.out 6).trans rfl
      have zf6 := blk_frozen B6.out 6
      have zz7 := (blk_cell B6.out 7).trans rfl
      have zf7 := blk_frozen B6.out 7
      have zz8 := (blk_cell B6.out 8).trans rfl
      have zf8 := blk_frozen B6.out 8
      have zz9 := (blk_cell B6.out 9).trans rfl
      have zf9 := blk_frozen B6.out 9
      have zz10 := (blk_cell B6.out 10).trans rfl
      have zf10 := blk_frozen B6.out 10
      have zz11 := (blk_cell B6.out 11).trans rfl
      have zf11 := blk_frozen B6.out 11
      go_upto_region 6 with (fail)
      clear zz0 zf0 zz1 zf1 zz2 zf2 zz3 zf3 zz4 zf4 zz5 zf5 zz6 zf6 zz7 zf7 zz8 zf8 zz9 zf9 zz10 zf10 zz11 zf11
      have n0_ := Aside0.mk (show ((W.setCell ⟨g6, 10, none⟩ (.int .i64 (wrap64 mu9))).setCell ⟨g6, 11, none⟩ (.int .u64 mu10)).heap[g6]? = some (.cells #[.int .u64 a0, .int .i64 (wrap64 mu0), .int .i64 (wrap64 mu1), .int .u64 mu2, .int .i64 (wrap64 mu3), .int .u64 mu4, .int .i64 (wrap64 mu5), .int .u64 mu6, .int .i64 (wrap64 mu7), .int .u64 mu8, .int .i64 (wrap64 mu9), .int .u64 mu10] 44 (0, 0)) by refine blk_put (cs := #[.int .u64 a0, .int .i64 (wrap64 mu0), .int .i64 (wrap64 mu1), .int .u64 mu2, .int .i64 (wrap64 mu3), .int .u64 mu4, .int .i64 (wrap64 mu5), .int .u64 mu6, .int .i64 (wrap64 mu7), .int .u64 mu8, .int .i64 (wrap64 mu9), .int .u64 0]) ?_ 11 _ rfl; refine blk_put (cs := #[.int .u64 a0, .int .i64 (wrap64 mu0), .int .i64 (wrap64 mu1), .int .u64 mu2, .int .i64 (wrap64 mu3), .int .u64 mu4, .int .i64 (wrap64 mu5), .int .u64 mu6, .int .i64 (wrap64 mu7), .int .u64 mu8, .int .i64 0, .int .u64 0]) ?_ 10 _ rfl; exact B6.out)
      have n1_ := Aside0.mk (show ((W.setCell ⟨g6, 10, none⟩ (.int .i64 (wrap64 mu9))).setCell ⟨g6, 11, none⟩ (.int .u64 mu10)).heap[g4]? = some (.cells #[.int .u64 0, .int .i64 0, .int .i64 0, .int .u64 0, .int .i64 0, .int .u64 0, .int .i64 0, .int .u64 0, .int .i64 0, .int .u64 0, .int .i64 0, .int .u64 0] 44 (0, 0)) by refine blk_far ?_ N46.out _; refine blk_far ?_ N46.out _; exact B4.out)
      have n2_ := Aside0.mk (show Below w.heap.size w ((W.setCell ⟨g6, 10, none⟩ (.int .i64 (wrap64 mu9))).setCell ⟨g6, 11, none⟩ (.int .u64 mu10)) by repeat (with_reducible first | exact HB.out | refine below_set ?_ G6.out))
      clear B6 B4 HB
      have B6 := n0_
      have B4 := n1_
      have HB := n2_
      clear n0_ n1_ n2_
      go_wp2_with (fail)
      go_roundg 0
      case measure => omega
      case rel => exact ⟨5, (by first | rfl | kernel_rfl), ⟨by have := HI.out; omega⟩, ⟨by decide⟩, HB, B4, B6⟩
    | 2 =>
      obtain rfl : i = 3 := by have := HI.out; omega
      have B6 : Aside0 (wr.heap[g6]? = some (.cells #[.int .u64 a0, .int .i64 (wrap64 mu0), .int .i64 (wrap64 mu1), .int .u64 mu2, .int .i64 (wrap64 mu3), .int .u64 mu4, .int .i64 (wrap64 mu5), .int .u64 mu6, .int .i64 0, .int .u64 0, .int .i64 0, .int .u64 0] 44 (0, 0))) := B6r
      clear B6r
      obtain ⟨A1, A3, ct1, ct2, ct3, hA1, hA3, hL1, hL3⟩ := cuts w A0 c0 l0 56 56 72 HR0.out HC0.out rfl rfl (by have := H88.out; omega)
      have HA1 := Aside0.mk hA1
      have HA3 := Aside0.mk hA3
      have HL1 := Aside0.mk hL1
      have HL3 := Aside0.mk hL3
      clear hA1 hA3 hL1 hL3
      have x3 : ∀ w : World, (Instr.indexAt 42 (.pointer (some ⟨g6, 2, none⟩)) (.int .i64 3)).run Try.prog w = .ok (.pointer (some ⟨g6, 8, none⟩)) w := fun _ => by kernel_rfl
      go_upto_region 8 with (fail)
      refine RG.regionT 50 10 (fun W => Below w.heap.size w W ∧ W.heap[g4]? = some (.cells #[.int .u64 0, .int .i64 0, .int .i64 0, .int .u64 0, .int .i64 0, .int .u64 0, .int .i64 0, .int .u64 0, .int .i64 0, .int .u64 0, .int .i64 0, .int .u64 0] 44 (0, 0)) ∧ W.heap[g6]? = some (.cells #[.int .u64 a0, .int .i64 (wrap64 mu0), .int .i64 (wrap64 mu1), .int .u64 mu2, .int .i64 (wrap64 mu3), .int .u64 mu4, .int .i64 (wrap64 mu5), .int .u64 mu6, .int .i64 0, .int .u64 0, .int .i64 0, .int .u64 0] 44 (0, 0))) [Sp.exact ?_, Sp.exact ?_, Sp.exact ?_, Sp.exact ?_, Sp.exact ?_, Sp.exact ?_, Sp.exact ?_, Sp.exact ?_, Sp.exact ?_, Sp.exact ?_] (by kernel_rfl) (by kernel_rfl) (by kernel_rfl) rfl (fun _ _ hb h => ⟨below_then h.1 h.1.size hb, blk_below h.2.1 hb, blk_below h.2.2 hb⟩) (trivial) (⟨below_drew1 HB.out, blk_drew B4.out, blk_drew B6.out⟩) ?_
      rotate_right
      simp only [List.toList_toArray, List.take_succ_cons, List.take_zero, List.drop_succ_cons, List.drop_zero]
      refine rgW.just (b' := ?_) (Or.inl ⟨by rfl, ?_⟩) ?_ ?_; rotate_left; (focus (intro w'; go_simp; with_reducible rfl)); (focus (simp only [Act.put, List.setIfInBounds_toArray, List.set_cons_zero, List.set_cons_succ]; try rfl))
      refine rgW.just (b' := ?_) (Or.inl ⟨by rfl, ?_⟩) ?_ ?_; rotate_left; (focus (intro w'; go_simp; with_reducible rfl)); (focus (simp only [Act.put, List.setIfInBounds_toArray, List.set_cons_zero, List.set_cons_succ]; try rfl))
      refine rgW.just (b' := ?_) (Or.inl ⟨by rfl, ?_⟩) ?_ ?_; rotate_left; (focus (intro w'; go_simp; with_reducible rfl)); (focus (simp only [Act.put, List.setIfInBounds_toArray, List.set_cons_zero, List.set_cons_succ]; try rfl))
      refine rgW.callx (b' := ?_) (d := .int .u64 mu7) #[.slice A1 8 (c0 - 56)] Try.func47 (by kernel_rfl) rfl (by rfl) rfl (by (try simp only [List.map_toArray, List.map_cons, List.map_nil]); first | done | rfl) (fun W hS hK => ?_) ?_ ?_ ?_
      rotate_left
      · with_reducible refine (num8 k A1 (c0 - 56) ((l0.drop 56).take 8) mu7 W (by have := H88.out; rw [List.length_take, List.length_drop]; omega) (Kd.C_below HA1.out hS.1) HL1.out HU7.out).mono ?_
        rintro e W' ⟨rfl, hd⟩
        exact ⟨rfl, hd.below⟩
      · rfl
      · simp only [Act.put, List.setIfInBounds_toArray, List.set_cons_zero, List.set_cons_succ]
        try rfl
      refine rgW.just (b' := ?_) (Or.inl ⟨by rfl, ?_⟩) ?_ ?_; rotate_left; (focus (intro w'; go_simp; with_reducible rfl)); (focus (simp only [Act.put, List.setIfInBounds_toArray, List.set_cons_zero, List.set_cons_succ]; try rfl))
      refine rgW.just (b' := ?_) (Or.inl ⟨by rfl, ?_⟩) ?_ ?_; rotate_left; (focus (intro w'; go_simp; with_reducible rfl)); (focus (simp only [Act.put, List.setIfInBounds_toArray, List.set_cons_zero, List.set_cons_succ]; try rfl))
      refine rgW.just (b' := ?_) (Or.inl ⟨by rfl, ?_⟩) ?_ ?_; rotate_left; (focus (intro w'; go_simp; with_reducible rfl)); (focus (simp only [Act.put, List.setIfInBounds_toArray, List.set_cons_zero, List.set_cons_succ]; try rfl))
      refine rgW.callx (b' := ?_) (d := .int .u64 mu8) #[.slice A3 8 (c0 - 56 - 8)] Try.func47 (by kernel_rfl) rfl (by rfl) rfl (by (try simp only [List.map_toArray, List.map_cons, List.map_nil]); first | done | rfl) (fun W hS hK => ?_) ?_ ?_ ?_
      rotate_left
      · with_reducible refine (num8 k A3 (c0 - 56 - 8) ((l0.drop (56 + 8)).take 8) mu8 W (by have := H88.out; rw [List.length_take, List.length_drop]; omega) (Kd.C_below HA3.out hS.1) HL3.out HU8.out).mono ?_
        rintro e W' ⟨rfl, hd⟩
        exact ⟨rfl, hd.below⟩
      · rfl
      · simp only [Act.put, List.setIfInBounds_toArray, List.set_cons_zero, List.set_cons_succ]
        try rfl
      refine rgW.just (b' := ?_) (Or.inl ⟨by rfl, ?_⟩) ?_ ?_; rotate_left; (focus (intro w'; go_simp; with_reducible rfl)); (focus (simp only [Act.put, List.setIfInBounds_toArray, List.set_cons_zero, List.set_cons_succ]; try rfl))
      refine rgW.just (b' := ?_) (Or.inl ⟨by rfl, ?_⟩) ?_ ?_; rotate_left; (focus (intro w'; go_simp; with_reducible rfl)); (focus (simp only [Act.put, List.setIfInBounds_toArray, List.set_cons_zero, List.set_cons_succ]; try rfl))
      intro W hS hA
      clear hA HB B4 B6
      have HB := Aside0.mk hS.1
      have B4 := Aside0.mk hS.2.1
      have B6 := Aside0.mk hS.2.2
      clear hS
      have zz0 := (blk_cell B6.out 0).trans rfl
      have zf0 := blk_frozen B6.out 0
      have zz1 := (blk_cell B6.out 1).trans rfl
      have zf1 := blk_frozen B6.out 1
      have zz2 := (blk_cell B6.out 2).trans rfl
      have zf2 := blk_frozen B6.out 2
      have zz3 := (blk_cell B6.out 3).trans rfl
      have zf3 := blk_frozen B6.out 3
      have zz4 := (blk_cell B6.out 4).trans rfl
      have zf4 := blk_frozen B6.out 4
      have zz5 := (blk_cell B6.out 5).trans rfl
      have zf5 := blk_frozen B6.out 5
      have zz6 := (blk_cell B6.out 6).trans rfl
      have zf6 := blk_frozen B6.out 6
      have zz7 := (blk_cell B6.out 7).trans rfl
      have zf7 := blk_frozen B6.out 7
      have zz8 := (blk_cell B6.out 8).trans rfl
      have zf8 := blk_frozen B6.out 8
      have zz9 := (blk_cell B6.out 9).trans rfl
      have zf9 := blk_frozen B6.out 9
      have zz10 := (blk_cell B6.out 10).trans rfl
      have zf10 := blk_frozen B6.out 10
      have zz11 := (blk_cell B6.out 11).trans rfl
      have zf11 := blk_frozen B6.out 11
      go_upto_region 6 with (fail)
      clear zz0 zf0 zz1 zf1 zz2 zf2 zz3 zf3 zz4 zf4 zz5 zf5 zz6 zf6 zz7 zf7 zz8 zf8 zz9 zf9 zz10 zf10 zz11 zf11
      have n0_ := Aside0.mk (show ((W.setCell ⟨g6, 8, none⟩ (.int .i64 (wrap64 mu7))).setCell ⟨g6, 9, none⟩ (.int .u64 mu8)).heap[g6]? = some (.cells #[.int .u64 a0, .int .i64 (wrap64 mu0), .int .i64 (wrap64 mu1), .int .u64 mu2, .int .i64 (wrap64 mu3), .int .u64 mu4, .int .i64 (wrap64 mu5), .int .u64 mu6, .int .i64 (wrap64 mu7), .int .u64 mu8, .int .i64 0, .int .u64 0] 44 (0, 0)) by refine blk_put (cs := #[.int .u64 a0, .int .i64 (wrap64 mu0), .int .i64 (wrap64 mu1), .int .u64 mu2, .int .i64 (wrap64 mu3), .int .u64 mu4, .int .i64 (wrap64 mu5), .int .u64 mu6, .int .i64 (wrap64 mu7), .int .u64 0, .int .i64 0, .int .u64 0]) ?_ 9 _ rfl; refine blk_put (cs := #[.int .u64 a0, .int .i64 (wrap64 mu0), .int .i64 (wrap64 mu1), .int .u64 mu2, .int .i64 (wrap64 mu3), .int .u64 mu4, .int .i64 (wrap64 mu5), .int .u64 mu6, .int .i64 0, .int .u64 0, .int .i64 0, .int .u64 0]) ?_ 8 _ rfl; exact B6.out)
      have n1_ := Aside0.mk (show ((W.setCell ⟨g6, 8, none⟩ (.int .i64 (wrap64 mu7))).setCell ⟨g6, 9, none⟩ (.int .u64 mu8)).heap[g4]? = some (.cells #[.int .u64 0, .int .i64 0, .int .i64 0, .int .u64 0, .int .i64 0, .int .u64 0, .int .i64 0, .int .u64 0, .int .i64 0, .int .u64 0, .int .i64 0, .int .u64 0] 44 (0, 0)) by refine blk_far ?_ N46.out _; refine blk_far ?_ N46.out _; exact B4.out)
      have n2_ := Aside0.mk (show Below w.heap.size w ((W.setCell ⟨g6, 8, none⟩ (.int .i64 (wrap64 mu7))).setCell ⟨g6, 9, none⟩ (.int .u64 mu8)) by repeat (with_reducible first | exact HB.out | refine below_set ?_ G6.out))
      clear B6 B4 HB
      have B6 := n0_
      have B4 := n1_
      have HB := n2_
      clear n0_ n1_ n2_
      go_wp2_with (fail)
      go_roundg 1
      case measure => omega
      case rel => exact ⟨4, (by first | rfl | kernel_rfl), ⟨by have := HI.out; omega⟩, ⟨by decide⟩, HB, B4, B6⟩
    | 3 =>
      obtain rfl : i = 2 := by have := HI.out; omega
      have B6 : Aside0 (wr.heap[g6]? = some (.cells #[.int .u64 a0, .int .i64 (wrap64 mu0), .int .i64 (wrap64 mu1), .int .u64 mu2, .int .i64 (wrap64 mu3), .int .u64 mu4, .int .i64 0, .int .u64 0, .int .i64 0, .int .u64 0, .int .i64 0, .int .u64 0] 44 (0, 0))) := B6r
      clear B6r
      obtain ⟨A1, A3, ct1, ct2, ct3, hA1, hA3, hL1, hL3⟩ := cuts w A0 c0 l0 40 40 56 HR0.out HC0.out rfl rfl (by have := H88.out; omega)
      have HA1 := Aside0.mk hA1
      have HA3 := Aside0.mk hA3
      have HL1 := Aside0.mk hL1
      have HL3 := Aside0.mk hL3
      clear hA1 hA3 hL1 hL3
      have x2 : ∀ w : World, (Instr.indexAt 42 (.pointer (some ⟨g6, 2, none⟩)) (.int .i64 2)).run Try.prog w = .ok (.pointer (some ⟨g6, 6, none⟩)) w := fun _ => by kernel_rfl
      go_upto_region 8 with (fail)
      refine RG.regionT 50 10 (fun W => Below w.heap.size w W ∧ W.heap[g4]? = some (.cells #[.int .u64 0, .int .i64 0, .int .i64 0, .int .u64 0, .int .i64 0, .int .u64 0, .int .i64 0, .int .u64 0, .int .i64 0, .int .u64 0, .int .i64 0, .int .u64 0] 44 (0, 0)) ∧ W.heap[g6]? = some (.cells #[.int .u64 a0, .int .i64 (wrap64 mu0), .int .i64 (wrap64 mu1), .int .u64 mu2, .int .i64 (wrap64 mu3), .int .u64 mu4, .int .i64 0, .int .u64 0, .int .i64 0, .int .u64 0, .int .i64 0, .int .u64 0] 44 (0, 0))) [Sp.exact ?_, Sp.exact ?_, Sp.exact ?_, Sp.exact ?_, Sp.exact ?_, Sp.exact ?_, Sp.exact ?_, Sp.exact ?_, Sp.exact ?_, Sp.exact ?_] (by kernel_rfl) (by kernel_rfl) (by kernel_rfl) rfl (fun _ _ hb h => ⟨below_then h.1 h.1.size hb, blk_below h.2.1 hb, blk_below h.2.2 hb⟩) (trivial) (⟨below_drew1 HB.out, blk_drew B4.out, blk_drew B6.out⟩) ?_
      rotate_right
      simp only [List.toList_toArray, List.take_succ_cons, List.take_zero, List.drop_succ_cons, List.drop_zero]
      refine rgW.just (b' := ?_) (Or.inl ⟨by rfl, ?_⟩) ?_ ?_; rotate_left; (focus (intro w'; go_simp; with_reducible rfl)); (focus (simp only [Act.put, List.setIfInBounds_toArray, List.set_cons_zero, List.set_cons_succ]; try rfl))
      refine rgW.just (b' := ?_) (Or.inl ⟨by rfl, ?_⟩) ?_ ?_; rotate_left; (focus (intro w'; go_simp; with_reducible rfl)); (focus (simp only [Act.put, List.setIfInBounds_toArray, List.set_cons_zero, List.set_cons_succ]; try rfl))
      refine rgW.just (b' := ?_) (Or.inl ⟨by rfl, ?_⟩) ?_ ?_; rotate_left; (focus (intro w'; go_simp; with_reducible rfl)); (focus (simp only [Act.put, List.setIfInBounds_toArray, List.set_cons_zero, List.set_cons_succ]; try rfl))
      refine rgW.callx (b' := ?_) (d := .int .u64 mu5) #[.slice A1 8 (c0 - 40)] Try.func47 (by kernel_rfl) rfl (by rfl) rfl (by (try simp only [List.map_toArray, List.map_cons, List.map_nil]); first | done | rfl) (fun W hS hK => ?_) ?_ ?_ ?_
      rotate_left
      · with_reducible refine (num8 k A1 (c0 - 40) ((l0.drop 40).take 8) mu5 W (by have := H88.out; rw [List.length_take, List.length_drop]; omega) (Kd.C_below HA1.out hS.1) HL1.out HU5.out).mono ?_
        rintro e W' ⟨rfl, hd⟩
        exact ⟨rfl, hd.below⟩
      · rfl
      · simp only [Act.put, List.setIfInBounds_toArray, List.set_cons_zero, List.set_cons_succ]
        try rfl
      refine rgW.just (b' := ?_) (Or.inl ⟨by rfl, ?_⟩) ?_ ?_; rotate_left; (focus (intro w'; go_simp; with_reducible rfl)); (focus (simp only [Act.put, List.setIfInBounds_toArray, List.set_cons_zero, List.set_cons_succ]; try rfl))
      refine rgW.just (b' := ?_) (Or.inl ⟨by rfl, ?_⟩) ?_ ?_; rotate_left; (focus (intro w'; go_simp; with_reducible rfl)); (focus (simp only [Act.put, List.setIfInBounds_toArray, List.set_cons_zero, List.set_cons_succ]; try rfl))
      refine rgW.just (b' := ?_) (Or.inl ⟨by rfl, ?_⟩) ?_ ?_; rotate_left; (focus (intro w'; go_simp; with_reducible rfl)); (focus (simp only [Act.put, List.setIfInBounds_toArray, List.set_cons_zero, List.set_cons_succ]; try rfl))
      refine rgW.callx (b' := ?_) (d := .int .u64 mu6) #[.slice A3 8 (c0 - 40 - 8)] Try.func47 (by kernel_rfl) rfl (by rfl) rfl (by (try simp only [List.map_toArray, List.map_cons, List.map_nil]); first | done | rfl) (fun W hS hK => ?_) ?_ ?_ ?_
      rotate_left
      · with_reducible refine (num8 k A3 (c0 - 40 - 8) ((l0.drop (40 + 8)).take 8) mu6 W (by have := H88.out; rw [List.length_take, List.length_drop]; omega) (Kd.C_below HA3.out hS.1) HL3.out HU6.out).mono ?_
        rintro e W' ⟨rfl, hd⟩
        exact ⟨rfl, hd.below⟩
      · rfl
      · simp only [Act.put, List.setIfInBounds_toArray, List.set_cons_zero, List.set_cons_succ]
        try rfl
      refine rgW.just (b' := ?_) (Or.inl ⟨by rfl, ?_⟩) ?_ ?_; rotate_left; (focus (intro w'; go_simp; with_reducible rfl)); (focus (simp only [Act.put, List.setIfInBounds_toArray, List.set_cons_zero, List.set_cons_succ]; try rfl))
      refine rgW.just (b' := ?_) (Or.inl ⟨by rfl, ?_⟩) ?_ ?_; rotate_left; (focus (intro w'; go_simp; with_reducible rfl)); (focus (simp only [Act.put, List.setIfInBounds_toArray, List.set_cons_zero, List.set_cons_succ]; try rfl))
      intro W hS hA
      clear hA HB B4 B6
      have HB := Aside0.mk hS.1
      have B4 := Aside0.mk hS.2.1
      have B6 := Aside0.mk hS.2.2
      clear hS
      have zz0 := (blk_cell B6.out 0).trans rfl
      have zf0 := blk_frozen B6.out 0
      have zz1 := (blk_cell B6.out 1).trans rfl
      have zf1 := blk_frozen B6.out 1
      have zz2 := (blk_cell B6.out 2).trans rfl
      have zf2 := blk_frozen B6.out 2
      have zz3 := (blk_cell B6.out 3).trans rfl
      have zf3 := blk_frozen B6.out 3
      have zz4 := (blk_cell B6.out 4).trans rfl
      have zf4 := blk_frozen B6.out 4
      have zz5 := (blk_cell B6.out 5).trans rfl
      have zf5 := blk_frozen B6.out 5
      have zz6 := (blk_cell B6.out 6).trans rfl
      have zf6 := blk_frozen B6.out 6
      have zz7 := (blk_cell B6.out 7).trans rfl
      have zf7 := blk_frozen B6.out 7
      have zz8 := (blk_cell B6.out 8).trans rfl
      have zf8 := blk_frozen B6.out 8
      have zz9 := (blk_cell B6.out 9).trans rfl
      have zf9 := blk_frozen B6.out 9
      have zz10 := (blk_cell B6.out 10).trans rfl
      have zf10 := blk_frozen B6.out 10
      have zz11 := (blk_cell B6.out 11).trans rfl
      have zf11 := blk_frozen B6.out 11
      go_upto_region 6 with (fail)
      clear zz0 zf0 zz1 zf1 zz2 zf2 zz3 zf3 zz4 zf4 zz5 zf5 zz6 zf6 zz7 zf7 zz8 zf8 zz9 zf9 zz10 zf10 zz11 zf11
      have n0_ := Aside0.mk (show ((W.setCell ⟨g6, 6, none⟩ (.int .i64 (wrap64 mu5))).setCell ⟨g6, 7, none⟩ (.int .u64 mu6)).heap[g6]? = some (.cells #[.int .u64 a0, .int .i64 (wrap64 mu0), .int .i64 (wrap64 mu1), .int .u64 mu2, .int .i64 (wrap64 mu3), .int .u64 mu4, .int .i64 (wrap64 mu5), .int .u64 mu6, .int .i64 0, .int .u64 0, .int .i64 0, .int .u64 0] 44 (0, 0)) by refine blk_put (cs := #[.int .u64 a0, .int .i64 (wrap64 mu0), .int .i64 (wrap64 mu1), .int .u64 mu2, .int .i64 (wrap64 mu3), .int .u64 mu4, .int .i64 (wrap64 mu5), .int .u64 0, .int .i64 0, .int .u64 0, .int .i64 0, .int .u64 0]) ?_ 7 _ rfl; refine blk_put (cs := #[.int .u64 a0, .int .i64 (wrap64 mu0), .int .i64 (wrap64 mu1), .int .u64 mu2, .int .i64 (wrap64 mu3), .int .u64 mu4, .int .i64 0, .int .u64 0, .int .i64 0, .int .u64 0, .int .i64 0, .int .u64 0]) ?_ 6 _ rfl; exact B6.out)
      have n1_ := Aside0.mk (show ((W.setCell ⟨g6, 6, none⟩ (.int .i64 (wrap64 mu5))).setCell ⟨g6, 7, none⟩ (.int .u64 mu6)).heap[g4]? = some (.cells #[.int .u64 0, .int .i64 0, .int .i64 0, .int .u64 0, .int .i64 0, .int .u64 0, .int .i64 0, .int .u64 0, .int .i64 0, .int .u64 0, .int .i64 0, .int .u64 0] 44 (0, 0)) by refine blk_far ?_ N46.out _; refine blk_far ?_ N46.out _; exact B4.out)
      have n2_ := Aside0.mk (show Below w.heap.size w ((W.setCell ⟨g6, 6, none⟩ (.int .i64 (wrap64 mu5))).setCell ⟨g6, 7, none⟩ (.int .u64 mu6)) by repeat (with_reducible first | exact HB.out | refine below_set ?_ G6.out))
      clear B6 B4 HB
      have B6 := n0_
      have B4 := n1_
      have HB := n2_
      clear n0_ n1_ n2_
      go_wp2_with (fail)
      go_roundg 2
      case measure => omega
      case rel => exact ⟨3, (by first | rfl | kernel_rfl), ⟨by have := HI.out; omega⟩, ⟨by decide⟩, HB, B4, B6⟩
    | 4 =>
      obtain rfl : i = 1 := by have := HI.out; omega
      have B6 : Aside0 (wr.heap[g6]? = some (.cells #[.int .u64 a0, .int .i64 (wrap64 mu0), .int .i64 (wrap64 mu1), .int .u64 mu2, .int .i64 0, .int .u64 0, .int .i64 0, .int .u64 0, .int .i64 0, .int .u64 0, .int .i64 0, .int .u64 0] 44 (0, 0))) := B6r
      clear B6r
      obtain ⟨A1, A3, ct1, ct2, ct3, hA1, hA3, hL1, hL3⟩ := cuts w A0 c0 l0 24 24 40 HR0.out HC0.out rfl rfl (by have := H88.out; omega)
      have HA1 := Aside0.mk hA1
      have HA3 := Aside0.mk hA3
      have HL1 := Aside0.mk hL1
      have HL3 := Aside0.mk hL3
      clear hA1 hA3 hL1 hL3
      have x1 : ∀ w : World, (Instr.indexAt 42 (.pointer (some ⟨g6, 2, none⟩)) (.int .i64 1)).run Try.prog w = .ok (.pointer (some ⟨g6, 4, none⟩)) w := fun _ => by kernel_rfl
      go_upto_region 8 with (fail)
      refine RG.regionT 50 10 (fun W => Below w.heap.size w W ∧ W.heap[g4]? = some (.cells #[.int .u64 0, .int .i64 0, .int .i64 0, .int .u64 0, .int .i64 0, .int .u64 0, .int .i64 0, .int .u64 0, .int .i64 0, .int .u64 0, .int .i64 0, .int .u64 0] 44 (0, 0)) ∧ W.heap[g6]? = some (.cells #[.int .u64 a0, .int .i64 (wrap64 mu0), .int .i64 (wrap64 mu1), .int .u64 mu2, .int .i64 0, .int .u64 0, .int .i64 0, .int .u64 0, .int .i64 0, .int .u64 0, .int .i64 0, .int .u64 0] 44 (0, 0))) [Sp.exact ?_, Sp.exact ?_, Sp.exact ?_, Sp.exact ?_, Sp.exact ?_, Sp.exact ?_, Sp.exact ?_, Sp.exact ?_, Sp.exact ?_, Sp.exact ?_] (by kernel_rfl) (by kernel_rfl) (by kernel_rfl) rfl (fun _ _ hb h => ⟨below_then h.1 h.1.size hb, blk_below h.2.1 hb, blk_below h.2.2 hb⟩) (trivial) (⟨below_drew1 HB.out, blk_drew B4.out, blk_drew B6.out⟩) ?_
      rotate_right
      simp only [List.toList_toArray, List.take_succ_cons, List.take_zero, List.drop_succ_cons, List.drop_zero]
      refine rgW.just (b' := ?_) (Or.inl ⟨by rfl, ?_⟩) ?_ ?_; rotate_left; (focus (intro w'; go_simp; with_reducible rfl)); (focus (simp only [Act.put, List.setIfInBounds_toArray, List.set_cons_zero, List.set_cons_succ]; try rfl))
      refine rgW.just (b' := ?_) (Or.inl ⟨by rfl, ?_⟩) ?_ ?_; rotate_left; (focus (intro w'; go_simp; with_reducible rfl)); (focus (simp only [Act.put, List.setIfInBounds_toArray, List.set_cons_zero, List.set_cons_succ]; try rfl))
      refine rgW.just (b' := ?_) (Or.inl ⟨by rfl, ?_⟩) ?_ ?_; rotate_left; (focus (intro w'; go_simp; with_reducible rfl)); (focus (simp only [Act.put, List.setIfInBounds_toArray, List.set_cons_zero, List.set_cons_succ]; try rfl))
      refine rgW.callx (b' := ?_) (d := .int .u64 mu3) #[.slice A1 8 (c0 - 24)] Try.func47 (by kernel_rfl) rfl (by rfl) rfl (by (try simp only [List.map_toArray, List.map_cons, List.map_nil]); first | done | rfl) (fun W hS hK => ?_) ?_ ?_ ?_
      rotate_left
      · with_reducible refine (num8 k A1 (c0 - 24) ((l0.drop 24).take 8) mu3 W (by have := H88.out; rw [List.length_take, List.length_drop]; omega) (Kd.C_below HA1.out hS.1) HL1.out HU3.out).mono ?_
        rintro e W' ⟨rfl, hd⟩
        exact ⟨rfl, hd.below⟩
      · rfl
      · simp only [Act.put, List.setIfInBounds_toArray, List.set_cons_zero, List.set_cons_succ]
        try rfl
      refine rgW.just (b' := ?_) (Or.inl ⟨by rfl, ?_⟩) ?_ ?_; rotate_left; (focus (intro w'; go_simp; with_reducible rfl)); (focus (simp only [Act.put, List.setIfInBounds_toArray, List.set_cons_zero, List.set_cons_succ]; try rfl))
      refine rgW.just (b' := ?_) (Or.inl ⟨by rfl, ?_⟩) ?_ ?_; rotate_left; (focus (intro w'; go_simp; with_reducible rfl)); (focus (simp only [Act.put, List.setIfInBounds_toArray, List.set_cons_zero, List.set_cons_succ]; try rfl))
      refine rgW.just (b' := ?_) (Or.inl ⟨by rfl, ?_⟩) ?_ ?_; rotate_left; (focus (intro w'; go_simp; with_reducible rfl)); (focus (simp only [Act.put, List.setIfInBounds_toArray, List.set_cons_zero, List.set_cons_succ]; try rfl))
      refine rgW.callx (b' := ?_) (d := .int .u64 mu4) #[.slice A3 8 (c0 - 24 - 8)] Try.func47 (by kernel_rfl) rfl (by rfl) rfl (by (try simp only [List.map_toArray, List.map_cons, List.map_nil]); first | done | rfl) (fun W hS hK => ?_) ?_ ?_ ?_
      rotate_left
      · with_reducible refine (num8 k A3 (c0 - 24 - 8) ((l0.drop (24 + 8)).take 8) mu4 W (by have := H88.out; rw [List.length_take, List.length_drop]; omega) (Kd.C_below HA3.out hS.1) HL3.out HU4.out).mono ?_
        rintro e W' ⟨rfl, hd⟩
        exact ⟨rfl, hd.below⟩
      · rfl
      · simp only [Act.put, List.setIfInBounds_toArray, List.set_cons_zero, List.set_cons_succ]
        try rfl
      refine rgW.just (b' := ?_) (Or.inl ⟨by rfl, ?_⟩) ?_ ?_; rotate_left; (focus (intro w'; go_simp; with_reducible rfl)); (focus (simp only [Act.put, List.setIfInBounds_toArray, List.set_cons_zero, List.set_cons_succ]; try rfl))
      refine rgW.just (b' := ?_) (Or.inl ⟨by rfl, ?_⟩) ?_ ?_; rotate_left; (focus (intro w'; go_simp; with_reducible rfl)); (focus (simp only [Act.put, List.setIfInBounds_toArray, List.set_cons_zero, List.set_cons_succ]; try rfl))
      intro W hS hA
      clear hA HB B4 B6
      have HB := Aside0.mk hS.1
      have B4 := Aside0.mk hS.2.1
      have B6 := Aside0.mk hS.2.2
      clear hS
      have zz0 := (blk_cell B6.out 0).trans rfl
      have zf0 := blk_frozen B6.out 0
      have zz1 := (blk_cell B6.out 1).trans rfl
      have zf1 := blk_frozen B6.out 1
      have zz2 := (blk_cell B6.out 2).trans rfl
      have zf2 := blk_frozen B6.out 2
      have zz3 := (blk_cell B6.out 3).trans rfl
      have zf3 := blk_frozen B6.out 3
      have zz4 := (blk_cell B6.out 4).trans rfl
      have zf4 := blk_frozen B6.out 4
      have zz5 := (blk_cell B6.out 5).trans rfl
      have zf5 := blk_frozen B6.out 5
      have zz6 := (blk_cell B6.out 6).trans rfl
      have zf6 := blk_frozen B6.out 6
      have zz7 := (blk_cell B6.out 7).trans rfl
      have zf7 := blk_frozen B6.out 7
      have zz8 := (blk_cell B6.out 8).trans rfl
      have zf8 := blk_frozen B6.out 8
      have zz9 := (blk_cell B6.out 9).trans rfl
      have zf9 := blk_frozen B6.out 9
      have zz10 := (blk_cell B6.out 10).trans rfl
      have zf10 := blk_frozen B6.out 10
      have zz11 := (blk_cell B6.out 11).trans rfl
      have zf11 := blk_frozen B6.out 11
      go_upto_region 6 with (fail)
      clear zz0 zf0 zz1 zf1 zz2 zf2 zz3 zf3 zz4 zf4 zz5 zf5 zz6 zf6 zz7 zf7 zz8 zf8 zz9 zf9 zz10 zf10 zz11 zf11
      have n0_ := Aside0.mk (show ((W.setCell ⟨g6, 4, none⟩ (.int .i64 (wrap64 mu3))).setCell ⟨g6, 5, none⟩ (.int .u64 mu4)).heap[g6]? = some (.cells #[.int .u64 a0, .int .i64 (wrap64 mu0), .int .i64 (wrap64 mu1), .int .u64 mu2, .int .i64 (wrap64 mu3), .int .u64 mu4, .int .i64 0, .int .u64 0, .int .i64 0, .int .u64 0, .int .i64 0, .int .u64 0] 44 (0, 0)) by refine blk_put (cs := #[.int .u64 a0, .int .i64 (wrap64 mu0), .int .i64 (wrap64 mu1), .int .u64 mu2, .int .i64 (wrap64 mu3), .int .u64 0, .int .i64 0, .int .u64 0, .int .i64 0, .int .u64 0, .int .i64 0, .int .u64 0]) ?_ 5 _ rfl; refine blk_put (cs := #[.int .u64 a0, .int .i64 (wrap64 mu0), .int .i64 (wrap64 mu1), .int .u64 mu2, .int .i64 0, .int .u64 0, .int .i64 0, .int .u64 0, .int .i64 0, .int .u64 0, .int .i64 0, .int .u64 0]) ?_ 4 _ rfl; exact B6.out)
      have n1_ := Aside0.mk (show ((W.setCell ⟨g6, 4, none⟩ (.int .i64 (wrap64 mu3))).setCell ⟨g6, 5, none⟩ (.int .u64 mu4)).heap[g4]? = some (.cells #[.int .u64 0, .int .i64 0, .int .i64 0, .int .u64 0, .int .i64 0, .int .u64 0, .int .i64 0, .int .u64 0, .int .i64 0, .int .u64 0, .int .i64 0, .int .u64 0] 44 (0, 0)) by refine blk_far ?_ N46.out _; refine blk_far ?_ N46.out _; exact B4.out)
      have n2_ := Aside0.mk (show Below w.heap.size w ((W.setCell ⟨g6, 4, none⟩ (.int .i64 (wrap64 mu3))).setCell ⟨g6, 5, none⟩ (.int .u64 mu4)) by repeat (with_reducible first | exact HB.out | refine below_set ?_ G6.out))
      clear B6 B4 HB
      have B6 := n0_
      have B4 := n1_
      have HB := n2_
      clear n0_ n1_ n2_
      go_wp2_with (fail)
      go_roundg 3
      case measure => omega
      case rel => exact ⟨2, (by first | rfl | kernel_rfl), ⟨by have := HI.out; omega⟩, ⟨by decide⟩, HB, B4, B6⟩
    | 5 =>
      obtain rfl : i = 0 := by have := HI.out; omega
      have B6 : Aside0 (wr.heap[g6]? = some (.cells #[.int .u64 a0, .int .i64 (wrap64 mu0), .int .i64 0, .int .u64 0, .int .i64 0, .int .u64 0, .int .i64 0, .int .u64 0, .int .i64 0, .int .u64 0, .int .i64 0, .int .u64 0] 44 (0, 0))) := B6r
      clear B6r
      obtain ⟨A1, A3, ct1, ct2, ct3, hA1, hA3, hL1, hL3⟩ := cuts w A0 c0 l0 8 8 24 HR0.out HC0.out rfl rfl (by have := H88.out; omega)
      have HA1 := Aside0.mk hA1
      have HA3 := Aside0.mk hA3
      have HL1 := Aside0.mk hL1
      have HL3 := Aside0.mk hL3
      clear hA1 hA3 hL1 hL3
      have x0 : ∀ w : World, (Instr.indexAt 42 (.pointer (some ⟨g6, 2, none⟩)) (.int .i64 0)).run Try.prog w = .ok (.pointer (some ⟨g6, 2, none⟩)) w := fun _ => by kernel_rfl
      go_upto_region 8 with (fail)
      refine RG.regionT 50 10 (fun W => Below w.heap.size w W ∧ W.heap[g4]? = some (.cells #[.int .u64 0, .int .i64 0, .int .i64 0, .int .u64 0, .int .i64 0, .int .u64 0, .int .i64 0, .int .u64 0, .int .i64 0, .int .u64 0, .int .i64 0, .int .u64 0] 44 (0, 0)) ∧ W.heap[g6]? = some (.cells #[.int .u64 a0, .int .i64 (wrap64 mu0), .int .i64 0, .int .u64 0, .int .i64 0, .int .u64 0, .int .i64 0, .int .u64 0, .int .i64 0, .int .u64 0, .int .i64 0, .int .u64 0] 44 (0, 0))) [Sp.exact ?_, Sp.exact ?_, Sp.exact ?_, Sp.exact ?_, Sp.exact ?_, Sp.exact ?_, Sp.exact ?_, Sp.exact ?_, Sp.exact ?_, Sp.exact ?_] (by kernel_rfl) (by kernel_rfl) (by kernel_rfl) rfl (fun _ _ hb h => ⟨below_then h.1 h.1.size hb, blk_below h.2.1 hb, blk_below h.2.2 hb⟩) (trivial) (⟨below_drew1 HB.out, blk_drew B4.out, blk_drew B6.out⟩) ?_
      rotate_right
      simp only [List.toList_toArray, List.take_succ_cons, List.take_zero, List.drop_succ_cons, List.drop_zero]
      refine rgW.just (b' := ?_) (Or.inl ⟨by rfl, ?_⟩) ?_ ?_; rotate_left; (focus (intro w'; go_simp; with_reducible rfl)); (focus (simp only [Act.put, List.setIfInBounds_toArray, List.set_cons_zero, List.set_cons_succ]; try rfl))
      refine rgW.just (b' := ?_) (Or.inl ⟨by rfl, ?_⟩) ?_ ?_; rotate_left; (focus (intro w'; go_simp; with_reducible rfl)); (focus (simp only [Act.put, List.setIfInBounds_toArray, List.set_cons_zero, List.set_cons_succ]; try rfl))
      refine rgW.just (b' := ?_) (Or.inl ⟨by rfl, ?_⟩) ?_ ?_; rotate_left; (focus (intro w'; go_simp; with_reducible rfl)); (focus (simp only [Act.put, List.setIfInBounds_toArray, List.set_cons_zero, List.set_cons_succ]; try rfl))
      refine rgW.callx (b' := ?_) (d := .int .u64 mu1) #[.slice A1 8 (c0 - 8)] Try.func47 (by kernel_rfl) rfl (by rfl) rfl (by (try simp only [List.map_toArray, List.map_cons, List.map_nil]); first | done | rfl) (fun W hS hK => ?_) ?_ ?_ ?_
      rotate_left
      · with_reducible refine (num8 k A1 (c0 - 8) ((l0.drop 8).take 8) mu1 W (by have := H88.out; rw [List.length_take, List.length_drop]; omega) (Kd.C_below HA1.out hS.1) HL1.out HU1.out).mono ?_
        rintro e W' ⟨rfl, hd⟩
        exact ⟨rfl, hd.below⟩
      · rfl
      · simp only [Act.put, List.setIfInBounds_toArray, List.set_cons_zero, List.set_cons_succ]
        try rfl
      refine rgW.just (b' := ?_) (Or.inl ⟨by rfl, ?_⟩) ?_ ?_; rotate_left; (focus (intro w'; go_simp; with_reducible rfl)); (focus (simp only [Act.put, List.setIfInBounds_toArray, List.set_cons_zero, List.set_cons_succ]; try rfl))
      refine rgW.just (b' := ?_) (Or.inl ⟨by rfl, ?_⟩) ?_ ?_; rotate_left; (focus (intro w'; go_simp; with_reducible rfl)); (focus (simp only [Act.put, List.setIfInBounds_toArray, List.set_cons_zero, List.set_cons_succ]; try rfl))
      refine rgW.just (b' := ?_) (Or.inl ⟨by rfl, ?_⟩) ?_ ?_; rotate_left; (focus (intro w'; go_simp; with_reducible rfl)); (focus (simp only [Act.put, List.setIfInBounds_toArray, List.set_cons_zero, List.set_cons_succ]; try rfl))
      refine rgW.callx (b' := ?_) (d := .int .u64 mu2) #[.slice A3 8 (c0 - 8 - 8)] Try.func47 (by kernel_rfl) rfl (by rfl) rfl (by (try simp only [List.map_toArray, List.map_cons, List.map_nil]); first | done | rfl) (fun W hS hK => ?_) ?_ ?_ ?_
      rotate_left
      · with_reducible refine (num8 k A3 (c0 - 8 - 8) ((l0.drop (8 + 8)).take 8) mu2 W (by have := H88.out; rw [List.length_take, List.length_drop]; omega) (Kd.C_below HA3.out hS.1) HL3.out HU2.out).mono ?_
        rintro e W' ⟨rfl, hd⟩
        exact ⟨rfl, hd.below⟩
      · rfl
      · simp only [Act.put, List.setIfInBounds_toArray, List.set_cons_zero, List.set_cons_succ]
        try rfl
      refine rgW.just (b' := ?_) (Or.inl ⟨by rfl, ?_⟩) ?_ ?_; rotate_left; (focus (intro w'; go_simp; with_reducible rfl)); (focus (simp only [Act.put, List.setIfInBounds_toArray, List.set_cons_zero, List.set_cons_succ]; try rfl))
      refine rgW.just (b' := ?_) (Or.inl ⟨by rfl, ?_⟩) ?_ ?_; rotate_left; (focus (intro w'; go_simp; with_reducible rfl)); (focus (simp only [Act.put, List.setIfInBounds_toArray, List.set_cons_zero, List.set_cons_succ]; try rfl))
      intro W hS hA
      clear hA HB B4 B6
      have HB := Aside0.mk hS.1
      have B4 := Aside0.mk hS.2.1
      have B6 := Aside0.mk hS.2.2
      clear hS
      have zz0 := (blk_cell B6.out 0).trans rfl
      have zf0 := blk_frozen B6.out 0
      have zz1 := (blk_cell B6.out 1).trans rfl
      have zf1 := blk_frozen B6.out 1
      have zz2 := (blk_cell B6.out 2).trans rfl
      have zf2 := blk_frozen B6.out 2
      have zz3 := (blk_cell B6.out 3).trans rfl
      have zf3 := blk_frozen B6.out 3
      have zz4 := (blk_cell B6.out 4).trans rfl
      have zf4 := blk_frozen B6.out 4
      have zz5 := (blk_cell B6.out 5).trans rfl
      have zf5 := blk_frozen B6.out 5
      have zz6 := (blk_cell B6.out 6).trans rfl
      have zf6 := blk_frozen B6.out 6
      have zz7 := (blk_cell B6.out 7).trans rfl
      have zf7 := blk_frozen B6.out 7
      have zz8 := (blk_cell B6.out 8).trans rfl
      have zf8 := blk_frozen B6.out 8
      have zz9 := (blk_cell B6.out 9).trans rfl
      have zf9 := blk_frozen B6.out 9
      have zz10 := (blk_cell B6.out 10).trans rfl
      have zf10 := blk_frozen B6.out 10
      have zz11 := (blk_cell B6.out 11).trans rfl
      have zf11 := blk_frozen B6.out 11
      go_upto_region 6 with (fail)
      clear zz0 zf0 zz1 zf1 zz2 zf2 zz3 zf3 zz4 zf4 zz5 zf5 zz6 zf6 zz7 zf7 zz8 zf8 zz9 zf9 zz10 zf10 zz11 zf11
      have n0_ := Aside0.mk (show ((W.setCell ⟨g6, 2, none⟩ (.int .i64 (wrap64 mu1))).setCell ⟨g6, 3, none⟩ (.int .u64 mu2)).heap[g6]? = some (.cells #[.int .u64 a0, .int .i64 (wrap64 mu0), .int .i64 (wrap64 mu1), .int .u64 mu2, .int .i64 0, .int .u64 0, .int .i64 0, .int .u64 0, .int .i64 0, .int .u64 0, .int .i64 0, .int .u64 0] 44 (0, 0)) by refine blk_put (cs := #[.int .u64 a0, .int .i64 (wrap64 mu0), .int .i64 (wrap64 mu1), .int .u64 0, .int .i64 0, .int .u64 0, .int .i64 0, .int .u64 0, .int .i64 0, .int .u64 0, .int .i64 0, .int .u64 0]) ?_ 3 _ rfl; refine blk_put (cs := #[.int .u64 a0, .int .i64 (wrap64 mu0), .int .i64 0, .int .u64 0, .int .i64 0, .int .u64 0, .int .i64 0, .int .u64 0, .int .i64 0, .int .u64 0, .int .i64 0, .int .u64 0]) ?_ 2 _ rfl; exact B6.out)
      have n1_ := Aside0.mk (show ((W.setCell ⟨g6, 2, none⟩ (.int .i64 (wrap64 mu1))).setCell ⟨g6, 3, none⟩ (.int .u64 mu2)).heap[g4]? = some (.cells #[.int .u64 0, .int .i64 0, .int .i64 0, .int .u64 0, .int .i64 0, .int .u64 0, .int .i64 0, .int .u64 0, .int .i64 0, .int .u64 0, .int .i64 0, .int .u64 0] 44 (0, 0)) by refine blk_far ?_ N46.out _; refine blk_far ?_ N46.out _; exact B4.out)
      have n2_ := Aside0.mk (show Below w.heap.size w ((W.setCell ⟨g6, 2, none⟩ (.int .i64 (wrap64 mu1))).setCell ⟨g6, 3, none⟩ (.int .u64 mu2)) by repeat (with_reducible first | exact HB.out | refine below_set ?_ G6.out))
      clear B6 B4 HB
      have B6 := n0_
      have B4 := n1_
      have HB := n2_
      clear n0_ n1_ n2_
      go_wp2_with (fail)
      go_roundg 4
      case measure => omega
      case rel => exact ⟨1, (by first | rfl | kernel_rfl), ⟨by have := HI.out; omega⟩, ⟨by decide⟩, HB, B4, B6⟩
    | n + 6 => exact absurd HI.out (by have := HI0.out; omega)
end Go.Proofs.Ytffdonpkmnngpaa.PRootAll
