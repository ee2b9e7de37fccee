/- The reader of the document's answer: its state is a row that is still to be read and whether it was too short. Bound to this program. -/
import Derived.Test.YtfgeffmlfbeodaaRd
import Derived.Test.YtfgeffmlfbeodaaPEventAllx3
namespace Go.Proofs.Ytfgeffmlfbeodaa.Rf
open Go Go.RowKit Go.Proofs Go.Proofs.Ytfgeffmlfbeodaa.RG Go.Proofs.Ytfgeffmlfbeodaa.RP Go.Proofs.Ytfgeffmlfbeodaa.Rd Go.Proofs.Ytfgeffmlfbeodaa.PEventAll Go.Proofs.YtfgeffmlfbeodaaW.PrintWords Go.Proofs.YtfgeffmlfbeodaaW.PrintLast Go.Proofs.YtfgeffmlfbeodaaW.PrintMore
set_option linter.unusedVariables false
set_option linter.unusedSimpArgs false
/-- What is read of a row: the bytes, the rest, whether it was too short. -/
def rtk (xs : List Int) (s : Bool) (n : Int) : List Int × List Int × Bool := if (xs.length : Int) < n then ([], xs, true) else if s = true then ([], xs, true) else (xs.take n.toNat, xs.drop n.toNat, false)
structure St (w0 : World) (g : Nat) (xs : List Int) (s : Bool) (w : World) : Prop where
  below : Below w0.heap.size w0 w
  le : w0.heap.size ≤ g
  blk : ∃ A c, w.heap[g]? = some (.cells #[.slice A xs.length c, .bool s] 100 (0, 0)) ∧ xs.length ≤ c ∧ Kd.C (Kd.int .u8) w0 A xs.length xs
theorem St.next {w0 : World} {g : Nat} {xs : List Int} {s : Bool} {w w' : World} (h : St w0 g xs s w) (hb : Below w.heap.size w w') : St w0 g xs s w' := by
  obtain ⟨h1, h2, A, c, h3, h4⟩ := h
  exact ⟨below_then h1 h1.size hb, h2, A, c, blk_below h3 hb, h4⟩
theorem St.far {w0 : World} {g g' : Nat} {xs : List Int} {s : Bool} {w : World} (h : St w0 g xs s w) (hg : w0.heap.size ≤ g') (hne : g ≠ g') (j : Nat) (u : Value) : St w0 g xs s (w.setCell ⟨g', j, none⟩ u) := by
  obtain ⟨h1, h2, A, c, h3, h4⟩ := h
  exact ⟨below_set h1 hg, h2, A, c, blk_far h3 (p := ⟨g', j, none⟩) hne u, h4⟩
theorem keep_below {w0 w w' : World} {g : Nat} (h : KeepBut w w' g none) (hb : Below w0.heap.size w0 w) (hg : w0.heap.size ≤ g) (h1 : w'.os = w.os) (h2 : w'.tape = w.tape) (h3 : w'.output = w.output) : Below w0.heap.size w0 w' :=
  ⟨h1.trans hb.os, h2.trans hb.tape, h3.trans hb.output, Nat.le_trans hb.size h.1, fun k hk => (h.2 k (Nat.lt_of_lt_of_le hk hb.size) (by omega) (by simp)).trans (hb.block k hk)⟩
set_option maxHeartbeats 4000000 in
set_option maxRecDepth 100000 in
theorem take (w0 w : World) (g : Nat) (xs : List Int) (s : Bool) (n : Int) (hS : St w0 g xs s w) (hn0 : 0 ≤ n) (hn : n ≤ 255) :
    Calls Try.prog 113 #[.pointer (some ⟨g, 0, none⟩), .int .i64 n] w fun e w' => ∃ v, e = .returned v ∧ KeepBut w w' g none ∧ St w0 g (rtk xs s n).2.1 (rtk xs s n).2.2 w' ∧ Kd.R (Kd.int .u8) 5 w' w.heap.size (fun k => w.heap.size ≤ k) v (rtk xs s n).1 := by
  obtain ⟨hb0, hle, A, c, hblk, hc, hC⟩ := hS
  have hu100 := Try.underlying100
  have hgw : g < w.heap.size := blk_lt hblk
  have HB0 := Aside0.mk hb0
  have HLE := Aside0.mk hle
  have GW := Aside0.mk hgw
  have BK := Aside0.mk hblk
  have HCC := Aside0.mk hc
  have HC0 := Aside0.mk hC
  have hmax : xs.length ≤ 9223372036854775807 := hC.2.1
  by_cases hlt : (xs.length : Int) < n
  · have b0 : decide (n > (xs.length : Int)) = true := decide_eq_true hlt
    have b1 : decide ((xs.length : Int) < n) = true := decide_eq_true hlt
    have ht : rtk xs s n = ([], xs, true) := by unfold rtk; rw [if_pos hlt]
    rw [ht]
    have hz0 := (blk_cell BK.out 0).trans rfl
    have hz1 := (blk_cell BK.out 1).trans rfl
    have hf0 := blk_frozen BK.out 0
    have hf1 := blk_frozen BK.out 1
    clear ht hlt hC hblk hb0 hle
    go_enter Try.func113, Try.ntmps113
    go_wp2
    go_ret
    refine ⟨_, rfl, KeepBut.set_ (KeepBut.refl _ _ _) 1 _, ⟨below_set HB0.out HLE.out, HLE.out, A, c, blk_put BK.out 1 _ rfl, HCC.out, HC0.out⟩, Kd.R_nil _ _ _ _ _⟩
  · have b0 : decide (n > (xs.length : Int)) = false := decide_eq_false hlt
    have b1 : decide ((xs.length : Int) < n) = false := decide_eq_false hlt
    cases s
    · have ht : rtk xs false n = (xs.take n.toNat, xs.drop n.toNat, false) := by unfold rtk; rw [if_neg hlt, if_neg (by decide)]
      rw [ht]
      clear ht
      have hz0 := (blk_cell BK.out 0).trans rfl
      have hz1 := (blk_cell BK.out 1).trans rfl
      have hf0 := blk_frozen BK.out 0
      have hf1 := blk_frozen BK.out 1
      obtain ⟨i0, hi0, _, hsz, _⟩ := info_parts Rd.info5
      obtain ⟨y1, hy1⟩ : ∃ y : List Int, y = xs.take n.toNat := ⟨_, rfl⟩
      obtain ⟨y2, hy2⟩ : ∃ y : List Int, y = xs.drop n.toNat := ⟨_, rfl⟩
      have hyl : y1.length ≤ 255 := by rw [hy1, List.length_take]; omega
      obtain ⟨hcut1, hA1, hC1⟩ := print_take_of (P := Try.prog) (Value.int .u8) 0 22 5 .i64 Try.underlying22 hi0 hsz A c xs n hn0 (by omega) hc
      obtain ⟨A2, hcut2, hA2, hC2⟩ := print_drop_of (P := Try.prog) (Value.int .u8) 0 22 5 .i64 Try.underlying22 hi0 hsz A c xs n hn0 (by omega) hc
      rw [← hy1] at hcut1 hA1 hC1
      rw [← hy2] at hcut2 hA2 hC2
      simp only [← hy1, ← hy2]
      have HC1 : Aside0 (Kd.C (Kd.int .u8) w0 A y1.length y1) := Aside0.mk (Kd.C_of_reads (h1 := fun _ => rfl) (hA1 _ (Kd.reads_of_C hC)))
      have HC2 : Aside0 (Kd.C (Kd.int .u8) w0 A2 y2.length y2) := Aside0.mk (Kd.C_of_reads (h1 := fun _ => rfl) (hA2 _ (Kd.reads_of_C hC)))
      have HL1 := Aside0.mk hC1
      have HL2 := Aside0.mk hC2
      have LM := Aside0.mk hyl
      clear hC hblk hb0 hle hA1 hA2 hC1 hC2 hy1 hy2 hyl hlt hi0 hsz hn0 hn hmax
      go_enter Try.func113, Try.ntmps113
      go_upto_region 7 with (fail)
      obtain ⟨W, hW⟩ : ∃ W, W = w.setCell ⟨g, 0, none⟩ (.slice A2 y2.length (c - n.toNat)) := ⟨_, rfl⟩
      rw [← hW]
      have HK := Aside0.mk (show KeepBut w W g none by rw [hW]; exact KeepBut.set_ (KeepBut.refl _ _ _) 0 _)
      have HS := Aside0.mk (show St w0 g y2 false W by rw [hW]; exact ⟨below_set HB0.out HLE.out, HLE.out, A2, _, blk_put BK.out 0 _ rfl, HL2.out, HC2.out⟩)
      have HCW := Aside0.mk (Kd.C_below HC1.out HS.out.below)
      clear hW hz0 hz1 hf0 hf1
      go_wp2_with (first | ((with_reducible refine gate_dst (N := 35) rfl ?_); refine Kd.R_lit (Kd.int .u8) _ 5 ?hg (N := 35) ?hd (xs := ([] : List Int)) (inner := []) (ok := fun k => W.heap.size ≤ k) (okp := fun k => W.heap.size ≤ k) ?hr ?hp (fun _ hk => hk) (Nat.le_refl _) (Below.refl _ _) (Nat.le_refl _) (by simp) ?_; (case hd => rfl); (case hg => rfl); (case hr => first | (go_simp; done) | (go_simp; rfl)); (case hp => exact (Reps.none _ _)); intro v1 w3 ho4 hb hg_ hnew_; clear hg_ hnew_; have HB := Aside0.mk hb; have HO := Aside0.mk ho4; clear hb ho4) | ((with_reducible refine gate_builtin (b := .append) (xs := #[.tmp 35, .tmp 36]) rfl ?_); at_builtin; refine Kd.R_append_rows (Kd.int .u8) (w0 := W) W.heap.size rfl (.tmp 35) (.tmp 36) 22 5 (.int .u8 0) 1 rfl Try.underlying22 Rd.info5 rfl (by decide) (by omega) v1 [] y1 _ _ _ (fun k => W.heap.size ≤ k) (fun _ => False) rfl rfl ?aO ?aR (fun _ _ h => h) (fun _ h => h.elim) ?aF ?aB ?aS ?aL ?_; (case aR => exact Kd.C_below HCW.out HB.out); (case aB => exact HB.out); (case aF => exact (fun _ hk => Nat.le_trans (below_size HB.out) hk)); (case aO => exact HO.out); (case aS => exact below_size HB.out); (case aL => have := LM.out; simp only [List.length_nil]; omega); intro v2 w5 ho hb hg hat; have n1_ := Aside0.mk hb; have n0_ := Aside0.mk ho; clear HB HO; have HO := n0_; have HB := n1_; clear n0_ n1_; clear hb ho hg hat))
      go_ret
      exact ⟨_, rfl, HK.out.trans (KeepBut.of_below HB.out g none) (.inl rfl), HS.out.next HB.out, Kd.R_lower (Kd.R_mono HO.out (fun k hk => Nat.le_trans HK.out.1 hk)) HK.out.1⟩
    · have ht : rtk xs true n = ([], xs, true) := by unfold rtk; rw [if_neg hlt, if_pos rfl]
      rw [ht]
      have hz0 := (blk_cell BK.out 0).trans rfl
      have hz1 := (blk_cell BK.out 1).trans rfl
      have hf0 := blk_frozen BK.out 0
      have hf1 := blk_frozen BK.out 1
      clear ht hlt hC hblk hb0 hle
      go_enter Try.func113, Try.ntmps113
      go_wp2
      go_ret
      exact ⟨_, rfl, KeepBut.refl _ _ _, ⟨HB0.out, HLE.out, A, c, BK.out, HCC.out, HC0.out⟩, Kd.R_nil _ _ _ _ _⟩
/-- A number. -/
theorem num (w0 w : World) (g : Nat) (xs : List Int) (s : Bool) (n v : Int) (k : Nat) (hS : St w0 g xs s w) (hn0 : 0 ≤ n) (hn : n ≤ 255) (hv : pandectref2_Num.f k (rtk xs s n).1 = some v) :
    Calls Try.prog 79 #[.pointer (some ⟨g, 0, none⟩), .int .i64 n] w fun e w' => e = .returned (.int .u64 v) ∧ KeepBut w w' g none ∧ St w0 g (rtk xs s n).2.1 (rtk xs s n).2.2 w' := by
  have h113 := take w0 w g xs s n hS hn0 hn
  obtain ⟨y, hy⟩ : ∃ y, y = (rtk xs s n).1 := ⟨_, rfl⟩
  rw [← hy] at h113 hv
  have H113 := Aside0.mk h113
  have HV := Aside0.mk hv
  clear hS h113 hv hy
  go_enter Try.func79, Try.ntmps79
  go_wp2_with (first | (go_at_call 113; (with_reducible refine H113.out.mono ?_); rintro e w5 ⟨v, rfl, hk, hs, hr⟩; have HK := Aside0.mk hk; have HS5 := Aside0.mk hs; obtain ⟨A, c, rfl, hc, hC⟩ := Kd.R_reads hr; have HR := Aside0.mk hC; have HC := Aside0.mk hc; clear hk hs hr hc hC) | (go_at_call 86; (with_reducible refine (pandectref2_Num.calls k _ _ y _ _ ?s1 ?s2 HV.out).mono ?_); (case s1 => exact HR.out); (case s2 => exact HC.out); rintro e w6 ⟨rfl, hd⟩; have HD := Aside0.mk hd.below; clear hd))
  go_ret
  exact ⟨rfl, HK.out.trans (KeepBut.of_below HD.out g none) (.inl rfl), HS5.out.next HD.out⟩
/-- A text behind its length. -/
theorem rtext (w0 w : World) (g : Nat) (xs : List Int) (s : Bool) (v : Int) (k : Nat) (hS : St w0 g xs s w) (hv : pandectref2_Num.f k (rtk xs s 1).1 = some v) (hv0 : 0 ≤ v) (hv1 : v ≤ 255) :
    Calls Try.prog 80 #[.pointer (some ⟨g, 0, none⟩)] w fun e w' => ∃ u, e = .returned u ∧ KeepBut w w' g none ∧ St w0 g (rtk (rtk xs s 1).2.1 (rtk xs s 1).2.2 v).2.1 (rtk (rtk xs s 1).2.1 (rtk xs s 1).2.2 v).2.2 w' ∧ Kd.R (Kd.int .u8) 5 w' w.heap.size (fun k => w.heap.size ≤ k) u (rtk (rtk xs s 1).2.1 (rtk xs s 1).2.2 v).1 := by
  have h79 := num w0 w g xs s 1 v k hS (by decide) (by decide) hv
  have H79 := Aside0.mk h79
  have V0 := Aside0.mk hv0
  have V1 := Aside0.mk hv1
  have hw : wrap64 v = v := by unfold wrap64; omega
  clear hS h79 hv hv0 hv1
  go_enter Try.func80, Try.ntmps80
  go_wp2_with (first | (go_at_call 79; (with_reducible refine H79.out.mono ?_); rintro e w5 ⟨rfl, hk, hs⟩; have HK := Aside0.mk hk; have HS5 := Aside0.mk hs; clear hk hs) | (go_at_call 113; (with_reducible refine (take w0 _ g _ _ v HS5.out V0.out V1.out).mono ?_); rintro e w6 ⟨u, rfl, hk, hs, hr⟩; have HK6 := Aside0.mk hk; have HS6 := Aside0.mk hs; have HR6 := Aside0.mk hr; clear hk hs hr))
  go_ret
  exact ⟨_, rfl, HK.out.trans HK6.out (.inl rfl), HS6.out, Kd.R_lower (Kd.R_mono HR6.out (fun k hk => Nat.le_trans HK.out.1 hk)) HK.out.1⟩
end Go.Proofs.Ytfgeffmlfbeodaa.Rf
