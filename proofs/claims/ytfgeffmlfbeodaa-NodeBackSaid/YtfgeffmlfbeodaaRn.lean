/- The reader of nodes: its state is a row that is still to be read and whether it was too short; what reading does. Bound to this program. -/
import Derived.Test.YtfgeffmlfbeodaaRP
import Derived.Test.YtfgeffmlfbeodaaWLast
import Derived.Test.YtfgeffmlfbeodaaProg
namespace Go.Proofs.Ytfgeffmlfbeodaa.Rn
open Go Go.RowKit Go.Proofs Go.Proofs.Ytfgeffmlfbeodaa.RG Go.Proofs.Ytfgeffmlfbeodaa.RP Go.Proofs.YtfgeffmlfbeodaaW.PrintWords Go.Proofs.YtfgeffmlfbeodaaW.PrintLast Go.Proofs.YtfgeffmlfbeodaaW.PrintMore
set_option linter.unusedVariables false
set_option linter.unusedSimpArgs false
theorem info5 : (Try.prog.info? 5).map (fun i => (i.zero, i.size, i.bytes)) = some (some (.int .u8 0), 1, 1) := by kernel_rfl
/-- What is read of a row: the bytes, the rest, whether it was too short. -/
def txt (xs : List Int) (s : Bool) (n : Int) : List Int × List Int × Bool := if (xs.length : Int) < n then ([], [], true) else (xs.take n.toNat, xs.drop n.toNat, s)
/-- A reader in block g. -/
structure St (w0 : World) (g : Nat) (xs : List Int) (s : Bool) (w : World) : Prop where
  below : Below w0.heap.size w0 w
  le : w0.heap.size ≤ g
  blk : ∃ A c, w.heap[g]? = some (.cells #[.slice A xs.length c, .bool s] 125 (0, 0)) ∧ xs.length ≤ c ∧ Kd.C (Kd.int .u8) w0 A xs.length xs
theorem St.next {w0 : World} {g : Nat} {xs : List Int} {s : Bool} {w w' : World} (h : St w0 g xs s w) (hb : Below w.heap.size w w') : St w0 g xs s w' := by
  obtain ⟨h1, h2, A, c, h3, h4⟩ := h
  exact ⟨below_then h1 h1.size hb, h2, A, c, blk_below h3 hb, h4⟩
set_option maxHeartbeats 4000000 in
set_option maxRecDepth 100000 in
theorem text (w0 w : World) (g : Nat) (xs : List Int) (s : Bool) (n : Int) (hS : St w0 g xs s w) (hn0 : 0 ≤ n) (hn : n ≤ 255) :
    Calls Try.prog 122 #[.pointer (some ⟨g, 0, none⟩), .int .i64 n] w fun e w' => ∃ v, e = .returned v ∧ KeepBut w w' g none ∧ St w0 g (txt xs s n).2.1 (txt xs s n).2.2 w' ∧ Kd.R (Kd.int .u8) 5 w' w.heap.size (fun k => w.heap.size ≤ k) v (txt xs s n).1 := by
  obtain ⟨hb0, hle, A, c, hblk, hc, hC⟩ := hS
  have hu125 := Try.underlying125
  have hgw : g < w.heap.size := blk_lt hblk
  have HB0 := Aside0.mk hb0
  have HLE := Aside0.mk hle
  have GW := Aside0.mk hgw
  have HB := Aside0.mk (Below.refl w.heap.size w)
  have BK := Aside0.mk hblk
  have HCC := Aside0.mk hc
  have HC0 := Aside0.mk hC
  have hz0 := (blk_cell BK.out 0).trans rfl
  have hz1 := (blk_cell BK.out 1).trans rfl
  have hf0 := blk_frozen BK.out 0
  have hf1 := blk_frozen BK.out 1
  have hmax : xs.length ≤ 9223372036854775807 := hC.2.1
  by_cases hlt : (xs.length : Int) < n
  · have b0 : decide ((xs.length : Int) < n) = true := decide_eq_true hlt
    have ht : txt xs s n = ([], [], true) := by unfold txt; rw [if_pos hlt]
    rw [ht]
    clear ht hlt hC hblk hb0 hle
    go_enter Try.func122, Try.ntmps122
    go_wp2
    go_ret
    refine ⟨_, rfl, KeepBut.set_ (KeepBut.set_ (KeepBut.of_below HB.out g none) 0 _) 1 _, ⟨?_, HLE.out, none, 0, ?_, Nat.le_refl _, Kd.C_nil _ _⟩, Kd.R_nil _ _ _ _ _⟩
    · exact below_set (below_set HB0.out HLE.out) HLE.out
    · exact blk_put (blk_put BK.out 0 _ rfl) 1 _ rfl
  · have b0 : decide ((xs.length : Int) < n) = false := decide_eq_false hlt
    have ht : txt xs s n = (xs.take n.toNat, xs.drop n.toNat, s) := by unfold txt; rw [if_neg hlt]
    rw [ht]
    clear ht
    obtain ⟨i0, hi0, _, hsz, _⟩ := info_parts info5
    obtain ⟨y1, hy1⟩ : ∃ y : List Int, y = xs.take n.toNat := ⟨_, rfl⟩
    obtain ⟨y2, hy2⟩ : ∃ y : List Int, y = xs.drop n.toNat := ⟨_, rfl⟩
    have hyl : y1.length ≤ 255 := by rw [hy1, List.length_take]; omega
    obtain ⟨hcut1, hA1, hC1⟩ := print_take_of (P := Try.prog) (Value.int .u8) 0 22 5 .i64 Try.underlying22 hi0 hsz A c xs n hn0 (by omega) hc
    obtain ⟨A2, hcut2, hA2, hC2⟩ := print_drop_of (P := Try.prog) (Value.int .u8) 0 22 5 .i64 Try.underlying22 hi0 hsz A c xs n hn0 (by omega) hc
    rw [← hy1] at hcut1 hA1 hC1
    rw [← hy2] at hcut2 hA2 hC2
    simp only [← hy1, ← hy2]
    have HC1 : Aside0 (Kd.C (Kd.int .u8) w A y1.length y1) := Aside0.mk (Kd.C_below (Kd.C_of_reads (h1 := fun _ => rfl) (hA1 _ (Kd.reads_of_C hC))) hb0)
    have HC2 : Aside0 (Kd.C (Kd.int .u8) w0 A2 y2.length y2) := Aside0.mk (Kd.C_of_reads (h1 := fun _ => rfl) (hA2 _ (Kd.reads_of_C hC)))
    have HL1 := Aside0.mk hC1
    have HL2 := Aside0.mk hC2
    have LM := Aside0.mk hyl
    clear hC hblk hb0 hle hA1 hA2 hC1 hC2 hy1 hy2 hyl hlt hi0 hsz hn0 hn hmax
    go_enter Try.func122, Try.ntmps122
    go_wp2_with (first | ((with_reducible refine gate_dst (N := 19) rfl ?_); refine Kd.R_lit (Kd.int .u8) _ 5 ?hg (N := 19) ?hd (xs := ([] : List Int)) (inner := []) (ok := fun k => w.heap.size ≤ k) (okp := fun k => w.heap.size ≤ k) ?hr ?hp (fun _ hk => hk) (below_size HB.out) (Below.refl _ _) (Nat.le_refl _) (by simp) ?_; (case hd => rfl); (case hg => rfl); (case hr => first | (go_simp; done) | (go_simp; rfl)); (case hp => exact (Reps.none _ _)); intro v1 w3 ho4 hb hg_ hnew_; clear hg_ hnew_; have n1_ := Aside0.mk (below_step HB.out hb); have n2_ := Aside0.mk (blk_below BK.out hb); have n0_ := Aside0.mk ho4; have n3_ := Aside0.mk hb.size; clear HB BK; have HO := n0_; have HB := n1_; have BK := n2_; have SZ := n3_; clear n0_ n1_ n2_ n3_; clear hb ho4; have hz0 := (blk_cell BK.out 0).trans rfl; have hz1 := (blk_cell BK.out 1).trans rfl; have hf0 := blk_frozen BK.out 0; have hf1 := blk_frozen BK.out 1) | ((with_reducible refine gate_builtin (b := .append) (xs := #[.tmp 19, .tmp 25]) rfl ?_); at_builtin; refine Kd.R_append_rows (Kd.int .u8) (w0 := w) w.heap.size rfl (.tmp 19) (.tmp 25) 22 5 (.int .u8 0) 1 rfl Try.underlying22 info5 rfl (by decide) (by omega) v1 [] y1 _ _ _ (fun k => w.heap.size ≤ k) (fun _ => False) rfl rfl ?aO ?aR (fun _ _ h => h) (fun _ h => h.elim) ?aF ?aB ?aS ?aL ?_; (case aR => exact Kd.C_below HC1.out HB.out); (case aB => exact HB.out); (case aF => exact (fun _ hk => Nat.le_trans (below_size HB.out) hk)); (case aO => exact HO.out); (case aS => exact below_size HB.out); (case aL => have := LM.out; simp only [List.length_nil]; omega); intro v2 w5 ho hb hg hat; have n1_ := Aside0.mk hb; have n2_ := Aside0.mk (hg.block g (blk_lt BK.out) (by intro e_; have h_ := HO.out.1 g e_.symm; have := GW.out; omega) |>.trans BK.out); have n0_ := Aside0.mk ho; clear HB BK HO; have HO := n0_; have HB := n1_; have BK := n2_; clear n0_ n1_ n2_; clear hb ho hg hat; have hz0 := (blk_cell BK.out 0).trans rfl; have hz1 := (blk_cell BK.out 1).trans rfl; have hf0 := blk_frozen BK.out 0; have hf1 := blk_frozen BK.out 1))

    go_ret
    refine ⟨_, rfl, KeepBut.set_ (KeepBut.of_below HB.out g none) 0 _, ⟨below_set (below_then HB0.out HB0.out.size HB.out) HLE.out, HLE.out, A2, _, blk_put BK.out 0 _ rfl, HL2.out, HC2.out⟩, ?_⟩
    exact Kd.R_far (p := ⟨g, 0, none⟩) HO.out (fun k hk e => by have := GW.out; have e2 : k = g := e; omega) _
theorem drop_rd (y : List Int) (x : Int) (h0 : 0 ≤ x) (h1 : x < (y.length : Int)) : y.drop x.toNat = rd y x :: y.drop (x.toNat + 1) := by
  have h : x.toNat < y.length := by omega
  rw [List.drop_eq_getElem_cons h]
  congr 1
  simp [rd, h0, h]
/-- One byte more of a number. -/
def ustep (v c : Int) : Int := bits .or .u64 (IntKind.u64.wrap (v * 256)) (IntKind.u64.wrap c)
def numu (xs : List Int) : Int := xs.foldl ustep 0
set_option maxHeartbeats 4000000 in
set_option maxRecDepth 100000 in
theorem num (w0 w : World) (g : Nat) (xs : List Int) (s : Bool) (n : Int) (hS : St w0 g xs s w) (hn0 : 0 ≤ n) (hn : n ≤ 8) :
    Calls Try.prog 106 #[.pointer (some ⟨g, 0, none⟩), .int .i64 n] w fun e w' => e = .returned (.int .u64 (numu (txt xs s n).1)) ∧ KeepBut w w' g none ∧ St w0 g (txt xs s n).2.1 (txt xs s n).2.2 w' := by
  have h122 := text w0 w g xs s n hS hn0 (by omega)
  obtain ⟨y, hy⟩ : ∃ y, y = (txt xs s n).1 := ⟨_, rfl⟩
  have hyl : y.length ≤ 8 := by rw [hy]; unfold txt; split <;> simp [List.length_take]; omega
  rw [← hy]
  rw [← hy] at h122
  have HYL := Aside0.mk hyl
  have H122 := Aside0.mk h122
  clear hS h122 hy hyl hn0 hn
  go_enter Try.func106, Try.ntmps106
  go_wp2_with (first | (go_at_call 122; (with_reducible refine H122.out.mono ?_); rintro e w5 ⟨v, rfl, hk, hs, hr⟩; have HK := Aside0.mk hk; have HS5 := Aside0.mk hs; obtain ⟨A, c, rfl, hc, hC⟩ := Kd.R_reads hr; have HR := Aside0.mk hC; have HC := Aside0.mk hc; clear hk hs hr hc hC))
  go_loopg [4, 11] (y.length + 1) (fun kq v2 v8 w' => ∃ (a x : Int), v2 = .int .u64 a ∧ v8 = .int .i64 x ∧ Aside0 (0 ≤ x ∧ x ≤ y.length ∧ x + kq = y.length + 1 ∧ (y.drop x.toNat).foldl ustep a = numu y) ∧ Aside0 (w' = w5))
  case atStart => exact ⟨(0 : Int), (0 : Int), rfl, rfl, ⟨⟨by decide, Int.natCast_nonneg _, by simp, by simp [numu]⟩⟩, ⟨rfl⟩⟩
  case round =>
    obtain ⟨a, x, rfl, rfl, HX, HW⟩ := hrel
    have hw := HW.out
    subst hw
    have hX := HX.out
    have hlen := HYL.out
    cases gk with
    | zero => exact absurd hX.2.2.1 (by omega)
    | succ k1 =>
      by_cases c7 : x < (y.length : Int)
      · have c7b0 : decide (x < (y.length : Int)) = true := decide_eq_true c7
        obtain ⟨ad, e_, hx⟩ := Kd.at_int HR.out x hX.1 c7
        cases e_
        have p7 := eq_true hX.1
        have q7 := eq_true c7
        have i7 : wrap64 (x + 1) = x + 1 := by unfold wrap64; omega
        have HD := Aside0.mk (drop_rd y x hX.1 c7)
        clear c7 hX
        go_wp2_with (fail)
        go_roundg k1
        case measure => omega
        case rel => exact ⟨_, _, rfl, rfl, ⟨by have := HX.out; have := of_eq_true q7; refine ⟨by omega, by omega, by omega, ?_⟩; rw [show (x + 1).toNat = x.toNat + 1 by omega]; have h1 := HX.out.2.2.2; rw [HD.out, List.foldl_cons] at h1; exact h1⟩, ⟨rfl⟩⟩
      · have c7b0 : decide (x < (y.length : Int)) = false := decide_eq_false c7
        have hv : numu y = a := by
          have h1 := hX.2.2.2
          rw [List.drop_of_length_le (by omega)] at h1
          exact h1.symm
        clear c7 hX
        go_wp2_with (fail)
        go_ret
        exact ⟨rfl, HK.out, HS5.out⟩
/-- A text behind its length. -/
def lng (xs : List Int) (s : Bool) : List Int × List Int × Bool := txt (txt xs s 1).2.1 (txt xs s 1).2.2 (wrap64 (numu (txt xs s 1).1))
set_option maxHeartbeats 4000000 in
set_option maxRecDepth 100000 in
theorem long (w0 w : World) (g : Nat) (xs : List Int) (s : Bool) (hS : St w0 g xs s w) (h0 : 0 ≤ wrap64 (numu (txt xs s 1).1)) (h1 : wrap64 (numu (txt xs s 1).1) ≤ 255) :
    Calls Try.prog 107 #[.pointer (some ⟨g, 0, none⟩)] w fun e w' => ∃ v, e = .returned v ∧ KeepBut w w' g none ∧ St w0 g (lng xs s).2.1 (lng xs s).2.2 w' ∧ Kd.R (Kd.int .u8) 5 w' w.heap.size (fun k => w.heap.size ≤ k) v (lng xs s).1 := by
  have hn := num w0 w g xs s 1 hS (by decide) (by decide)
  have h2 := fun W hW => text w0 W g (txt xs s 1).2.1 (txt xs s 1).2.2 (wrap64 (numu (txt xs s 1).1)) hW h0 h1
  have HN := Aside0.mk hn
  have H2 := Aside0.mk h2
  clear hS hn h2 h0 h1
  unfold lng
  go_enter Try.func107, Try.ntmps107
  go_wp2_with (first | (go_at_call 106; (with_reducible refine HN.out.mono ?_); rintro e w5 ⟨rfl, hk, hs⟩; have HK := Aside0.mk hk; have HS5 := Aside0.mk hs; clear hk hs) | (go_at_call 122; (with_reducible refine (H2.out _ HS5.out).mono ?_); rintro e w6 ⟨v6, rfl, hk, hs, hr⟩; have HK6 := Aside0.mk hk; have HS6 := Aside0.mk hs; have HR6 := Aside0.mk hr; clear hk hs hr))
  go_ret
  exact ⟨_, rfl, HK.out.trans HK6.out (.inl rfl), HS6.out, Kd.R_lower (Kd.R_mono HR6.out (fun k hk => Nat.le_trans HK.out.1 hk)) HK.out.1⟩
end Go.Proofs.Ytfgeffmlfbeodaa.Rn
