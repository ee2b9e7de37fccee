/- The document's TakeEvent: which bytes are events. Bound to this program. -/
import Derived.Test.YtfgeffmlfbeodaaRf
namespace Go.Proofs.Ytfgeffmlfbeodaa.PEventAll
open Go Go.RowKit Go.Proofs Go.Proofs.Ytfgeffmlfbeodaa.RG Go.Proofs.Ytfgeffmlfbeodaa.RP Go.Proofs.Ytfgeffmlfbeodaa.Rf Go.Proofs.YtfgeffmlfbeodaaW.PrintWords Go.Proofs.YtfgeffmlfbeodaaW.PrintLast Go.Proofs.YtfgeffmlfbeodaaW.PrintMore
set_option linter.unusedVariables false
set_option linter.unusedSimpArgs false
/-- But for the reader's block and the event's all is as it was. -/
def Keep2 (gr ge : Nat) (w w' : World) : Prop := w.heap.size ≤ w'.heap.size ∧ ∀ i, i < w.heap.size → i ≠ gr → i ≠ ge → w'.heap[i]? = w.heap[i]?
theorem Keep2.refl (gr ge : Nat) (w : World) : Keep2 gr ge w w := ⟨Nat.le_refl _, fun _ _ _ _ => rfl⟩
theorem Keep2.of {gr ge : Nat} {w w' : World} (h : KeepBut w w' gr none) : Keep2 gr ge w w' := ⟨h.1, fun i hi h1 _ => h.2 i hi h1 (by simp)⟩
theorem Keep2.set {gr ge : Nat} (w : World) (j : Nat) (u : Value) : Keep2 gr ge w (w.setCell ⟨ge, j, none⟩ u) := by
  have h := KeepBut.set_ (KeepBut.refl w ge none) j u
  exact ⟨h.1, fun i hi _ h2 => h.2 i hi h2 (by simp)⟩
theorem Keep2.row {gr ge base : Nat} {w w' : World} {v : Value} {l : List Int} (h : Keep2 gr ge w w') (hr : Kd.R (Kd.int .u8) 5 w base (fun k => (base ≤ k ∧ k ≠ gr) ∧ k ≠ ge) v l) : Kd.R (Kd.int .u8) 5 w' base (fun k => (base ≤ k ∧ k ≠ gr) ∧ k ≠ ge) v l :=
  Kd.R_step hr (fun k hk hl => h.2 k hl hk.1.2 hk.2)
theorem own_ref {w W W' : World} {gr ge : Nat} {xs l : List Int} {s : Bool} {v : Value} (hS : Rf.St w gr xs s W) (hge : ge < W.heap.size) (h : Kd.R (Kd.int .u8) 5 W' W.heap.size (fun k => W.heap.size ≤ k) v l) : Kd.R (Kd.int .u8) 5 W' w.heap.size (fun k => (w.heap.size ≤ k ∧ k ≠ gr) ∧ k ≠ ge) v l := by
  obtain ⟨A, c, hb, _⟩ := hS.blk
  have h1 := blk_lt hb
  exact Kd.R_lower (Kd.R_mono h (fun k hk => ⟨⟨Nat.le_trans hS.below.size hk, by omega⟩, by omega⟩)) hS.below.size
theorem own_Cr {W : World} {base c : Nat} {ok : Nat → Prop} {A : Option Addr} {l : List Int} (h : Kd.R (Kd.int .u8) 5 W base ok (.slice A l.length c) l) : Kd.C (Kd.int .u8) W A l.length l := (Kd.R_reads' h).2.2
/-- What stands where k of the row have come up. -/
structure TSt (w : World) (gr gb ge : Nat) (r2 r3 r4 : List Int) (s2 s3 s4 : Bool) (v1 v2 : Int) (x3 x4 : List Int) (k : Nat) (W : World) : Prop where
  st : Rf.St w gr (match k with | 0 => r2 | 1 => r3 | _ => r4) (match k with | 0 => s2 | 1 => s3 | _ => s4) W
  bb : W.heap[gb]? = some (.cells #[.int .i64 0, .string ⟨#[]⟩, .int .i64 0, .string ⟨#[]⟩, .slice none 0 0] 24 (0, 0))
  be : W.heap[ge]? = some (.cells #[.int .i64 (wrap64 v1), .string (match k with | 0 => ⟨#[]⟩ | 1 => ⟨#[]⟩ | 2 => ⟨#[]⟩ | _ => strOfNums x3), .int .i64 (wrap64 v2), .string (match k with | 0 => ⟨#[]⟩ | 1 => ⟨#[]⟩ | 2 => ⟨#[]⟩ | 3 => ⟨#[]⟩ | _ => strOfNums x4), .slice none 0 0] 24 (0, 0))
theorem tst0 {w : World} {gr gb ge : Nat} {r2 r3 r4 : List Int} {s2 s3 s4 : Bool} {v1 v2 : Int} {x3 x4 : List Int} {W : World} (h : TSt w gr gb ge r2 r3 r4 s2 s3 s4 v1 v2 x3 x4 0 W) : Rf.St w gr r2 s2 W := h.st
theorem tst1 {w : World} {gr gb ge : Nat} {r2 r3 r4 : List Int} {s2 s3 s4 : Bool} {v1 v2 : Int} {x3 x4 : List Int} {W : World} (h : TSt w gr gb ge r2 r3 r4 s2 s3 s4 v1 v2 x3 x4 1 W) : Rf.St w gr r3 s3 W := h.st
set_option maxHeartbeats 8000000 in
set_option maxRecDepth 100000 in
theorem takeEvent (k : Nat) (A0 : Option Addr) (c0 : Nat) (l0 : List Int) (w : World) (hr0 : Kd.C (Kd.int .u8) w A0 l0.length l0) (hc0 : l0.length ≤ c0)
    (x1 r1 x2 r2 y3 t3 x3 r3 y4 t4 x4 r4 y5 t5 x5 r5 : List Int) (s1 s2 f3 s3 f4 s4 f5 s5 : Bool) (v1 v2 n3 n4 n5 : Int)
    (h1 : rtk l0 false 8 = (x1, r1, s1)) (e1 : pandectref2_Num.f k x1 = some v1) (h2 : rtk r1 s1 8 = (x2, r2, s2)) (e2 : pandectref2_Num.f k x2 = some v2)
    (g3 : rtk r2 s2 1 = (y3, t3, f3)) (e3 : pandectref2_Num.f k y3 = some n3) (b3 : 0 ≤ n3 ∧ n3 ≤ 255) (h3 : rtk t3 f3 n3 = (x3, r3, s3))
    (g4 : rtk r3 s3 1 = (y4, t4, f4)) (e4 : pandectref2_Num.f k y4 = some n4) (b4 : 0 ≤ n4 ∧ n4 ≤ 255) (h4 : rtk t4 f4 n4 = (x4, r4, s4))
    (g5 : rtk r4 s4 1 = (y5, t5, f5)) (e5 : pandectref2_Num.f k y5 = some n5) (b5 : 0 ≤ n5 ∧ n5 ≤ 255) (h5 : rtk t5 f5 n5 = (x5, r5, s5))
    (o1 : Int) (o2 : ByteArray) (o3 : Int) (o4 : ByteArray) (o5 : List Int) (o6 : Int)
    (hres : (s5 = true ∧ (o1, o2, o3, o4, o5, o6) = (0, ⟨#[]⟩, 0, ⟨#[]⟩, [], 2)) ∨ (s5 = false ∧ ¬ r5 = [] ∧ (o1, o2, o3, o4, o5, o6) = (0, ⟨#[]⟩, 0, ⟨#[]⟩, [], 2)) ∨
      (s5 = false ∧ r5 = [] ∧ ∃ q, pandectref6_MayEvent.f k (wrap64 v1) (strOfNums x3) (wrap64 v2) (strOfNums x4) x5 = some q ∧ (o1, o2, o3, o4, o5, o6) = if q = true then (wrap64 v1, strOfNums x3, wrap64 v2, strOfNums x4, x5, 0) else (0, ⟨#[]⟩, 0, ⟨#[]⟩, [], 2))) :
    Calls Try.prog 21 #[.slice A0 l0.length c0] w fun e w' => ∃ v : Value, e = .returned (.tuple #[.agg #[.int .i64 o1, .string o2, .int .i64 o3, .string o4, v], .int .i64 o6]) ∧ Kd.R (Kd.int .u8) 5 w' w.heap.size (fun k => w.heap.size ≤ k) v o5 ∧ Below w.heap.size w w' := by
  have hu24 := Try.underlying24
  have hu100 := Try.underlying100
  have HB := Aside0.mk (Below.refl w.heap.size w)
  have HR0 := Aside0.mk hr0
  have HC0 := Aside0.mk hc0
  have H1 := Aside0.mk h1
  have H2 := Aside0.mk h2
  have F1 := Aside0.mk (show pandectref2_Num.f k (rtk l0 false 8).1 = some v1 by rw [h1]; exact e1)
  have F2 := Aside0.mk (show pandectref2_Num.f k (rtk r1 s1 8).1 = some v2 by rw [h2]; exact e2)
  have F3 := Aside0.mk (show pandectref2_Num.f k (rtk r2 s2 1).1 = some n3 by rw [g3]; exact e3)
  have F4 := Aside0.mk (show pandectref2_Num.f k (rtk r3 s3 1).1 = some n4 by rw [g4]; exact e4)
  have F5 := Aside0.mk (show pandectref2_Num.f k (rtk r4 s4 1).1 = some n5 by rw [g5]; exact e5)
  have T3 := Aside0.mk (show rtk (rtk r2 s2 1).2.1 (rtk r2 s2 1).2.2 n3 = (x3, r3, s3) by rw [g3]; exact h3)
  have T4 := Aside0.mk (show rtk (rtk r3 s3 1).2.1 (rtk r3 s3 1).2.2 n4 = (x4, r4, s4) by rw [g4]; exact h4)
  have T5 := Aside0.mk (show rtk (rtk r4 s4 1).2.1 (rtk r4 s4 1).2.2 n5 = (x5, r5, s5) by rw [g5]; exact h5)
  have B3 := Aside0.mk b3
  have B4 := Aside0.mk b4
  have B5 := Aside0.mk b5
  have HRES := Aside0.mk hres
  clear hr0 hc0 h1 e1 h2 e2 g3 e3 b3 h3 g4 e4 b4 h4 g5 e5 b5 h5 hres
  go_enter Try.func21, Try.ntmps21
  go_upto_region 3 with (first | ((with_reducible refine gate_dst (N := 2) rfl ?_); refine box_event ?hg (N := 2) ?hd (cs := #[.int .i64 0, .string ⟨#[]⟩, .int .i64 0, .string ⟨#[]⟩, .slice none 0 0]) (t := 24) ?hr ?_; (case hd => rfl); (case hg => rfl); (case hr => first | (go_simp; done) | (go_simp; rfl)); intro gb hg w1 hbox hb; have BK := Aside0.mk hbox; have GE := Aside0.mk (show w.heap.size ≤ gb by rw [hg]; exact Nat.le_refl _); clear HB; have HB := Aside0.mk hb; clear hg hbox hb) | ((with_reducible refine gate_dst (N := 8) rfl ?_); refine box_event ?hg (N := 8) ?hd (cs := #[.slice A0 l0.length c0, .bool false]) (t := 100) ?hr ?_; (case hd => rfl); (case hg => rfl); (case hr => first | (go_simp; done) | (go_simp; rfl)); intro gr hg w2 hbox hb; have NE := Aside0.mk (show gb ≠ gr by have := blk_lt BK.out; have : w1.heap.size ≤ gr := (by rw [hg]; exact Nat.le_refl _); omega); have GG := Aside0.mk (show w.heap.size ≤ gr by rw [hg]; exact HB.out.size); have n1_ := Aside0.mk (blk_below BK.out hb); have n2_ := Aside0.mk (below_then HB.out HB.out.size hb); clear HB BK; have BK := n1_; have HS := Aside0.mk (Rf.St.mk n2_.out GG.out ⟨A0, c0, hbox, HC0.out, HR0.out⟩); clear n1_ n2_; clear hg hbox hb) | (go_at_call 79; (with_reducible refine (Rf.num w _ gr l0 false 8 _ k HS.out (by decide) (by decide) F1.out).mono ?_); rintro e w3 ⟨rfl, hk, hs⟩; have n1_ := Aside0.mk (hk.blk BK.out NE.out (by simp)); rw [H1.out] at hs; have n2_ := Aside0.mk hs; clear BK HS; have BK := n1_; have HS := n2_; clear n1_ n2_ hk hs) | (go_at_call 79; (with_reducible refine (Rf.num w _ gr r1 s1 8 _ k HS.out (by decide) (by decide) F2.out).mono ?_); rintro e w3 ⟨rfl, hk, hs⟩; have n1_ := Aside0.mk (hk.blk BK.out NE.out (by simp)); rw [H2.out] at hs; have n2_ := Aside0.mk hs; clear BK HS; have BK := n1_; have HS := n2_; clear n1_ n2_ hk hs) | ((with_reducible refine gate_dst (N := 5) rfl ?_); refine box_event ?hg (N := 5) ?hd (cs := #[.int .i64 0, .string ⟨#[]⟩, .int .i64 0, .string ⟨#[]⟩, .slice none 0 0]) (t := 24) ?hr ?_; (case hd => rfl); (case hg => rfl); (case hr => first | (go_simp; done) | (go_simp; rfl)); intro ge hg w5 hbox hb; have BE := Aside0.mk hbox; have NB := Aside0.mk (show gb ≠ ge by have := blk_lt BK.out; omega); have NR := Aside0.mk (show gr ≠ ge by obtain ⟨_, _, h_, _⟩ := HS.out.blk; have := blk_lt h_; omega); have GF := Aside0.mk (show w.heap.size ≤ ge by rw [hg]; exact HS.out.below.size); have n1_ := Aside0.mk (blk_below BK.out hb); have n2_ := Aside0.mk (HS.out.next hb); clear BK HS; have BK := n1_; have HS := n2_; clear n1_ n2_; have ez0 := (blk_cell BE.out 0).trans rfl; have ef0 := blk_frozen BE.out 0; have ez1 := (blk_cell BE.out 1).trans rfl; have ef1 := blk_frozen BE.out 1; have ez2 := (blk_cell BE.out 2).trans rfl; have ef2 := blk_frozen BE.out 2; have ez3 := (blk_cell BE.out 3).trans rfl; have ef3 := blk_frozen BE.out 3; have ez4 := (blk_cell BE.out 4).trans rfl; have ef4 := blk_frozen BE.out 4; clear hg hbox hb))
  obtain ⟨W0, hW0⟩ : ∃ W0, W0 = (((((w5.setCell ⟨ge, 0, none⟩ (.int .i64 (wrap64 v1))).setCell ⟨ge, 1, none⟩ (.string ⟨#[]⟩)).setCell ⟨ge, 2, none⟩ (.int .i64 (wrap64 v2))).setCell ⟨ge, 3, none⟩ (.string ⟨#[]⟩)).setCell ⟨ge, 4, none⟩ (.slice none 0 0)) := ⟨_, rfl⟩
  rw [← hW0]
  have n1_ := Aside0.mk (show W0.heap[gb]? = some (.cells #[.int .i64 0, .string ⟨#[]⟩, .int .i64 0, .string ⟨#[]⟩, .slice none 0 0] 24 (0, 0)) by rw [hW0]; refine blk_far ?_ NB.out _; refine blk_far ?_ NB.out _; refine blk_far ?_ NB.out _; refine blk_far ?_ NB.out _; refine blk_far ?_ NB.out _; exact BK.out)
  have n2_ := Aside0.mk (show Rf.St w gr r2 s2 W0 by rw [hW0]; refine Rf.St.far ?_ GF.out NR.out _ _; refine Rf.St.far ?_ GF.out NR.out _ _; refine Rf.St.far ?_ GF.out NR.out _ _; refine Rf.St.far ?_ GF.out NR.out _ _; refine Rf.St.far ?_ GF.out NR.out _ _; exact HS.out)
  have n3_ := Aside0.mk (show W0.heap[ge]? = some (.cells #[.int .i64 (wrap64 v1), .string ⟨#[]⟩, .int .i64 (wrap64 v2), .string ⟨#[]⟩, .slice none 0 0] 24 (0, 0)) by rw [hW0]; refine blk_put (cs := #[.int .i64 (wrap64 v1), .string ⟨#[]⟩, .int .i64 (wrap64 v2), .string ⟨#[]⟩, .slice none 0 0]) ?_ 4 _ rfl; refine blk_put (cs := #[.int .i64 (wrap64 v1), .string ⟨#[]⟩, .int .i64 (wrap64 v2), .string ⟨#[]⟩, .slice none 0 0]) ?_ 3 _ rfl; refine blk_put (cs := #[.int .i64 (wrap64 v1), .string ⟨#[]⟩, .int .i64 0, .string ⟨#[]⟩, .slice none 0 0]) ?_ 2 _ rfl; refine blk_put (cs := #[.int .i64 (wrap64 v1), .string ⟨#[]⟩, .int .i64 0, .string ⟨#[]⟩, .slice none 0 0]) ?_ 1 _ rfl; refine blk_put (cs := #[.int .i64 0, .string ⟨#[]⟩, .int .i64 0, .string ⟨#[]⟩, .slice none 0 0]) ?_ 0 _ rfl; exact BE.out)
  clear hW0 BK HS BE
  have BK := n1_
  have HS := n2_
  have BE := n3_
  clear n1_ n2_ n3_
  have hRl : ∀ W : World, Keep2 gr ge W W := fun W => Keep2.refl gr ge W
  refine RP.regionT 46 10 [1, 4, 7, 9] (fun k W => TSt w gr gb ge r2 r3 r4 s2 s3 s4 v1 v2 x3 x4 k W) (Keep2 gr ge) [Sp.exact ?_, Sp.ex (fun v W => Kd.R (Kd.int .u8) 5 W w.heap.size (fun k => (w.heap.size ≤ k ∧ k ≠ gr) ∧ k ≠ ge) v x3), Sp.exact ?_, Sp.exact ?_, Sp.ex (fun v W => Kd.R (Kd.int .u8) 5 W w.heap.size (fun k => (w.heap.size ≤ k ∧ k ≠ gr) ∧ k ≠ ge) v x4), Sp.exact ?_, Sp.exact ?_, Sp.exact undef, Sp.exact ?_, Sp.exact undef] (by kernel_rfl) (by kernel_rfl) (by kernel_rfl) (by kernel_rfl) rfl (⟨fun v W W1 hk h => hk.row h, fun v W W1 hk h => hk.row h, trivial⟩) ⟨by exact ⟨below_drew1 HS.out.below, HS.out.le, HS.out.blk⟩, by exact BK.out, by exact BE.out⟩ ?_
  rotate_right
  simp only [List.toList_toArray, List.take_succ_cons, List.take_zero, List.drop_succ_cons, List.drop_zero]
  refine pW.just (b' := ?_) (by decide) hRl (Or.inl ⟨by rfl, ?_⟩) ?_ ?_; rotate_left; (focus (intro w'; go_simp; with_reducible rfl)); (focus (simp only [Act.put, List.setIfInBounds_toArray, List.set_cons_zero, List.set_cons_succ]; try rfl))
  refine pW.turnf (b' := ?_) 0 (by decide) (by decide) #[.pointer (some ⟨gr, 0, none⟩)] Try.func80 (by kernel_rfl) rfl (by rfl) rfl (by (try simp only [List.map_toArray, List.map_cons, List.map_nil]); first | done | rfl) (fun W hS hK => ?_) ?_ ?_
  rotate_left
  · with_reducible refine (Rf.rtext w W gr r2 s2 n3 k (tst0 hS) F3.out B3.out.1 B3.out.2).mono ?_
    rintro e W' ⟨v, rfl, hk, hs, hr⟩
    rw [T3.out] at hs hr
    exact ⟨v, rfl, own_ref hS.st (blk_lt hS.be) hr, Keep2.of hk, ⟨hs, hk.blk hS.bb NE.out (by simp), hk.blk hS.be NR.out.symm (by simp)⟩⟩
  · intro v
    simp only [Act.put, List.setIfInBounds_toArray, List.set_cons_zero, List.set_cons_succ]
    exact rfl
  intro v17
  refine pW.conv (b' := ?_) (xs := x3) (by decide) hRl (by rfl) rfl (by rfl) Try.underlying22 Try.underlying5 Try.underlying9 ?_ ?_ ?_ ?_; rotate_left; (focus rfl); (focus (intro k W hS hK; exact Row.of_R (hK.1 (by kernel_rfl)))); (focus (simp only [Act.put, List.setIfInBounds_toArray, List.set_cons_zero, List.set_cons_succ]; try rfl))
  refine pW.just (b' := ?_) (by decide) hRl (Or.inl ⟨by rfl, ?_⟩) ?_ ?_; rotate_left; (focus (intro w'; go_simp; with_reducible rfl)); (focus (simp only [Act.put, List.setIfInBounds_toArray, List.set_cons_zero, List.set_cons_succ]; try rfl))
  refine pW.turnf (b' := ?_) 1 (by decide) (by decide) #[.pointer (some ⟨gr, 0, none⟩)] Try.func80 (by kernel_rfl) rfl (by rfl) rfl (by (try simp only [List.map_toArray, List.map_cons, List.map_nil]); first | done | rfl) (fun W hS hK => ?_) ?_ ?_
  rotate_left
  · with_reducible refine (Rf.rtext w W gr r3 s3 n4 k (tst1 hS) F4.out B4.out.1 B4.out.2).mono ?_
    rintro e W' ⟨v, rfl, hk, hs, hr⟩
    rw [T4.out] at hs hr
    exact ⟨v, rfl, own_ref hS.st (blk_lt hS.be) hr, Keep2.of hk, ⟨hs, hk.blk hS.bb NE.out (by simp), hk.blk hS.be NR.out.symm (by simp)⟩⟩
  · intro v
    simp only [Act.put, List.setIfInBounds_toArray, List.set_cons_zero, List.set_cons_succ]
    exact rfl
  intro v20
  refine pW.conv (b' := ?_) (xs := x4) (by decide) hRl (by rfl) rfl (by rfl) Try.underlying22 Try.underlying5 Try.underlying9 ?_ ?_ ?_ ?_; rotate_left; (focus rfl); (focus (intro k W hS hK; exact Row.of_R (hK.1 (by kernel_rfl)))); (focus (simp only [Act.put, List.setIfInBounds_toArray, List.set_cons_zero, List.set_cons_succ]; try rfl))
  refine pW.just (b' := ?_) (by decide) hRl (Or.inl ⟨by rfl, ?_⟩) ?_ ?_; rotate_left; (focus (intro w'; go_simp; with_reducible rfl)); (focus (simp only [Act.put, List.setIfInBounds_toArray, List.set_cons_zero, List.set_cons_succ]; try rfl))
  refine pW.put 2 (by decide) (by decide) (by rfl) rfl (fun W hS hK => ?_) ?_
  · have hz := (blk_cell hS.be 1).trans rfl
    have hf := blk_frozen hS.be 1
    exact ⟨W.setCell ⟨ge, 1, none⟩ (.string (strOfNums x3)), by go_simp; first | done | rfl, Keep2.set W _ _, ⟨hS.st.far GF.out NR.out _ _, blk_far hS.bb NB.out _, blk_put hS.be 1 _ rfl⟩⟩
  refine pW.just (b' := ?_) (by decide) hRl (Or.inl ⟨by rfl, ?_⟩) ?_ ?_; rotate_left; (focus (intro w'; go_simp; with_reducible rfl)); (focus (simp only [Act.put, List.setIfInBounds_toArray, List.set_cons_zero, List.set_cons_succ]; try rfl))
  refine pW.put 3 (by decide) (by decide) (by rfl) rfl (fun W hS hK => ?_) ?_
  · have hz := (blk_cell hS.be 3).trans rfl
    have hf := blk_frozen hS.be 3
    exact ⟨W.setCell ⟨ge, 3, none⟩ (.string (strOfNums x4)), by go_simp; first | done | rfl, Keep2.set W _ _, ⟨hS.st.far GF.out NR.out _ _, blk_far hS.bb NB.out _, blk_put hS.be 3 _ rfl⟩⟩
  intro W hS hA
  clear hA
  have n1_ := Aside0.mk (show Rf.St w gr r4 s4 W from hS.st)
  have n2_ := Aside0.mk hS.bb
  have n3_ := Aside0.mk (show W.heap[ge]? = some (.cells #[.int .i64 (wrap64 v1), .string (strOfNums x3), .int .i64 (wrap64 v2), .string (strOfNums x4), .slice none 0 0] 24 (0, 0)) from hS.be)
  clear hS BK HS BE
  have HS := n1_
  have BK := n2_
  have BE := n3_
  clear n1_ n2_ n3_
  go_upto_region 5 with (first | (go_at_call 80; (with_reducible refine (Rf.rtext w _ gr r4 s4 n5 k HS.out F5.out B5.out.1 B5.out.2).mono ?_); rintro e w9 ⟨u, rfl, hk, hs, hr⟩; rw [T5.out] at hs hr; have n1_ := Aside0.mk (hk.blk BK.out NE.out (by simp)); have n2_ := Aside0.mk (hk.blk BE.out NR.out.symm (by simp)); have n3_ := Aside0.mk (own_ref HS.out (blk_lt BE.out) hr); have n4_ := Aside0.mk hs; clear BK BE HS hk hs hr; have BK := n1_; have BE := n2_; have HU := n3_; have HS := n4_; clear n1_ n2_ n3_ n4_; obtain ⟨Au, cu, eu, hcu, hCu⟩ := Kd.R_reads HU.out; subst eu; have HDU := Aside0.mk hcu; clear hcu hCu; have ez0 := (blk_cell BE.out 0).trans rfl; have ef0 := blk_frozen BE.out 0; have ez1 := (blk_cell BE.out 1).trans rfl; have ef1 := blk_frozen BE.out 1; have ez2 := (blk_cell BE.out 2).trans rfl; have ef2 := blk_frozen BE.out 2; have ez3 := (blk_cell BE.out 3).trans rfl; have ef3 := blk_frozen BE.out 3; have ez4 := (blk_cell BE.out 4).trans rfl; have ef4 := blk_frozen BE.out 4))
  obtain ⟨W1, hW1⟩ : ∃ W1, W1 = w9.setCell ⟨ge, 4, none⟩ (.slice Au x5.length cu) := ⟨_, rfl⟩
  rw [← hW1]
  have n1_ := Aside0.mk (show W1.heap[gb]? = some (.cells #[.int .i64 0, .string ⟨#[]⟩, .int .i64 0, .string ⟨#[]⟩, .slice none 0 0] 24 (0, 0)) by rw [hW1]; exact blk_far BK.out (p := ⟨ge, 4, none⟩) NB.out _)
  have n2_ := Aside0.mk (show W1.heap[ge]? = some (.cells #[.int .i64 (wrap64 v1), .string (strOfNums x3), .int .i64 (wrap64 v2), .string (strOfNums x4), .slice Au x5.length cu] 24 (0, 0)) by rw [hW1]; exact blk_put BE.out 4 _ rfl)
  have n3_ := Aside0.mk (show Rf.St w gr r5 s5 W1 by rw [hW1]; exact HS.out.far GF.out NR.out _ _)
  have n4_ := Aside0.mk (show Kd.R (Kd.int .u8) 5 W1 w.heap.size (fun k => (w.heap.size ≤ k ∧ k ≠ gr) ∧ k ≠ ge) (.slice Au x5.length cu) x5 by rw [hW1]; exact Kd.R_far (p := ⟨ge, 4, none⟩) HU.out (fun k hk => hk.2) _)
  clear hW1 BK BE HS HU
  have BK := n1_
  have BE := n2_
  have HS := n3_
  have HU := Aside0.mk (Kd.R_types n4_.out n1_.out (by decide))
  clear n1_ n2_ n3_ n4_
  have HB := Aside0.mk HS.out.below
  obtain ⟨Ar, cr, hbr, _, _⟩ := HS.out.blk
  have BR := Aside0.mk hbr
  have ne1_ := NE.out
  have ne2_ := NB.out
  have ne3_ := NR.out
  have ne4_ := NE.out.symm
  have ne5_ := NB.out.symm
  have ne6_ := NR.out.symm
  have hres := HRES.out
  clear HRES hbr HS
  rcases hres with ⟨hs5, hq⟩ | ⟨hs5, hr5, hq⟩ | ⟨hs5, hr5, q, hm, hq⟩
  · subst hs5
    simp only [Prod.mk.injEq] at hq
    obtain ⟨q1, q2, q3, q4, q5, q6⟩ := hq
    subst q1
    subst q2
    subst q3
    subst q4
    replace q5 := q5.symm
    subst q5
    subst q6
    have az0 := (blk_cell BK.out 0).trans rfl
    have af0 := blk_frozen BK.out 0
    have az1 := (blk_cell BK.out 1).trans rfl
    have af1 := blk_frozen BK.out 1
    have az2 := (blk_cell BK.out 2).trans rfl
    have af2 := blk_frozen BK.out 2
    have az3 := (blk_cell BK.out 3).trans rfl
    have af3 := blk_frozen BK.out 3
    have az4 := (blk_cell BK.out 4).trans rfl
    have af4 := blk_frozen BK.out 4
    have bz0 := (blk_cell BE.out 0).trans rfl
    have bf0 := blk_frozen BE.out 0
    have bz1 := (blk_cell BE.out 1).trans rfl
    have bf1 := blk_frozen BE.out 1
    have bz2 := (blk_cell BE.out 2).trans rfl
    have bf2 := blk_frozen BE.out 2
    have bz3 := (blk_cell BE.out 3).trans rfl
    have bf3 := blk_frozen BE.out 3
    have bz4 := (blk_cell BE.out 4).trans rfl
    have bf4 := blk_frozen BE.out 4
    have cz0 := (blk_cell BR.out 0).trans rfl
    have cf0 := blk_frozen BR.out 0
    have cz1 := (blk_cell BR.out 1).trans rfl
    have cf1 := blk_frozen BR.out 1
    go_wp2_with (fail)
    refine bodyPost_ret (results_ct rfl _ _ gb 24 #[.int .i64 0, .string ⟨#[]⟩, .int .i64 0, .string ⟨#[]⟩, .slice none 0 0] (0, 0) _ rfl (by refine blk_put (cs := #[.int .i64 0, .string ⟨#[]⟩, .int .i64 0, .string ⟨#[]⟩, .slice none 0 0]) ?_ 4 _ rfl; refine blk_put (cs := #[.int .i64 0, .string ⟨#[]⟩, .int .i64 0, .string ⟨#[]⟩, .slice none 0 0]) ?_ 3 _ rfl; refine blk_put (cs := #[.int .i64 0, .string ⟨#[]⟩, .int .i64 0, .string ⟨#[]⟩, .slice none 0 0]) ?_ 2 _ rfl; refine blk_put (cs := #[.int .i64 0, .string ⟨#[]⟩, .int .i64 0, .string ⟨#[]⟩, .slice none 0 0]) ?_ 1 _ rfl; refine blk_put (cs := #[.int .i64 0, .string ⟨#[]⟩, .int .i64 0, .string ⟨#[]⟩, .slice none 0 0]) ?_ 0 _ rfl; exact BK.out) Try.underlying24 rfl (by kernel_rfl)) rfl ?_
    exact ⟨_, rfl, Kd.R_nil _ _ _ _ _, (by repeat (with_reducible first | exact HB.out | apply pw_below_drewN | refine below_set ?_ GE.out))⟩
  · subst hs5
    have hl : 0 < r5.length := List.length_pos_iff.2 hr5
    have c0b : decide ((r5.length : Int) > 0) = true := decide_eq_true (by omega)
    have c1b : decide ((0 : Int) < (r5.length : Int)) = true := decide_eq_true (by omega)
    have c2b : decide (0 < r5.length) = true := decide_eq_true hl
    clear hr5 hl
    simp only [Prod.mk.injEq] at hq
    obtain ⟨q1, q2, q3, q4, q5, q6⟩ := hq
    subst q1
    subst q2
    subst q3
    subst q4
    replace q5 := q5.symm
    subst q5
    subst q6
    have az0 := (blk_cell BK.out 0).trans rfl
    have af0 := blk_frozen BK.out 0
    have az1 := (blk_cell BK.out 1).trans rfl
    have af1 := blk_frozen BK.out 1
    have az2 := (blk_cell BK.out 2).trans rfl
    have af2 := blk_frozen BK.out 2
    have az3 := (blk_cell BK.out 3).trans rfl
    have af3 := blk_frozen BK.out 3
    have az4 := (blk_cell BK.out 4).trans rfl
    have af4 := blk_frozen BK.out 4
    have bz0 := (blk_cell BE.out 0).trans rfl
    have bf0 := blk_frozen BE.out 0
    have bz1 := (blk_cell BE.out 1).trans rfl
    have bf1 := blk_frozen BE.out 1
    have bz2 := (blk_cell BE.out 2).trans rfl
    have bf2 := blk_frozen BE.out 2
    have bz3 := (blk_cell BE.out 3).trans rfl
    have bf3 := blk_frozen BE.out 3
    have bz4 := (blk_cell BE.out 4).trans rfl
    have bf4 := blk_frozen BE.out 4
    have cz0 := (blk_cell BR.out 0).trans rfl
    have cf0 := blk_frozen BR.out 0
    have cz1 := (blk_cell BR.out 1).trans rfl
    have cf1 := blk_frozen BR.out 1
    go_wp2_with (fail)
    refine bodyPost_ret (results_ct rfl _ _ gb 24 #[.int .i64 0, .string ⟨#[]⟩, .int .i64 0, .string ⟨#[]⟩, .slice none 0 0] (0, 0) _ rfl (by refine blk_put (cs := #[.int .i64 0, .string ⟨#[]⟩, .int .i64 0, .string ⟨#[]⟩, .slice none 0 0]) ?_ 4 _ rfl; refine blk_put (cs := #[.int .i64 0, .string ⟨#[]⟩, .int .i64 0, .string ⟨#[]⟩, .slice none 0 0]) ?_ 3 _ rfl; refine blk_put (cs := #[.int .i64 0, .string ⟨#[]⟩, .int .i64 0, .string ⟨#[]⟩, .slice none 0 0]) ?_ 2 _ rfl; refine blk_put (cs := #[.int .i64 0, .string ⟨#[]⟩, .int .i64 0, .string ⟨#[]⟩, .slice none 0 0]) ?_ 1 _ rfl; refine blk_put (cs := #[.int .i64 0, .string ⟨#[]⟩, .int .i64 0, .string ⟨#[]⟩, .slice none 0 0]) ?_ 0 _ rfl; exact BK.out) Try.underlying24 rfl (by kernel_rfl)) rfl ?_
    exact ⟨_, rfl, Kd.R_nil _ _ _ _ _, (by repeat (with_reducible first | exact HB.out | apply pw_below_drewN | refine below_set ?_ GE.out))⟩
  · subst hs5
    subst hr5
    have HMAY := Aside0.mk hm
    clear hm
    cases q
    · rw [if_neg (by decide)] at hq
      simp only [Prod.mk.injEq] at hq
      obtain ⟨q1, q2, q3, q4, q5, q6⟩ := hq
      subst q1
      subst q2
      subst q3
      subst q4
      replace q5 := q5.symm
      subst q5
      subst q6
      have az0 := (blk_cell BK.out 0).trans rfl
      have af0 := blk_frozen BK.out 0
      have az1 := (blk_cell BK.out 1).trans rfl
      have af1 := blk_frozen BK.out 1
      have az2 := (blk_cell BK.out 2).trans rfl
      have af2 := blk_frozen BK.out 2
      have az3 := (blk_cell BK.out 3).trans rfl
      have af3 := blk_frozen BK.out 3
      have az4 := (blk_cell BK.out 4).trans rfl
      have af4 := blk_frozen BK.out 4
      have bz0 := (blk_cell BE.out 0).trans rfl
      have bf0 := blk_frozen BE.out 0
      have bz1 := (blk_cell BE.out 1).trans rfl
      have bf1 := blk_frozen BE.out 1
      have bz2 := (blk_cell BE.out 2).trans rfl
      have bf2 := blk_frozen BE.out 2
      have bz3 := (blk_cell BE.out 3).trans rfl
      have bf3 := blk_frozen BE.out 3
      have bz4 := (blk_cell BE.out 4).trans rfl
      have bf4 := blk_frozen BE.out 4
      have cz0 := (blk_cell BR.out 0).trans rfl
      have cf0 := blk_frozen BR.out 0
      have cz1 := (blk_cell BR.out 1).trans rfl
      have cf1 := blk_frozen BR.out 1
      go_wp2_with (first | (go_at_call 23; (with_reducible refine (pandectref6_MayEvent.calls k _ _ _ _ _ _ x5 _ _ ?s1 ?s2 HMAY.out).mono ?_); (case s1 => exact own_Cr (base := w.heap.size) (ok := (fun k => ((w.heap.size ≤ k ∧ k ≠ gr) ∧ k ≠ ge) ∧ k ≠ gb)) (c := cu) HU.out); (case s2 => exact HDU.out); rintro e w10 ⟨rfl, hb_⟩; have n1_ := Aside0.mk (below_step HB.out hb_); have n2_ := Aside0.mk (blk_below BK.out hb_); have n3_ := Aside0.mk (blk_below BE.out hb_); have n4_ := Aside0.mk (Kd.R_below HU.out hb_); clear HB BK BE HU; have HB := n1_; have BK := n2_; have BE := n3_; have HU := n4_; clear n1_ n2_ n3_ n4_ hb_; have maz0 := (blk_cell BK.out 0).trans rfl; have maf0 := blk_frozen BK.out 0; have maz1 := (blk_cell BK.out 1).trans rfl; have maf1 := blk_frozen BK.out 1; have maz2 := (blk_cell BK.out 2).trans rfl; have maf2 := blk_frozen BK.out 2; have maz3 := (blk_cell BK.out 3).trans rfl; have maf3 := blk_frozen BK.out 3; have maz4 := (blk_cell BK.out 4).trans rfl; have maf4 := blk_frozen BK.out 4; have mbz0 := (blk_cell BE.out 0).trans rfl; have mbf0 := blk_frozen BE.out 0; have mbz1 := (blk_cell BE.out 1).trans rfl; have mbf1 := blk_frozen BE.out 1; have mbz2 := (blk_cell BE.out 2).trans rfl; have mbf2 := blk_frozen BE.out 2; have mbz3 := (blk_cell BE.out 3).trans rfl; have mbf3 := blk_frozen BE.out 3; have mbz4 := (blk_cell BE.out 4).trans rfl; have mbf4 := blk_frozen BE.out 4))
      refine bodyPost_ret (results_ct rfl _ _ gb 24 #[.int .i64 0, .string ⟨#[]⟩, .int .i64 0, .string ⟨#[]⟩, .slice none 0 0] (0, 0) _ rfl (by refine blk_put (cs := #[.int .i64 0, .string ⟨#[]⟩, .int .i64 0, .string ⟨#[]⟩, .slice none 0 0]) ?_ 4 _ rfl; refine blk_put (cs := #[.int .i64 0, .string ⟨#[]⟩, .int .i64 0, .string ⟨#[]⟩, .slice none 0 0]) ?_ 3 _ rfl; refine blk_put (cs := #[.int .i64 0, .string ⟨#[]⟩, .int .i64 0, .string ⟨#[]⟩, .slice none 0 0]) ?_ 2 _ rfl; refine blk_put (cs := #[.int .i64 0, .string ⟨#[]⟩, .int .i64 0, .string ⟨#[]⟩, .slice none 0 0]) ?_ 1 _ rfl; refine blk_put (cs := #[.int .i64 0, .string ⟨#[]⟩, .int .i64 0, .string ⟨#[]⟩, .slice none 0 0]) ?_ 0 _ rfl; exact BK.out) Try.underlying24 rfl (by kernel_rfl)) rfl ?_
      exact ⟨_, rfl, Kd.R_nil _ _ _ _ _, (by repeat (with_reducible first | exact HB.out | apply pw_below_drewN | refine below_set ?_ GE.out))⟩
    · rw [if_pos rfl] at hq
      simp only [Prod.mk.injEq] at hq
      obtain ⟨q1, q2, q3, q4, q5, q6⟩ := hq
      subst q1
      subst q2
      subst q3
      subst q4
      replace q5 := q5.symm
      subst q5
      subst q6
      have az0 := (blk_cell BK.out 0).trans rfl
      have af0 := blk_frozen BK.out 0
      have az1 := (blk_cell BK.out 1).trans rfl
      have af1 := blk_frozen BK.out 1
      have az2 := (blk_cell BK.out 2).trans rfl
      have af2 := blk_frozen BK.out 2
      have az3 := (blk_cell BK.out 3).trans rfl
      have af3 := blk_frozen BK.out 3
      have az4 := (blk_cell BK.out 4).trans rfl
      have af4 := blk_frozen BK.out 4
      have bz0 := (blk_cell BE.out 0).trans rfl
      have bf0 := blk_frozen BE.out 0
      have bz1 := (blk_cell BE.out 1).trans rfl
      have bf1 := blk_frozen BE.out 1
      have bz2 := (blk_cell BE.out 2).trans rfl
      have bf2 := blk_frozen BE.out 2
      have bz3 := (blk_cell BE.out 3).trans rfl
      have bf3 := blk_frozen BE.out 3
      have bz4 := (blk_cell BE.out 4).trans rfl
      have bf4 := blk_frozen BE.out 4
      have cz0 := (blk_cell BR.out 0).trans rfl
      have cf0 := blk_frozen BR.out 0
      have cz1 := (blk_cell BR.out 1).trans rfl
      have cf1 := blk_frozen BR.out 1
      go_wp2_with (first | (go_at_call 23; (with_reducible refine (pandectref6_MayEvent.calls k _ _ _ _ _ _ x5 _ _ ?s1 ?s2 HMAY.out).mono ?_); (case s1 => exact own_Cr (base := w.heap.size) (ok := (fun k => ((w.heap.size ≤ k ∧ k ≠ gr) ∧ k ≠ ge) ∧ k ≠ gb)) (c := cu) HU.out); (case s2 => exact HDU.out); rintro e w10 ⟨rfl, hb_⟩; have n1_ := Aside0.mk (below_step HB.out hb_); have n2_ := Aside0.mk (blk_below BK.out hb_); have n3_ := Aside0.mk (blk_below BE.out hb_); have n4_ := Aside0.mk (Kd.R_below HU.out hb_); clear HB BK BE HU; have HB := n1_; have BK := n2_; have BE := n3_; have HU := n4_; clear n1_ n2_ n3_ n4_ hb_; have maz0 := (blk_cell BK.out 0).trans rfl; have maf0 := blk_frozen BK.out 0; have maz1 := (blk_cell BK.out 1).trans rfl; have maf1 := blk_frozen BK.out 1; have maz2 := (blk_cell BK.out 2).trans rfl; have maf2 := blk_frozen BK.out 2; have maz3 := (blk_cell BK.out 3).trans rfl; have maf3 := blk_frozen BK.out 3; have maz4 := (blk_cell BK.out 4).trans rfl; have maf4 := blk_frozen BK.out 4; have mbz0 := (blk_cell BE.out 0).trans rfl; have mbf0 := blk_frozen BE.out 0; have mbz1 := (blk_cell BE.out 1).trans rfl; have mbf1 := blk_frozen BE.out 1; have mbz2 := (blk_cell BE.out 2).trans rfl; have mbf2 := blk_frozen BE.out 2; have mbz3 := (blk_cell BE.out 3).trans rfl; have mbf3 := blk_frozen BE.out 3; have mbz4 := (blk_cell BE.out 4).trans rfl; have mbf4 := blk_frozen BE.out 4))
      refine bodyPost_ret (results_ct rfl _ _ gb 24 #[.int .i64 (wrap64 v1), .string (strOfNums x3), .int .i64 (wrap64 v2), .string (strOfNums x4), .slice Au x5.length cu] (0, 0) _ rfl (by refine blk_put (cs := #[.int .i64 (wrap64 v1), .string (strOfNums x3), .int .i64 (wrap64 v2), .string (strOfNums x4), .slice none 0 0]) ?_ 4 _ rfl; refine blk_put (cs := #[.int .i64 (wrap64 v1), .string (strOfNums x3), .int .i64 (wrap64 v2), .string ⟨#[]⟩, .slice none 0 0]) ?_ 3 _ rfl; refine blk_put (cs := #[.int .i64 (wrap64 v1), .string (strOfNums x3), .int .i64 0, .string ⟨#[]⟩, .slice none 0 0]) ?_ 2 _ rfl; refine blk_put (cs := #[.int .i64 (wrap64 v1), .string ⟨#[]⟩, .int .i64 0, .string ⟨#[]⟩, .slice none 0 0]) ?_ 1 _ rfl; refine blk_put (cs := #[.int .i64 0, .string ⟨#[]⟩, .int .i64 0, .string ⟨#[]⟩, .slice none 0 0]) ?_ 0 _ rfl; exact BK.out) Try.underlying24 rfl (by kernel_rfl)) rfl ?_
      exact ⟨_, rfl, Kd.R_mono (show Kd.R (Kd.int .u8) 5 _ w.heap.size (fun k => ((w.heap.size ≤ k ∧ k ≠ gr) ∧ k ≠ ge) ∧ k ≠ gb) (.slice Au x5.length cu) x5 from (by repeat (first | (with_reducible exact HU.out) | (with_reducible refine Kd.R_drewN ?_ _) | (with_reducible refine Kd.R_far (p := ⟨gb, _, none⟩) ?_ (fun k hk => hk.2) _)))) (fun k hk => hk.1.1.1), (by repeat (with_reducible first | exact HB.out | apply pw_below_drewN | refine below_set ?_ GE.out))⟩
end Go.Proofs.Ytfgeffmlfbeodaa.PEventAll
