/- KeyApart's walk: where the callees answer as is told, the law returns true. Conditions: those of each theorem. -/
import Derived.Test.YtfgeffmlfbeodaaPKeyApartx2
import Derived.Test.YtfgeffmlfbeodaaRGK
import Derived.WalkLawsBesides
namespace Go.Proofs.Ytfgeffmlfbeodaa.PKeyApart
open Go.RowKit Go.Proofs.YtfgeffmlfbeodaaW.PrintWords Go.Proofs.YtfgeffmlfbeodaaW.PrintLast Go.Proofs.YtfgeffmlfbeodaaW.PrintMore
open Go.Proofs.Ytfgeffmlfbeodaa.RG
set_option linter.unusedVariables false
set_option linter.unusedSimpArgs false
set_option maxHeartbeats 8000000 in
set_option maxRecDepth 100000 in
theorem way_a (k : Nat) (a b : ByteArray) (w : World) (h0 : pandectlaw6_begun.f k = some true) (ha : pandectref6_MayName.f k a = some false) :
    Calls Try.prog 14 #[.string a, .string b] w fun e w' => e = .returned (.bool true) ∧ Below w.heap.size w w' := by
  have H0 := Aside0.mk h0
  have HA := Aside0.mk ha
  clear ha
  have HB := Aside0.mk (Below.refl w.heap.size w)
  clear h0
  go_enter Try.func14, Try.ntmps14
  go_wp2_with (first | (go_at_call 49; (with_reducible refine (pandectlaw6_begun.calls k true _ H0.out).mono ?_); rintro e w1 ⟨rfl, hb_⟩; replace HB := Aside0.mk hb_; clear hb_) | (go_at_call 54; (with_reducible refine (pandectref6_MayName.calls k a false _ HA.out).mono ?_); rintro e w2 ⟨rfl, ⟨n_, rfl⟩⟩))
  go_ret
  exact ⟨rfl, by repeat (first | exact HB.out | apply pw_below_drewN)⟩
set_option maxHeartbeats 8000000 in
set_option maxRecDepth 100000 in
theorem way_b (k : Nat) (a b : ByteArray) (w : World) (h0 : pandectlaw6_begun.f k = some true) (ha : pandectref6_MayName.f k a = some true) (hb : pandectref6_MayName.f k b = some false) :
    Calls Try.prog 14 #[.string a, .string b] w fun e w' => e = .returned (.bool true) ∧ Below w.heap.size w w' := by
  have H0 := Aside0.mk h0
  have HA := Aside0.mk ha
  clear ha
  have HN := Aside0.mk hb
  clear hb
  have HB := Aside0.mk (Below.refl w.heap.size w)
  clear h0
  go_enter Try.func14, Try.ntmps14
  go_wp2_with (first | (go_at_call 49; (with_reducible refine (pandectlaw6_begun.calls k true _ H0.out).mono ?_); rintro e w1 ⟨rfl, hb_⟩; replace HB := Aside0.mk hb_; clear hb_) | (go_at_call 54; (with_reducible refine (pandectref6_MayName.calls k a true _ HA.out).mono ?_); rintro e w2 ⟨rfl, ⟨n_, rfl⟩⟩) | (go_at_call 54; (with_reducible refine (pandectref6_MayName.calls k b false _ HN.out).mono ?_); rintro e w2 ⟨rfl, ⟨n_, rfl⟩⟩))
  go_ret
  exact ⟨rfl, by repeat (first | exact HB.out | apply pw_below_drewN)⟩
/-- A row of strings that may be read. -/
def RowS (xs : List ByteArray) (v : Value) (W : World) : Prop := ∃ A c, v = .slice A xs.length c ∧ xs.length ≤ c ∧ Kd.string.C W A xs.length xs
theorem RowS.below {xs : List ByteArray} {v : Value} {w w' : World} (h : RowS xs v w) (hb : Below w.heap.size w w') : RowS xs v w' := by
  obtain ⟨A, c, e, hc, hC⟩ := h
  exact ⟨A, c, e, hc, Kd.C_below hC hb⟩
set_option maxHeartbeats 40000000 in
set_option maxRecDepth 100000 in
theorem main_ (k : Nat) (a b : ByteArray) (X0 X1 X2 X3 Y0 Y1 Y2 Y3 S T : List Int) (xs ys : List ByteArray) (w : World) (h0 : pandectlaw6_begun.f k = some true) (ha : pandectref6_MayName.f k a = some true) (hb : pandectref6_MayName.f k b = some true)
    (FX0_ : key_Head.f a = some X0) (FX1_ : key_ID.f a = some X1) (FX2_ : key_Snap.f a = some X2) (FX3_ : key_Point.f a = some X3) (FY0_ : key_Head.f b = some Y0) (FY1_ : key_ID.f b = some Y1) (FY2_ : key_Snap.f b = some Y2) (FY3_ : key_Point.f b = some Y3) (HS_ : key_Stream.f k a 7 = some S) (HTS_ : key_TakeStream.f k S = some (a, 7, true)) (HT_ : key_Type.f k b 9 = some T) (HTT_ : key_TakeType.f k T = some (b, 9, true)) (hxs : xs = [strOfNums X0, strOfNums X1, strOfNums X2, strOfNums X3]) (hys : ys = [strOfNums Y0, strOfNums Y1, strOfNums Y2, strOfNums Y3]) (has : a.size ≤ 16)
    (hlaw : ∀ i j : Int, 0 ≤ i → i < 4 → 0 ≤ j → j < 4 → ((rdOf ByteArray.empty xs i).toList == (rdOf ByteArray.empty ys j).toList) = (decide (i = j) && (a.toList == b.toList))) (hsz : ∀ i : Int, 0 ≤ i → i < 4 → (rdOf ByteArray.empty xs i).size = a.size + 1) :
    Calls Try.prog 14 #[.string a, .string b] w fun e w' => e = .returned (.bool true) ∧ Below w.heap.size w w' := by
  have H0 := Aside0.mk h0
  have HA := Aside0.mk ha
  have HN := Aside0.mk hb
  have FX0 := Aside0.mk FX0_
  have FX1 := Aside0.mk FX1_
  have FX2 := Aside0.mk FX2_
  have FX3 := Aside0.mk FX3_
  have FY0 := Aside0.mk FY0_
  have FY1 := Aside0.mk FY1_
  have FY2 := Aside0.mk FY2_
  have FY3 := Aside0.mk FY3_
  have HS := Aside0.mk HS_
  have HTS := Aside0.mk HTS_
  have HT := Aside0.mk HT_
  have HTT := Aside0.mk HTT_
  have HXS := Aside0.mk hxs
  have HYS := Aside0.mk hys
  have HLAW := Aside0.mk hlaw
  have HSZ := Aside0.mk hsz
  have HAS := Aside0.mk has
  have LX := Aside0.mk (show xs.length = 4 by rw [hxs]; rfl)
  have LY := Aside0.mk (show ys.length = 4 by rw [hys]; rfl)
  have qa : (a.toList == a.toList) = true := beq_self_eq_true _
  have qb : (b.toList == b.toList) = true := beq_self_eq_true _
  have HB := Aside0.mk (Below.refl w.heap.size w)
  clear h0 ha hb hxs hys hlaw hsz has FX0_ FX1_ FX2_ FX3_ FY0_ FY1_ FY2_ FY3_ HS_ HTS_ HT_ HTT_
  go_enter Try.func14, Try.ntmps14
  go_wp2_with (first | (go_at_call 49; (with_reducible refine (pandectlaw6_begun.calls k true _ H0.out).mono ?_); rintro e w1 ⟨rfl, hb_⟩; replace HB := Aside0.mk hb_; clear hb_) | (go_at_call 54; (with_reducible refine (pandectref6_MayName.calls k a true _ HA.out).mono ?_); rintro e w2 ⟨rfl, ⟨n_, rfl⟩⟩) | (go_at_call 54; (with_reducible refine (pandectref6_MayName.calls k b true _ HN.out).mono ?_); rintro e w2 ⟨rfl, ⟨n_, rfl⟩⟩))
  refine RG.regionT 124 13 (fun W => Below w.heap.size w W) [Sp.exact ?_, Sp.ex (Row X0), Sp.exact ?_, Sp.exact ?_, Sp.ex (Row X1), Sp.exact ?_, Sp.exact ?_, Sp.ex (Row X2), Sp.exact ?_, Sp.exact ?_, Sp.ex (Row X3), Sp.exact ?_, Sp.ex (RowS xs)] (by kernel_rfl) (by kernel_rfl) (by kernel_rfl) rfl (fun _ _ hb h => below_then h h.size hb) (by exact ⟨fun _ _ _ hb h => Row.below h hb, fun _ _ _ hb h => Row.below h hb, fun _ _ _ hb h => Row.below h hb, fun _ _ _ hb h => Row.below h hb, fun _ _ _ hb h => RowS.below h hb, trivial⟩) (by repeat (first | exact HB.out | apply below_alloc | apply pw_below_drewN | apply below_drew1)) ?_
  rotate_right
  simp only [List.toList_toArray, List.take_succ_cons, List.take_zero, List.drop_succ_cons, List.drop_zero]
  refine rgW.just (b' := ?_) (Or.inl ⟨by rfl, ?_⟩) ?_ ?_; rotate_left; (focus (intro w'; go_simp; with_reducible rfl)); (focus (simp only [Act.put, List.setIfInBounds_toArray, List.set_cons_zero, List.set_cons_succ]; try rfl))
  refine rgW.call (b' := ?_) #[.string a] Try.func61 (by kernel_rfl) rfl (by rfl) rfl (by (try simp only [List.map_toArray, List.map_cons, List.map_nil]); first | done | rfl) (fun W hS hK => ?_) ?_ ?_
  rotate_left
  · with_reducible refine (key_Head.calls a X0 _ FX0.out).mono ?_
    rintro e W' ⟨v, rfl, ho, hb⟩
    exact ⟨v, rfl, .of_R ho, hb⟩
  · intro v
    simp only [Act.put, List.setIfInBounds_toArray, List.set_cons_zero, List.set_cons_succ]
    exact rfl
  intro v_
  refine rgW.conv (b' := ?_) (xs := X0) (by rfl) rfl (by rfl) Try.underlying22 Try.underlying5 Try.underlying9 ?_ ?_ ?_ ?_; rotate_left; (focus rfl); (focus (intro W hS hK; exact hK.1 (by kernel_rfl))); (focus (simp only [Act.put, List.setIfInBounds_toArray, List.set_cons_zero, List.set_cons_succ]; try rfl))
  refine rgW.just (b' := ?_) (Or.inl ⟨by rfl, ?_⟩) ?_ ?_; rotate_left; (focus (intro w'; go_simp; with_reducible rfl)); (focus (simp only [Act.put, List.setIfInBounds_toArray, List.set_cons_zero, List.set_cons_succ]; try rfl))
  refine rgW.call (b' := ?_) #[.string a] Try.func63 (by kernel_rfl) rfl (by rfl) rfl (by (try simp only [List.map_toArray, List.map_cons, List.map_nil]); first | done | rfl) (fun W hS hK => ?_) ?_ ?_
  rotate_left
  · with_reducible refine (key_ID.calls a X1 _ FX1.out).mono ?_
    rintro e W' ⟨v, rfl, ho, hb⟩
    exact ⟨v, rfl, .of_R ho, hb⟩
  · intro v
    simp only [Act.put, List.setIfInBounds_toArray, List.set_cons_zero, List.set_cons_succ]
    exact rfl
  intro v_
  refine rgW.conv (b' := ?_) (xs := X1) (by rfl) rfl (by rfl) Try.underlying22 Try.underlying5 Try.underlying9 ?_ ?_ ?_ ?_; rotate_left; (focus rfl); (focus (intro W hS hK; exact hK.1 (by kernel_rfl))); (focus (simp only [Act.put, List.setIfInBounds_toArray, List.set_cons_zero, List.set_cons_succ]; try rfl))
  refine rgW.just (b' := ?_) (Or.inl ⟨by rfl, ?_⟩) ?_ ?_; rotate_left; (focus (intro w'; go_simp; with_reducible rfl)); (focus (simp only [Act.put, List.setIfInBounds_toArray, List.set_cons_zero, List.set_cons_succ]; try rfl))
  refine rgW.call (b' := ?_) #[.string a] Try.func64 (by kernel_rfl) rfl (by rfl) rfl (by (try simp only [List.map_toArray, List.map_cons, List.map_nil]); first | done | rfl) (fun W hS hK => ?_) ?_ ?_
  rotate_left
  · with_reducible refine (key_Snap.calls a X2 _ FX2.out).mono ?_
    rintro e W' ⟨v, rfl, ho, hb⟩
    exact ⟨v, rfl, .of_R ho, hb⟩
  · intro v
    simp only [Act.put, List.setIfInBounds_toArray, List.set_cons_zero, List.set_cons_succ]
    exact rfl
  intro v_
  refine rgW.conv (b' := ?_) (xs := X2) (by rfl) rfl (by rfl) Try.underlying22 Try.underlying5 Try.underlying9 ?_ ?_ ?_ ?_; rotate_left; (focus rfl); (focus (intro W hS hK; exact hK.1 (by kernel_rfl))); (focus (simp only [Act.put, List.setIfInBounds_toArray, List.set_cons_zero, List.set_cons_succ]; try rfl))
  refine rgW.just (b' := ?_) (Or.inl ⟨by rfl, ?_⟩) ?_ ?_; rotate_left; (focus (intro w'; go_simp; with_reducible rfl)); (focus (simp only [Act.put, List.setIfInBounds_toArray, List.set_cons_zero, List.set_cons_succ]; try rfl))
  refine rgW.call (b' := ?_) #[.string a] Try.func65 (by kernel_rfl) rfl (by rfl) rfl (by (try simp only [List.map_toArray, List.map_cons, List.map_nil]); first | done | rfl) (fun W hS hK => ?_) ?_ ?_
  rotate_left
  · with_reducible refine (key_Point.calls a X3 _ FX3.out).mono ?_
    rintro e W' ⟨v, rfl, ho, hb⟩
    exact ⟨v, rfl, .of_R ho, hb⟩
  · intro v
    simp only [Act.put, List.setIfInBounds_toArray, List.set_cons_zero, List.set_cons_succ]
    exact rfl
  intro v_
  refine rgW.conv (b' := ?_) (xs := X3) (by rfl) rfl (by rfl) Try.underlying22 Try.underlying5 Try.underlying9 ?_ ?_ ?_ ?_; rotate_left; (focus rfl); (focus (intro W hS hK; exact hK.1 (by kernel_rfl))); (focus (simp only [Act.put, List.setIfInBounds_toArray, List.set_cons_zero, List.set_cons_succ]; try rfl))
  refine rgW.told (b' := ?_) ?_ (fun W hS hK K hKK => ?_) ?_
  rotate_left
  · intro v
    simp only [Act.put, List.setIfInBounds_toArray, List.set_cons_zero, List.set_cons_succ]
    exact rfl
  · ((refine Kd.R_lit_step Kd.string _ 9 ?hg (N := 37) ?hd (xs := [strOfNums X0, strOfNums X1, strOfNums X2, strOfNums X3]) (inner := [.string (strOfNums X0), .string (strOfNums X1), .string (strOfNums X2), .string (strOfNums X3)]) (ok := fun _ => True) (okp := fun _ => True) ?hr ?hp (fun _ hk => hk) trivial (Below.refl W.heap.size W) (Nat.le_refl _) (by simp) ?_); (case hd => rfl); (case hg => rfl); (case hr => first | (go_simp; done) | (go_simp; rfl)); (case hp => exact (Reps.one (show Kd.M Kd.string _ _ _ (strOfNums X0) [.string (strOfNums X0)] from rfl) (Reps.one (show Kd.M Kd.string _ _ _ (strOfNums X1) [.string (strOfNums X1)] from rfl) (Reps.one (show Kd.M Kd.string _ _ _ (strOfNums X2) [.string (strOfNums X2)] from rfl) (Reps.one (show Kd.M Kd.string _ _ _ (strOfNums X3) [.string (strOfNums X3)] from rfl) (Reps.none _ _)))))); intro v_ W9 ho hb hg_ hnew_; rw [← HXS.out] at ho; exact hKK _ _ (Kd.R_reads ho) hb)
  intro v_
  intro w5 hS hA
  obtain ⟨⟨A5, c5, e_, hc_, hC_⟩, _⟩ := hA
  subst e_
  clear HB
  have HB := Aside0.mk hS
  have HR5 := Aside0.mk hC_
  clear hS hc_ hC_
  go_wp2_with (fail)
  have H5 := Aside0.mk (Below.refl w5.heap.size w5)
  refine RG.regionT 124 13 (fun W => Below w5.heap.size w5 W) [Sp.exact ?_, Sp.ex (Row Y0), Sp.exact ?_, Sp.exact ?_, Sp.ex (Row Y1), Sp.exact ?_, Sp.exact ?_, Sp.ex (Row Y2), Sp.exact ?_, Sp.exact ?_, Sp.ex (Row Y3), Sp.exact ?_, Sp.ex (RowS ys)] (by kernel_rfl) (by kernel_rfl) (by kernel_rfl) rfl (fun _ _ hb h => below_then h h.size hb) (by exact ⟨fun _ _ _ hb h => Row.below h hb, fun _ _ _ hb h => Row.below h hb, fun _ _ _ hb h => Row.below h hb, fun _ _ _ hb h => Row.below h hb, fun _ _ _ hb h => RowS.below h hb, trivial⟩) (by repeat (first | exact H5.out | apply below_alloc | apply pw_below_drewN | apply below_drew1)) ?_
  rotate_right
  simp only [List.toList_toArray, List.take_succ_cons, List.take_zero, List.drop_succ_cons, List.drop_zero]
  refine rgW.just (b' := ?_) (Or.inl ⟨by rfl, ?_⟩) ?_ ?_; rotate_left; (focus (intro w'; go_simp; with_reducible rfl)); (focus (simp only [Act.put, List.setIfInBounds_toArray, List.set_cons_zero, List.set_cons_succ]; try rfl))
  refine rgW.call (b' := ?_) #[.string b] Try.func61 (by kernel_rfl) rfl (by rfl) rfl (by (try simp only [List.map_toArray, List.map_cons, List.map_nil]); first | done | rfl) (fun W hS hK => ?_) ?_ ?_
  rotate_left
  · with_reducible refine (key_Head.calls b Y0 _ FY0.out).mono ?_
    rintro e W' ⟨v, rfl, ho, hb⟩
    exact ⟨v, rfl, .of_R ho, hb⟩
  · intro v
    simp only [Act.put, List.setIfInBounds_toArray, List.set_cons_zero, List.set_cons_succ]
    exact rfl
  intro v_
  refine rgW.conv (b' := ?_) (xs := Y0) (by rfl) rfl (by rfl) Try.underlying22 Try.underlying5 Try.underlying9 ?_ ?_ ?_ ?_; rotate_left; (focus rfl); (focus (intro W hS hK; exact hK.1 (by kernel_rfl))); (focus (simp only [Act.put, List.setIfInBounds_toArray, List.set_cons_zero, List.set_cons_succ]; try rfl))
  refine rgW.just (b' := ?_) (Or.inl ⟨by rfl, ?_⟩) ?_ ?_; rotate_left; (focus (intro w'; go_simp; with_reducible rfl)); (focus (simp only [Act.put, List.setIfInBounds_toArray, List.set_cons_zero, List.set_cons_succ]; try rfl))
  refine rgW.call (b' := ?_) #[.string b] Try.func63 (by kernel_rfl) rfl (by rfl) rfl (by (try simp only [List.map_toArray, List.map_cons, List.map_nil]); first | done | rfl) (fun W hS hK => ?_) ?_ ?_
  rotate_left
  · with_reducible refine (key_ID.calls b Y1 _ FY1.out).mono ?_
    rintro e W' ⟨v, rfl, ho, hb⟩
    exact ⟨v, rfl, .of_R ho, hb⟩
  · intro v
    simp only [Act.put, List.setIfInBounds_toArray, List.set_cons_zero, List.set_cons_succ]
    exact rfl
  intro v_
  refine rgW.conv (b' := ?_) (xs := Y1) (by rfl) rfl (by rfl) Try.underlying22 Try.underlying5 Try.underlying9 ?_ ?_ ?_ ?_; rotate_left; (focus rfl); (focus (intro W hS hK; exact hK.1 (by kernel_rfl))); (focus (simp only [Act.put, List.setIfInBounds_toArray, List.set_cons_zero, List.set_cons_succ]; try rfl))
  refine rgW.just (b' := ?_) (Or.inl ⟨by rfl, ?_⟩) ?_ ?_; rotate_left; (focus (intro w'; go_simp; with_reducible rfl)); (focus (simp only [Act.put, List.setIfInBounds_toArray, List.set_cons_zero, List.set_cons_succ]; try rfl))
  refine rgW.call (b' := ?_) #[.string b] Try.func64 (by kernel_rfl) rfl (by rfl) rfl (by (try simp only [List.map_toArray, List.map_cons, List.map_nil]); first | done | rfl) (fun W hS hK => ?_) ?_ ?_
  rotate_left
  · with_reducible refine (key_Snap.calls b Y2 _ FY2.out).mono ?_
    rintro e W' ⟨v, rfl, ho, hb⟩
    exact ⟨v, rfl, .of_R ho, hb⟩
  · intro v
    simp only [Act.put, List.setIfInBounds_toArray, List.set_cons_zero, List.set_cons_succ]
    exact rfl
  intro v_
  refine rgW.conv (b' := ?_) (xs := Y2) (by rfl) rfl (by rfl) Try.underlying22 Try.underlying5 Try.underlying9 ?_ ?_ ?_ ?_; rotate_left; (focus rfl); (focus (intro W hS hK; exact hK.1 (by kernel_rfl))); (focus (simp only [Act.put, List.setIfInBounds_toArray, List.set_cons_zero, List.set_cons_succ]; try rfl))
  refine rgW.just (b' := ?_) (Or.inl ⟨by rfl, ?_⟩) ?_ ?_; rotate_left; (focus (intro w'; go_simp; with_reducible rfl)); (focus (simp only [Act.put, List.setIfInBounds_toArray, List.set_cons_zero, List.set_cons_succ]; try rfl))
  refine rgW.call (b' := ?_) #[.string b] Try.func65 (by kernel_rfl) rfl (by rfl) rfl (by (try simp only [List.map_toArray, List.map_cons, List.map_nil]); first | done | rfl) (fun W hS hK => ?_) ?_ ?_
  rotate_left
  · with_reducible refine (key_Point.calls b Y3 _ FY3.out).mono ?_
    rintro e W' ⟨v, rfl, ho, hb⟩
    exact ⟨v, rfl, .of_R ho, hb⟩
  · intro v
    simp only [Act.put, List.setIfInBounds_toArray, List.set_cons_zero, List.set_cons_succ]
    exact rfl
  intro v_
  refine rgW.conv (b' := ?_) (xs := Y3) (by rfl) rfl (by rfl) Try.underlying22 Try.underlying5 Try.underlying9 ?_ ?_ ?_ ?_; rotate_left; (focus rfl); (focus (intro W hS hK; exact hK.1 (by kernel_rfl))); (focus (simp only [Act.put, List.setIfInBounds_toArray, List.set_cons_zero, List.set_cons_succ]; try rfl))
  refine rgW.told (b' := ?_) ?_ (fun W hS hK K hKK => ?_) ?_
  rotate_left
  · intro v
    simp only [Act.put, List.setIfInBounds_toArray, List.set_cons_zero, List.set_cons_succ]
    exact rfl
  · ((refine Kd.R_lit_step Kd.string _ 9 ?hg (N := 50) ?hd (xs := [strOfNums Y0, strOfNums Y1, strOfNums Y2, strOfNums Y3]) (inner := [.string (strOfNums Y0), .string (strOfNums Y1), .string (strOfNums Y2), .string (strOfNums Y3)]) (ok := fun _ => True) (okp := fun _ => True) ?hr ?hp (fun _ hk => hk) trivial (Below.refl W.heap.size W) (Nat.le_refl _) (by simp) ?_); (case hd => rfl); (case hg => rfl); (case hr => first | (go_simp; done) | (go_simp; rfl)); (case hp => exact (Reps.one (show Kd.M Kd.string _ _ _ (strOfNums Y0) [.string (strOfNums Y0)] from rfl) (Reps.one (show Kd.M Kd.string _ _ _ (strOfNums Y1) [.string (strOfNums Y1)] from rfl) (Reps.one (show Kd.M Kd.string _ _ _ (strOfNums Y2) [.string (strOfNums Y2)] from rfl) (Reps.one (show Kd.M Kd.string _ _ _ (strOfNums Y3) [.string (strOfNums Y3)] from rfl) (Reps.none _ _)))))); intro v_ W9 ho hb hg_ hnew_; rw [← HYS.out] at ho; exact hKK _ _ (Kd.R_reads ho) hb)
  intro v_
  intro w6 hS hA
  obtain ⟨⟨A6, c6, e_, hc_, hC_⟩, _⟩ := hA
  subst e_
  clear H5
  have n_ := Aside0.mk (below_then HB.out HB.out.size hS)
  have m_ := Aside0.mk (Kd.C_below HR5.out hS)
  clear HB HR5
  have HB := n_
  have HR5 := m_
  have HR6 := Aside0.mk hC_
  clear hS hc_ hC_ n_ m_
  go_wp2_with (fail)
  obtain ⟨ad5, e5, _⟩ := Kd.at_string HR5.out 0 (by omega) (by have := LX.out; omega)
  obtain ⟨ad6, e6, _⟩ := Kd.at_string HR6.out 0 (by omega) (by have := LY.out; omega)
  cases e5
  cases e6
  have H6 := Aside0.mk (Below.refl w6.heap.size w6)
  go_loopg [7] 5 (fun kq v7 w' => ∃ (x7 : Int), v7 = .int .i64 x7 ∧ Aside0 (0 ≤ x7 ∧ x7 ≤ 4 ∧ x7 + kq = 5) ∧ Aside0 (Below w6.heap.size w6 w'))
  case atStart => exact ⟨(0 : Int), rfl, ⟨by decide⟩, H6⟩
  case round =>
    clear H6
    obtain ⟨x7, rfl, HI, H6⟩ := hrel
    cases gk with
    | zero => exact absurd HI.out (by omega)
    | succ k1 =>
      by_cases c7 : x7 < 4
      · have c7b0 : decide (x7 < 4) = true := decide_eq_true c7
        have P7 := Aside0.mk c7
        clear c7
        go_wp2_with (fail)
        go_loopg [8] 5 (fun kq v8 w' => ∃ (x8 : Int), v8 = .int .i64 x8 ∧ Aside0 (0 ≤ x8 ∧ x8 ≤ 4 ∧ x8 + kq = 5) ∧ Aside0 (Below w6.heap.size w6 w'))
        case atStart => exact ⟨(0 : Int), rfl, ⟨by decide⟩, H6⟩
        case round =>
          clear H6 c7b0
          obtain ⟨x8, rfl, HJ, H6⟩ := hrel
          cases gk with
          | zero => exact absurd HJ.out (by omega)
          | succ j1 =>
            by_cases c8 : x8 < 4
            · have c8b0 : decide (x8 < 4) = true := decide_eq_true c8
              have hlaw := HLAW.out x7 x8 HI.out.1 P7.out HJ.out.1 c8
              have hsz := HSZ.out x7 HI.out.1 P7.out
              obtain ⟨_, e5, hx⟩ := Kd.at_string HR5.out x7 HI.out.1 (by have := LX.out; have := P7.out; omega)
              cases e5
              obtain ⟨_, e6, hy⟩ := Kd.at_string HR6.out x8 HJ.out.1 (by have := LY.out; omega)
              cases e6
              generalize rdOf ByteArray.empty xs x7 = X at hlaw hsz hx
              generalize rdOf ByteArray.empty ys x8 = Y at hlaw hy
              have HX := Aside0.mk hx
              have HY := Aside0.mk hy
              have p7 := eq_true HI.out.1
              have q7 : (x7 < (xs.length : Int)) = True := eq_true (by have := LX.out; have := P7.out; omega)
              have p8 := eq_true HJ.out.1
              have q8 : (x8 < (ys.length : Int)) = True := eq_true (by have := LY.out; omega)
              have l13 : wrap64 ((a.size : Int) + 1) = (a.size : Int) + 1 := by have := HAS.out; unfold wrap64; omega
              have l12 : IntKind.i64.wrap ((a.size : Int) + 1) = (a.size : Int) + 1 := (i64_w _).trans l13
              have l14 : ((X.size : Int) != (a.size : Int) + 1) = false := bne_eq_false_iff_eq.mpr (by omega)
              have C8 := Aside0.mk c8
              clear hx hy hsz c8
              obtain ⟨d, hd⟩ : ∃ d, (x7 == x8) = d := ⟨_, rfl⟩
              obtain ⟨ab, hab⟩ : ∃ ab, (a.toList == b.toList) = ab := ⟨_, rfl⟩
              have hlaw2 : (X.toList == Y.toList) = (d && ab) := by
                rw [hlaw, hab, ← hd]
                congr 1
              clear hlaw
              cases d <;> cases ab
              all_goals
                simp only [Bool.and_true, Bool.and_false] at hlaw2
                go_wp2_with (fail)
                refine RG.region 124 (fun W => Below w6.heap.size w6 W) [Sp.exact ?_, Sp.exact ?_, Sp.exact ?_, Sp.exact ?_, Sp.exact ?_, Sp.exact ?_, Sp.exact ?_, Sp.exact ?_, Sp.exact ?_, Sp.exact ?_, Sp.exact ?_, Sp.exact ?_, Sp.exact ?_, Sp.exact ?_, Sp.exact ?_, Sp.exact ?_, Sp.exact ?_, Sp.exact ?_, Sp.exact ?_, Sp.exact ?_, Sp.exact ?_, Sp.exact ?_, Sp.exact ?_, Sp.exact ?_, Sp.exact ?_, Sp.exact ?_, Sp.exact ?_, Sp.exact ?_, Sp.exact ?_] (by kernel_rfl) (by kernel_rfl) rfl (fun _ _ hb h => below_then h h.size hb) trivial (by repeat (first | exact H6.out | apply below_alloc | apply pw_below_drewN | apply below_drew1)) ?_
                rotate_right
                refine rgW.just (b' := ?_) (Or.inl ⟨by rfl, ?_⟩) ?_ ?_; rotate_left; (focus (intro w'; go_simp; with_reducible rfl)); (focus (simp only [Act.put, List.setIfInBounds_toArray, List.set_cons_zero, List.set_cons_succ]; try rfl))
                refine rgW.just (b' := ?_) (Or.inl ⟨by rfl, ?_⟩) ?_ ?_; rotate_left; (focus (intro w'; go_simp; with_reducible rfl)); (focus (simp only [Act.put, List.setIfInBounds_toArray, List.set_cons_zero, List.set_cons_succ]; try rfl))
                refine rgW.just (b' := ?_) (Or.inl ⟨by rfl, ?_⟩) ?_ ?_; rotate_left; (focus (intro w'; go_simp; with_reducible rfl)); (focus (simp only [Act.put, List.setIfInBounds_toArray, List.set_cons_zero, List.set_cons_succ]; try rfl))
                refine rgW.read (b' := ?_) (by rfl) ?_ ?_ ?_; rotate_left; (focus (intro W hS hK; have hc_ := (hS.cell (World.block_lt_of_cell? w6 _ HX.out)).trans HX.out; go_simp; with_reducible rfl)); (focus (simp only [Act.put, List.setIfInBounds_toArray, List.set_cons_zero, List.set_cons_succ]; try rfl))
                refine rgW.just (b' := ?_) (Or.inl ⟨by rfl, ?_⟩) ?_ ?_; rotate_left; (focus (intro w'; go_simp; with_reducible rfl)); (focus (simp only [Act.put, List.setIfInBounds_toArray, List.set_cons_zero, List.set_cons_succ]; try rfl))
                refine rgW.just (b' := ?_) (Or.inl ⟨by rfl, ?_⟩) ?_ ?_; rotate_left; (focus (intro w'; go_simp; with_reducible rfl)); (focus (simp only [Act.put, List.setIfInBounds_toArray, List.set_cons_zero, List.set_cons_succ]; try rfl))
                refine rgW.just (b' := ?_) (Or.inl ⟨by rfl, ?_⟩) ?_ ?_; rotate_left; (focus (intro w'; go_simp; with_reducible rfl)); (focus (simp only [Act.put, List.setIfInBounds_toArray, List.set_cons_zero, List.set_cons_succ]; try rfl))
                refine rgW.read (b' := ?_) (by rfl) ?_ ?_ ?_; rotate_left; (focus (intro W hS hK; have hc_ := (hS.cell (World.block_lt_of_cell? w6 _ HY.out)).trans HY.out; go_simp; with_reducible rfl)); (focus (simp only [Act.put, List.setIfInBounds_toArray, List.set_cons_zero, List.set_cons_succ]; try rfl))
                refine rgW.just (b' := ?_) (Or.inl ⟨by rfl, ?_⟩) ?_ ?_; rotate_left; (focus (intro w'; go_simp; with_reducible rfl)); (focus (simp only [Act.put, List.setIfInBounds_toArray, List.set_cons_zero, List.set_cons_succ]; try rfl))
                refine rgW.just (b' := ?_) (Or.inl ⟨by rfl, ?_⟩) ?_ ?_; rotate_left; (focus (intro w'; go_simp; with_reducible rfl)); (focus (simp only [Act.put, List.setIfInBounds_toArray, List.set_cons_zero, List.set_cons_succ]; try rfl))
                refine rgW.just (b' := ?_) (Or.inl ⟨by rfl, ?_⟩) ?_ ?_; rotate_left; (focus (intro w'; go_simp; with_reducible rfl)); (focus (simp only [Act.put, List.setIfInBounds_toArray, List.set_cons_zero, List.set_cons_succ]; try rfl))
                refine rgW.just (b' := ?_) (Or.inl ⟨by rfl, ?_⟩) ?_ ?_; rotate_left; (focus (intro w'; go_simp; with_reducible rfl)); (focus (simp only [Act.put, List.setIfInBounds_toArray, List.set_cons_zero, List.set_cons_succ]; try rfl))
                refine rgW.just (b' := ?_) (Or.inl ⟨by rfl, ?_⟩) ?_ ?_; rotate_left; (focus (intro w'; go_simp; with_reducible rfl)); (focus (simp only [Act.put, List.setIfInBounds_toArray, List.set_cons_zero, List.set_cons_succ]; try rfl))
                first | (refine rgW.just (b' := ?_) (Or.inl ⟨by rfl, ?_⟩) ?_ ?_; rotate_left; (focus (intro w'; go_simp; with_reducible rfl)); (focus (simp only [Act.put, List.setIfInBounds_toArray, List.set_cons_zero, List.set_cons_succ]; try rfl))) | (refine rgW.just (b' := ?_) (Or.inr ⟨by rfl, ?_⟩) ?_ ?_; rotate_left; (focus rfl); (focus (simp only [Act.put, List.setIfInBounds_toArray, List.set_cons_zero, List.set_cons_succ]; try rfl)))
                first | (refine rgW.just (b' := ?_) (Or.inl ⟨by rfl, ?_⟩) ?_ ?_; rotate_left; (focus (intro w'; go_simp; with_reducible rfl)); (focus (simp only [Act.put, List.setIfInBounds_toArray, List.set_cons_zero, List.set_cons_succ]; try rfl))) | (refine rgW.just (b' := ?_) (Or.inr ⟨by rfl, ?_⟩) ?_ ?_; rotate_left; (focus rfl); (focus (simp only [Act.put, List.setIfInBounds_toArray, List.set_cons_zero, List.set_cons_succ]; try rfl)))
                first | (refine rgW.just (b' := ?_) (Or.inl ⟨by rfl, ?_⟩) ?_ ?_; rotate_left; (focus (intro w'; go_simp; with_reducible rfl)); (focus (simp only [Act.put, List.setIfInBounds_toArray, List.set_cons_zero, List.set_cons_succ]; try rfl))) | (refine rgW.just (b' := ?_) (Or.inr ⟨by rfl, ?_⟩) ?_ ?_; rotate_left; (focus rfl); (focus (simp only [Act.put, List.setIfInBounds_toArray, List.set_cons_zero, List.set_cons_succ]; try rfl)))
                refine rgW.just (b' := ?_) (Or.inl ⟨by rfl, ?_⟩) ?_ ?_; rotate_left; (focus (intro w'; go_simp; with_reducible rfl)); (focus (simp only [Act.put, List.setIfInBounds_toArray, List.set_cons_zero, List.set_cons_succ]; try rfl))
                refine rgW.just (b' := ?_) (Or.inl ⟨by rfl, ?_⟩) ?_ ?_; rotate_left; (focus (intro w'; go_simp; with_reducible rfl)); (focus (simp only [Act.put, List.setIfInBounds_toArray, List.set_cons_zero, List.set_cons_succ]; try rfl))
                refine rgW.just (b' := ?_) (Or.inl ⟨by rfl, ?_⟩) ?_ ?_; rotate_left; (focus (intro w'; go_simp; with_reducible rfl)); (focus (simp only [Act.put, List.setIfInBounds_toArray, List.set_cons_zero, List.set_cons_succ]; try rfl))
                refine rgW.just (b' := ?_) (Or.inl ⟨by rfl, ?_⟩) ?_ ?_; rotate_left; (focus (intro w'; go_simp; with_reducible rfl)); (focus (simp only [Act.put, List.setIfInBounds_toArray, List.set_cons_zero, List.set_cons_succ]; try rfl))
                refine rgW.just (b' := ?_) (Or.inl ⟨by rfl, ?_⟩) ?_ ?_; rotate_left; (focus (intro w'; go_simp; with_reducible rfl)); (focus (simp only [Act.put, List.setIfInBounds_toArray, List.set_cons_zero, List.set_cons_succ]; try rfl))
                refine rgW.just (b' := ?_) (Or.inl ⟨by rfl, ?_⟩) ?_ ?_; rotate_left; (focus (intro w'; go_simp; with_reducible rfl)); (focus (simp only [Act.put, List.setIfInBounds_toArray, List.set_cons_zero, List.set_cons_succ]; try rfl))
                refine rgW.read (b' := ?_) (by rfl) ?_ ?_ ?_; rotate_left; (focus (intro W hS hK; have hc_ := (hS.cell (World.block_lt_of_cell? w6 _ HX.out)).trans HX.out; go_simp; with_reducible rfl)); (focus (simp only [Act.put, List.setIfInBounds_toArray, List.set_cons_zero, List.set_cons_succ]; try rfl))
                refine rgW.just (b' := ?_) (Or.inl ⟨by rfl, ?_⟩) ?_ ?_; rotate_left; (focus (intro w'; go_simp; with_reducible rfl)); (focus (simp only [Act.put, List.setIfInBounds_toArray, List.set_cons_zero, List.set_cons_succ]; try rfl))
                refine rgW.just (b' := ?_) (Or.inl ⟨by rfl, ?_⟩) ?_ ?_; rotate_left; (focus (intro w'; go_simp; with_reducible rfl)); (focus (simp only [Act.put, List.setIfInBounds_toArray, List.set_cons_zero, List.set_cons_succ]; try rfl))
                refine rgW.just (b' := ?_) (Or.inl ⟨by rfl, ?_⟩) ?_ ?_; rotate_left; (focus (intro w'; go_simp; with_reducible rfl)); (focus (simp only [Act.put, List.setIfInBounds_toArray, List.set_cons_zero, List.set_cons_succ]; try rfl))
                refine rgW.just (b' := ?_) (Or.inl ⟨by rfl, ?_⟩) ?_ ?_; rotate_left; (focus (intro w'; go_simp; with_reducible rfl)); (focus (simp only [Act.put, List.setIfInBounds_toArray, List.set_cons_zero, List.set_cons_succ]; try rfl))
                refine rgW.just (b' := ?_) (Or.inl ⟨by rfl, ?_⟩) ?_ ?_; rotate_left; (focus (intro w'; go_simp; with_reducible rfl)); (focus (simp only [Act.put, List.setIfInBounds_toArray, List.set_cons_zero, List.set_cons_succ]; try rfl))
                refine rgW.just (b' := ?_) (Or.inl ⟨by rfl, ?_⟩) ?_ ?_; rotate_left; (focus (intro w'; go_simp; with_reducible rfl)); (focus (simp only [Act.put, List.setIfInBounds_toArray, List.set_cons_zero, List.set_cons_succ]; try rfl))
                intro W2 hS hA
                clear hA H6
                have H6 := Aside0.mk hS
                clear hS
                go_wp2_with (fail)
                go_roundg j1
                case measure => omega
                case rel => exact ⟨wrap64 (x8 + 1), by first | rfl | (simp; done) | (simp [*]; done), ⟨by have := HJ.out; have := C8.out; have e : wrap64 (x8 + 1) = x8 + 1 := (by clear l13; unfold wrap64; omega); rw [e]; clear l13; omega⟩, ⟨H6.out⟩⟩
            · have c8b0 : decide (x8 < 4) = false := decide_eq_false c8
              clear c8
              go_wp2_with (fail)
              go_roundg k1
              case measure => omega
              case rel => exact ⟨wrap64 (x7 + 1), by first | rfl | (simp; done) | (simp [*]; done), ⟨by have := HI.out; have := P7.out; have e : wrap64 (x7 + 1) = x7 + 1 := (by unfold wrap64; omega); rw [e]; omega⟩, ⟨H6.out⟩⟩
      · have c7b0 : decide (x7 < 4) = false := decide_eq_false c7
        clear c7
        go_wp2_with (first | (go_at_call 55; (with_reducible refine (key_Stream.calls k a 7 S _ HS.out).mono ?_); rintro e w7 ⟨v_, rfl, ho_, hb_⟩; obtain ⟨A7, c7_, e_, hc_, hC_⟩ := Row.of_V ho_; subst e_; have HR_S := Aside0.mk hC_; have HC_S := Aside0.mk hc_; replace H6 := Aside0.mk (below_then H6.out H6.out.size hb_); clear ho_ hb_ hc_ hC_) | (go_at_call 50; (with_reducible refine (key_TakeStream.calls k A7 c7_ S a 7 true _ HR_S.out HC_S.out HTS.out).mono ?_); rintro e w8 ⟨rfl, hb_⟩; replace H6 := Aside0.mk (below_then H6.out H6.out.size hb_); clear hb_) | (go_at_call 57; (with_reducible refine (key_Type.calls k b 9 T _ HT.out).mono ?_); rintro e w9 ⟨v_, rfl, ho_, hb_⟩; obtain ⟨A9, c9_, e_, hc_, hC_⟩ := Row.of_V ho_; subst e_; have HR_T := Aside0.mk hC_; have HC_T := Aside0.mk hc_; replace H6 := Aside0.mk (below_then H6.out H6.out.size hb_); clear ho_ hb_ hc_ hC_) | (go_at_call 52; (with_reducible refine (key_TakeType.calls k A9 c9_ T b 9 true _ HR_T.out HC_T.out HTT.out).mono ?_); rintro e w10 ⟨rfl, hb_⟩; replace H6 := Aside0.mk (below_then H6.out H6.out.size hb_); clear hb_))
        go_ret
        exact ⟨rfl, below_then HB.out HB.out.size H6.out⟩
end Go.Proofs.Ytfgeffmlfbeodaa.PKeyApart
