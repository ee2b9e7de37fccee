/- KeyAll's walk: where the callees answer as is told, the law returns true. Conditions: those of each theorem. -/
import Derived.Test.YtfgeffmlfbeodaaPKeyAllx3
import Derived.Test.YtfgeffmlfbeodaaRGK
import Derived.WalkLawsBesides
namespace Go.Proofs.Ytfgeffmlfbeodaa.PKeyAll
open Go.RowKit Go.Proofs.YtfgeffmlfbeodaaW.PrintWords Go.Proofs.YtfgeffmlfbeodaaW.PrintLast Go.Proofs.YtfgeffmlfbeodaaW.PrintMore
open Go.Proofs.Ytfgeffmlfbeodaa.RG
set_option linter.unusedVariables false
set_option linter.unusedSimpArgs false
set_option maxHeartbeats 8000000 in
set_option maxRecDepth 100000 in
theorem way_a (k : Nat) (a : ByteArray) (n : Int) (A0 : Option Addr) (c0 : Nat) (l0 : List Int) (w : World) (h0 : pandectlaw6_begun.f k = some true) (ha : 40 < a.size) :
    Calls Try.prog 11 #[.string a, .int .i64 n, .slice A0 l0.length c0] w fun e w' => e = .returned (.bool true) ∧ Below w.heap.size w w' := by
  have H0 := Aside0.mk h0
  have ba : decide (40 < (a.size : Int)) = true := decide_eq_true (by omega)
  have Ba : decide (40 < a.size) = true := decide_eq_true (by omega)
  clear ha
  have HB := Aside0.mk (Below.refl w.heap.size w)
  clear h0
  go_enter Try.func11, Try.ntmps11
  go_wp2_with (first | (go_at_call 49; (with_reducible refine (pandectlaw6_begun.calls k true _ H0.out).mono ?_); rintro e w1 ⟨rfl, hb_⟩; replace HB := Aside0.mk hb_; clear hb_))
  go_ret
  exact ⟨rfl, HB.out⟩
set_option maxHeartbeats 8000000 in
set_option maxRecDepth 100000 in
theorem way_l (k : Nat) (a : ByteArray) (n : Int) (A0 : Option Addr) (c0 : Nat) (l0 : List Int) (w : World) (h0 : pandectlaw6_begun.f k = some true) (ha : a.size ≤ 40) (hl : 40 < l0.length) :
    Calls Try.prog 11 #[.string a, .int .i64 n, .slice A0 l0.length c0] w fun e w' => e = .returned (.bool true) ∧ Below w.heap.size w w' := by
  have H0 := Aside0.mk h0
  have ba : decide (40 < (a.size : Int)) = false := decide_eq_false (by omega)
  have Ba : decide (40 < a.size) = false := decide_eq_false (by omega)
  have bl : decide (40 < (l0.length : Int)) = true := decide_eq_true (by omega)
  have Bl : decide (40 < l0.length) = true := decide_eq_true (by omega)
  clear ha hl
  have HB := Aside0.mk (Below.refl w.heap.size w)
  clear h0
  go_enter Try.func11, Try.ntmps11
  go_wp2_with (first | (go_at_call 49; (with_reducible refine (pandectlaw6_begun.calls k true _ H0.out).mono ?_); rintro e w1 ⟨rfl, hb_⟩; replace HB := Aside0.mk hb_; clear hb_))
  go_ret
  exact ⟨rfl, HB.out⟩
set_option maxHeartbeats 40000000 in
set_option maxRecDepth 100000 in
theorem main_ (k : Nat) (a : ByteArray) (n : Int) (A0 : Option Addr) (c0 : Nat) (l0 : List Int) (s : ByteArray) (z : Int) (ok mb : Bool) (X T Z L1 L2 L3 L4 F : List Int) (w : World) (h0 : pandectlaw6_begun.f k = some true) (hr0 : Kd.C (Kd.int .u8) w A0 l0.length l0) (hc0 : l0.length ≤ c0)
    (ha : a.size ≤ 40) (hl : l0.length ≤ 40) (HTS_ : key_TakeStream.f k l0 = some (s, z, ok)) (HTP_ : pandectref6_TakePair.f k l0 = some (s, z, ok)) (HTT_ : key_TakeType.f k l0 = some (s, z, ok)) (HM1_ : key_MayName.f a = some mb) (HM2_ : pandectref6_MayName.f k a = some mb) (HX1_ : key_Stream.f k a n = some X) (HX2_ : pandectref6_Stream.f k a n = some X) (HT1_ : key_Type.f k a n = some T) (HT2_ : pandectref6_Type.f k a n = some T) (HZ1_ : key_Seq.f k n = some Z) (HZ2_ : pandectref6_Seq.f k n = some Z) (HA1_ : key_Head.f a = some L1) (HA2_ : pandectref6_Lettered.f k 104 a = some L1) (HI1_ : key_ID.f a = some L2) (HI2_ : pandectref6_Lettered.f k 105 a = some L2) (HS1_ : key_Snap.f a = some L3) (HS2_ : pandectref6_Lettered.f k 115 a = some L3) (HP1_ : key_Point.f a = some L4) (HP2_ : pandectref6_Lettered.f k 112 a = some L4) (HF1_ : key_After.f k l0 = some F) (HF2_ : pandectref6_After.f k l0 = some F) :
    Calls Try.prog 11 #[.string a, .int .i64 n, .slice A0 l0.length c0] w fun e w' => e = .returned (.bool true) ∧ Below w.heap.size w w' := by
  have H0 := Aside0.mk h0
  have HR0 := Aside0.mk hr0
  have HC0 := Aside0.mk hc0
  have HTS := Aside0.mk HTS_
  have HTP := Aside0.mk HTP_
  have HTT := Aside0.mk HTT_
  have HM1 := Aside0.mk HM1_
  have HM2 := Aside0.mk HM2_
  have HX1 := Aside0.mk HX1_
  have HX2 := Aside0.mk HX2_
  have HT1 := Aside0.mk HT1_
  have HT2 := Aside0.mk HT2_
  have HZ1 := Aside0.mk HZ1_
  have HZ2 := Aside0.mk HZ2_
  have HA1 := Aside0.mk HA1_
  have HA2 := Aside0.mk HA2_
  have HI1 := Aside0.mk HI1_
  have HI2 := Aside0.mk HI2_
  have HS1 := Aside0.mk HS1_
  have HS2 := Aside0.mk HS2_
  have HP1 := Aside0.mk HP1_
  have HP2 := Aside0.mk HP2_
  have HF1 := Aside0.mk HF1_
  have HF2 := Aside0.mk HF2_
  have ba : decide (40 < (a.size : Int)) = false := decide_eq_false (by omega)
  have Ba : decide (40 < a.size) = false := decide_eq_false (by omega)
  have bl : decide (40 < (l0.length : Int)) = false := decide_eq_false (by omega)
  have Bl : decide (40 < l0.length) = false := decide_eq_false (by omega)
  have q0 : (s.toList == s.toList) = true := beq_self_eq_true _
  have p0 : (s.toList != s.toList) = false := bne_self_eq_false _
  have q1 : ((strOfNums X).toList == (strOfNums X).toList) = true := beq_self_eq_true _
  have p1 : ((strOfNums X).toList != (strOfNums X).toList) = false := bne_self_eq_false _
  have q2 : ((strOfNums T).toList == (strOfNums T).toList) = true := beq_self_eq_true _
  have p2 : ((strOfNums T).toList != (strOfNums T).toList) = false := bne_self_eq_false _
  have q3 : ((strOfNums Z).toList == (strOfNums Z).toList) = true := beq_self_eq_true _
  have p3 : ((strOfNums Z).toList != (strOfNums Z).toList) = false := bne_self_eq_false _
  have q4 : ((strOfNums L1).toList == (strOfNums L1).toList) = true := beq_self_eq_true _
  have p4 : ((strOfNums L1).toList != (strOfNums L1).toList) = false := bne_self_eq_false _
  have q5 : ((strOfNums L2).toList == (strOfNums L2).toList) = true := beq_self_eq_true _
  have p5 : ((strOfNums L2).toList != (strOfNums L2).toList) = false := bne_self_eq_false _
  have q6 : ((strOfNums L3).toList == (strOfNums L3).toList) = true := beq_self_eq_true _
  have p6 : ((strOfNums L3).toList != (strOfNums L3).toList) = false := bne_self_eq_false _
  have q7 : ((strOfNums L4).toList == (strOfNums L4).toList) = true := beq_self_eq_true _
  have p7 : ((strOfNums L4).toList != (strOfNums L4).toList) = false := bne_self_eq_false _
  have q8 : ((strOfNums F).toList == (strOfNums F).toList) = true := beq_self_eq_true _
  have p8 : ((strOfNums F).toList != (strOfNums F).toList) = false := bne_self_eq_false _
  have q9 : (z == z) = true := beq_self_eq_true _
  have p9 : (z != z) = false := bne_self_eq_false _
  have q10 : (ok == ok) = true := beq_self_eq_true _
  have p10 : (ok != ok) = false := bne_self_eq_false _
  have q11 : (mb == mb) = true := beq_self_eq_true _
  have p11 : (mb != mb) = false := bne_self_eq_false _
  have HB := Aside0.mk (Below.refl w.heap.size w)
  clear h0 hr0 hc0 ha hl HTS_ HTP_ HTT_ HM1_ HM2_ HX1_ HX2_ HT1_ HT2_ HZ1_ HZ2_ HA1_ HA2_ HI1_ HI2_ HS1_ HS2_ HP1_ HP2_ HF1_ HF2_
  go_enter Try.func11, Try.ntmps11
  go_wp2_with (first | (go_at_call 49; (with_reducible refine (pandectlaw6_begun.calls k true _ H0.out).mono ?_); rintro e w1 ⟨rfl, hb_⟩; replace HB := Aside0.mk hb_; clear hb_) | (go_at_call 50; (with_reducible refine (key_TakeStream.calls k A0 c0 l0 s z ok _ (Kd.C_below HR0.out HB.out) HC0.out HTS.out).mono ?_); rintro e w2 ⟨rfl, hb_⟩; replace HB := Aside0.mk (below_then HB.out HB.out.size hb_); clear hb_) | (go_at_call 51; (with_reducible refine (pandectref6_TakePair.calls k A0 c0 l0 s z ok _ (Kd.C_below HR0.out HB.out) HC0.out HTP.out).mono ?_); rintro e w2 ⟨rfl, hb_⟩; replace HB := Aside0.mk (below_then HB.out HB.out.size hb_); clear hb_) | (go_at_call 52; (with_reducible refine (key_TakeType.calls k A0 c0 l0 s z ok _ (Kd.C_below HR0.out HB.out) HC0.out HTT.out).mono ?_); rintro e w2 ⟨rfl, hb_⟩; replace HB := Aside0.mk (below_then HB.out HB.out.size hb_); clear hb_))
  refine RG.region 153 (fun W => Below w.heap.size w W) [Sp.exact ?_, Sp.exact ?_, Sp.exact ?_, Sp.exact ?_, Sp.exact ?_, Sp.exact ?_, Sp.exact ?_, Sp.exact ?_, Sp.ex (Row X), Sp.exact ?_, Sp.exact ?_, Sp.exact ?_, Sp.ex (Row X), Sp.exact ?_, Sp.exact ?_, Sp.exact ?_, Sp.exact ?_, Sp.exact ?_, Sp.exact ?_, Sp.ex (Row T), Sp.exact ?_, Sp.exact ?_, Sp.exact ?_, Sp.ex (Row T), Sp.exact ?_, Sp.exact ?_, Sp.exact ?_, Sp.exact ?_, Sp.exact ?_, Sp.ex (Row Z), Sp.exact ?_, Sp.exact ?_, Sp.ex (Row Z), Sp.exact ?_, Sp.exact ?_, Sp.exact ?_] (by kernel_rfl) (by kernel_rfl) rfl (fun _ _ hb h => below_then h h.size hb) (by exact ⟨fun _ _ _ hb h => Row.below h hb, fun _ _ _ hb h => Row.below h hb, fun _ _ _ hb h => Row.below h hb, fun _ _ _ hb h => Row.below h hb, fun _ _ _ hb h => Row.below h hb, fun _ _ _ hb h => Row.below h hb, trivial⟩) (by repeat (first | exact HB.out | apply below_alloc | apply pw_below_drewN | apply below_drew1)) ?_
  rotate_right
  refine rgW.just (b' := ?_) (Or.inl ⟨by rfl, ?_⟩) ?_ ?_; rotate_left; (focus (intro w'; go_simp; with_reducible rfl)); (focus (simp only [Act.put, List.setIfInBounds_toArray, List.set_cons_zero, List.set_cons_succ]; try rfl))
  refine rgW.callx (b' := ?_) (d := .bool mb) #[.string a] Try.func53 (by kernel_rfl) rfl (by rfl) rfl (by (try simp only [List.map_toArray, List.map_cons, List.map_nil]); first | done | rfl) (fun W hS hK => ?_) ?_ ?_ ?_
  rotate_left
  · with_reducible refine (key_MayName.calls a mb _ HM1.out).mono ?_
    rintro e W' ⟨rfl, hd⟩
    exact ⟨rfl, hd⟩
  · rfl
  · simp only [Act.put, List.setIfInBounds_toArray, List.set_cons_zero, List.set_cons_succ]
    try rfl
  refine rgW.just (b' := ?_) (Or.inl ⟨by rfl, ?_⟩) ?_ ?_; rotate_left; (focus (intro w'; go_simp; with_reducible rfl)); (focus (simp only [Act.put, List.setIfInBounds_toArray, List.set_cons_zero, List.set_cons_succ]; try rfl))
  refine rgW.callx (b' := ?_) (d := .bool mb) #[.string a] Try.func54 (by kernel_rfl) rfl (by rfl) rfl (by (try simp only [List.map_toArray, List.map_cons, List.map_nil]); first | done | rfl) (fun W hS hK => ?_) ?_ ?_ ?_
  rotate_left
  · with_reducible refine (pandectref6_MayName.calls k a mb _ HM2.out).mono ?_
    rintro e W' ⟨rfl, hd⟩
    exact ⟨rfl, hd.below⟩
  · rfl
  · simp only [Act.put, List.setIfInBounds_toArray, List.set_cons_zero, List.set_cons_succ]
    try rfl
  refine rgW.just (b' := ?_) (Or.inl ⟨by rfl, ?_⟩) ?_ ?_; rotate_left; (focus (intro w'; go_simp; with_reducible rfl)); (focus (simp only [Act.put, List.setIfInBounds_toArray, List.set_cons_zero, List.set_cons_succ]; try rfl))
  refine rgW.just (b' := ?_) (Or.inl ⟨by rfl, ?_⟩) ?_ ?_; rotate_left; (focus (intro w'; go_simp; with_reducible rfl)); (focus (simp only [Act.put, List.setIfInBounds_toArray, List.set_cons_zero, List.set_cons_succ]; try rfl))
  refine rgW.just (b' := ?_) (Or.inl ⟨by rfl, ?_⟩) ?_ ?_; rotate_left; (focus (intro w'; go_simp; with_reducible rfl)); (focus (simp only [Act.put, List.setIfInBounds_toArray, List.set_cons_zero, List.set_cons_succ]; try rfl))
  refine rgW.just (b' := ?_) (Or.inl ⟨by rfl, ?_⟩) ?_ ?_; rotate_left; (focus (intro w'; go_simp; with_reducible rfl)); (focus (simp only [Act.put, List.setIfInBounds_toArray, List.set_cons_zero, List.set_cons_succ]; try rfl))
  refine rgW.call (b' := ?_) #[.string a, .int .i64 n] Try.func55 (by kernel_rfl) rfl (by rfl) rfl (by (try simp only [List.map_toArray, List.map_cons, List.map_nil]); first | done | rfl) (fun W hS hK => ?_) ?_ ?_
  rotate_left
  · with_reducible refine (key_Stream.calls k a n X _ HX1.out).mono ?_
    rintro e W' ⟨v, rfl, ho, hb⟩
    exact ⟨v, rfl, .of_V ho, hb⟩
  · intro v
    simp only [Act.put, List.setIfInBounds_toArray, List.set_cons_zero, List.set_cons_succ]
    exact rfl
  intro v_
  refine rgW.conv (b' := ?_) (xs := X) (by rfl) rfl (by rfl) Try.underlying22 Try.underlying5 Try.underlying9 ?_ ?_ ?_ ?_; rotate_left; (focus rfl); (focus (intro W hS hK; exact hK.1 (by kernel_rfl))); (focus (simp only [Act.put, List.setIfInBounds_toArray, List.set_cons_zero, List.set_cons_succ]; try rfl))
  refine rgW.just (b' := ?_) (Or.inl ⟨by rfl, ?_⟩) ?_ ?_; rotate_left; (focus (intro w'; go_simp; with_reducible rfl)); (focus (simp only [Act.put, List.setIfInBounds_toArray, List.set_cons_zero, List.set_cons_succ]; try rfl))
  refine rgW.just (b' := ?_) (Or.inl ⟨by rfl, ?_⟩) ?_ ?_; rotate_left; (focus (intro w'; go_simp; with_reducible rfl)); (focus (simp only [Act.put, List.setIfInBounds_toArray, List.set_cons_zero, List.set_cons_succ]; try rfl))
  refine rgW.call (b' := ?_) #[.string a, .int .i64 n] Try.func56 (by kernel_rfl) rfl (by rfl) rfl (by (try simp only [List.map_toArray, List.map_cons, List.map_nil]); first | done | rfl) (fun W hS hK => ?_) ?_ ?_
  rotate_left
  · with_reducible refine (pandectref6_Stream.calls k a n X _ HX2.out).mono ?_
    rintro e W' ⟨v, rfl, ho, hb⟩
    exact ⟨v, rfl, .of_V ho, hb⟩
  · intro v
    simp only [Act.put, List.setIfInBounds_toArray, List.set_cons_zero, List.set_cons_succ]
    exact rfl
  intro v_
  refine rgW.conv (b' := ?_) (xs := X) (by rfl) rfl (by rfl) Try.underlying22 Try.underlying5 Try.underlying9 ?_ ?_ ?_ ?_; rotate_left; (focus rfl); (focus (intro W hS hK; exact hK.1 (by kernel_rfl))); (focus (simp only [Act.put, List.setIfInBounds_toArray, List.set_cons_zero, List.set_cons_succ]; try rfl))
  refine rgW.just (b' := ?_) (Or.inl ⟨by rfl, ?_⟩) ?_ ?_; rotate_left; (focus (intro w'; go_simp; with_reducible rfl)); (focus (simp only [Act.put, List.setIfInBounds_toArray, List.set_cons_zero, List.set_cons_succ]; try rfl))
  refine rgW.just (b' := ?_) (Or.inl ⟨by rfl, ?_⟩) ?_ ?_; rotate_left; (focus (intro w'; go_simp; with_reducible rfl)); (focus (simp only [Act.put, List.setIfInBounds_toArray, List.set_cons_zero, List.set_cons_succ]; try rfl))
  refine rgW.just (b' := ?_) (Or.inl ⟨by rfl, ?_⟩) ?_ ?_; rotate_left; (focus (intro w'; go_simp; with_reducible rfl)); (focus (simp only [Act.put, List.setIfInBounds_toArray, List.set_cons_zero, List.set_cons_succ]; try rfl))
  refine rgW.just (b' := ?_) (Or.inl ⟨by rfl, ?_⟩) ?_ ?_; rotate_left; (focus (intro w'; go_simp; with_reducible rfl)); (focus (simp only [Act.put, List.setIfInBounds_toArray, List.set_cons_zero, List.set_cons_succ]; try rfl))
  refine rgW.just (b' := ?_) (Or.inl ⟨by rfl, ?_⟩) ?_ ?_; rotate_left; (focus (intro w'; go_simp; with_reducible rfl)); (focus (simp only [Act.put, List.setIfInBounds_toArray, List.set_cons_zero, List.set_cons_succ]; try rfl))
  refine rgW.call (b' := ?_) #[.string a, .int .i64 n] Try.func57 (by kernel_rfl) rfl (by rfl) rfl (by (try simp only [List.map_toArray, List.map_cons, List.map_nil]); first | done | rfl) (fun W hS hK => ?_) ?_ ?_
  rotate_left
  · with_reducible refine (key_Type.calls k a n T _ HT1.out).mono ?_
    rintro e W' ⟨v, rfl, ho, hb⟩
    exact ⟨v, rfl, .of_V ho, hb⟩
  · intro v
    simp only [Act.put, List.setIfInBounds_toArray, List.set_cons_zero, List.set_cons_succ]
    exact rfl
  intro v_
  refine rgW.conv (b' := ?_) (xs := T) (by rfl) rfl (by rfl) Try.underlying22 Try.underlying5 Try.underlying9 ?_ ?_ ?_ ?_; rotate_left; (focus rfl); (focus (intro W hS hK; exact hK.1 (by kernel_rfl))); (focus (simp only [Act.put, List.setIfInBounds_toArray, List.set_cons_zero, List.set_cons_succ]; try rfl))
  refine rgW.just (b' := ?_) (Or.inl ⟨by rfl, ?_⟩) ?_ ?_; rotate_left; (focus (intro w'; go_simp; with_reducible rfl)); (focus (simp only [Act.put, List.setIfInBounds_toArray, List.set_cons_zero, List.set_cons_succ]; try rfl))
  refine rgW.just (b' := ?_) (Or.inl ⟨by rfl, ?_⟩) ?_ ?_; rotate_left; (focus (intro w'; go_simp; with_reducible rfl)); (focus (simp only [Act.put, List.setIfInBounds_toArray, List.set_cons_zero, List.set_cons_succ]; try rfl))
  refine rgW.call (b' := ?_) #[.string a, .int .i64 n] Try.func58 (by kernel_rfl) rfl (by rfl) rfl (by (try simp only [List.map_toArray, List.map_cons, List.map_nil]); first | done | rfl) (fun W hS hK => ?_) ?_ ?_
  rotate_left
  · with_reducible refine (pandectref6_Type.calls k a n T _ HT2.out).mono ?_
    rintro e W' ⟨v, rfl, ho, hb⟩
    exact ⟨v, rfl, .of_V ho, hb⟩
  · intro v
    simp only [Act.put, List.setIfInBounds_toArray, List.set_cons_zero, List.set_cons_succ]
    exact rfl
  intro v_
  refine rgW.conv (b' := ?_) (xs := T) (by rfl) rfl (by rfl) Try.underlying22 Try.underlying5 Try.underlying9 ?_ ?_ ?_ ?_; rotate_left; (focus rfl); (focus (intro W hS hK; exact hK.1 (by kernel_rfl))); (focus (simp only [Act.put, List.setIfInBounds_toArray, List.set_cons_zero, List.set_cons_succ]; try rfl))
  refine rgW.just (b' := ?_) (Or.inl ⟨by rfl, ?_⟩) ?_ ?_; rotate_left; (focus (intro w'; go_simp; with_reducible rfl)); (focus (simp only [Act.put, List.setIfInBounds_toArray, List.set_cons_zero, List.set_cons_succ]; try rfl))
  refine rgW.just (b' := ?_) (Or.inl ⟨by rfl, ?_⟩) ?_ ?_; rotate_left; (focus (intro w'; go_simp; with_reducible rfl)); (focus (simp only [Act.put, List.setIfInBounds_toArray, List.set_cons_zero, List.set_cons_succ]; try rfl))
  refine rgW.just (b' := ?_) (Or.inl ⟨by rfl, ?_⟩) ?_ ?_; rotate_left; (focus (intro w'; go_simp; with_reducible rfl)); (focus (simp only [Act.put, List.setIfInBounds_toArray, List.set_cons_zero, List.set_cons_succ]; try rfl))
  refine rgW.just (b' := ?_) (Or.inl ⟨by rfl, ?_⟩) ?_ ?_; rotate_left; (focus (intro w'; go_simp; with_reducible rfl)); (focus (simp only [Act.put, List.setIfInBounds_toArray, List.set_cons_zero, List.set_cons_succ]; try rfl))
  refine rgW.call (b' := ?_) #[.int .i64 n] Try.func59 (by kernel_rfl) rfl (by rfl) rfl (by (try simp only [List.map_toArray, List.map_cons, List.map_nil]); first | done | rfl) (fun W hS hK => ?_) ?_ ?_
  rotate_left
  · with_reducible refine (key_Seq.calls k n Z _ HZ1.out).mono ?_
    rintro e W' ⟨v, rfl, ho, hb⟩
    exact ⟨v, rfl, .of_R ho, hb⟩
  · intro v
    simp only [Act.put, List.setIfInBounds_toArray, List.set_cons_zero, List.set_cons_succ]
    exact rfl
  intro v_
  refine rgW.conv (b' := ?_) (xs := Z) (by rfl) rfl (by rfl) Try.underlying22 Try.underlying5 Try.underlying9 ?_ ?_ ?_ ?_; rotate_left; (focus rfl); (focus (intro W hS hK; exact hK.1 (by kernel_rfl))); (focus (simp only [Act.put, List.setIfInBounds_toArray, List.set_cons_zero, List.set_cons_succ]; try rfl))
  refine rgW.just (b' := ?_) (Or.inl ⟨by rfl, ?_⟩) ?_ ?_; rotate_left; (focus (intro w'; go_simp; with_reducible rfl)); (focus (simp only [Act.put, List.setIfInBounds_toArray, List.set_cons_zero, List.set_cons_succ]; try rfl))
  refine rgW.call (b' := ?_) #[.int .i64 n] Try.func60 (by kernel_rfl) rfl (by rfl) rfl (by (try simp only [List.map_toArray, List.map_cons, List.map_nil]); first | done | rfl) (fun W hS hK => ?_) ?_ ?_
  rotate_left
  · with_reducible refine (pandectref6_Seq.calls k n Z _ HZ2.out).mono ?_
    rintro e W' ⟨v, rfl, ho, hb⟩
    exact ⟨v, rfl, .of_R ho, hb⟩
  · intro v
    simp only [Act.put, List.setIfInBounds_toArray, List.set_cons_zero, List.set_cons_succ]
    exact rfl
  intro v_
  refine rgW.conv (b' := ?_) (xs := Z) (by rfl) rfl (by rfl) Try.underlying22 Try.underlying5 Try.underlying9 ?_ ?_ ?_ ?_; rotate_left; (focus rfl); (focus (intro W hS hK; exact hK.1 (by kernel_rfl))); (focus (simp only [Act.put, List.setIfInBounds_toArray, List.set_cons_zero, List.set_cons_succ]; try rfl))
  refine rgW.just (b' := ?_) (Or.inl ⟨by rfl, ?_⟩) ?_ ?_; rotate_left; (focus (intro w'; go_simp; with_reducible rfl)); (focus (simp only [Act.put, List.setIfInBounds_toArray, List.set_cons_zero, List.set_cons_succ]; try rfl))
  refine rgW.just (b' := ?_) (Or.inl ⟨by rfl, ?_⟩) ?_ ?_; rotate_left; (focus (intro w'; go_simp; with_reducible rfl)); (focus (simp only [Act.put, List.setIfInBounds_toArray, List.set_cons_zero, List.set_cons_succ]; try rfl))
  intro W hS hA
  clear hA
  clear HB
  have HB := Aside0.mk hS
  clear hS
  go_wp2_with (fail)
  refine RG.region 153 (fun W => Below w.heap.size w W) [Sp.exact ?_, Sp.ex (Row L1), Sp.exact ?_, Sp.exact ?_, Sp.ex (Row L1), Sp.exact ?_, Sp.exact ?_, Sp.exact ?_, Sp.exact ?_, Sp.ex (Row L2), Sp.exact ?_, Sp.exact ?_, Sp.ex (Row L2), Sp.exact ?_, Sp.exact ?_, Sp.exact ?_, Sp.exact ?_, Sp.exact ?_, Sp.ex (Row L3), Sp.exact ?_, Sp.exact ?_, Sp.ex (Row L3), Sp.exact ?_, Sp.exact ?_, Sp.exact ?_, Sp.exact ?_, Sp.exact ?_, Sp.ex (Row L4), Sp.exact ?_, Sp.exact ?_, Sp.ex (Row L4), Sp.exact ?_, Sp.exact ?_, Sp.exact ?_, Sp.exact ?_, Sp.exact ?_, Sp.exact ?_, Sp.exact ?_, Sp.exact ?_, Sp.exact ?_, Sp.exact ?_, Sp.exact ?_, Sp.exact ?_, Sp.exact ?_, Sp.exact ?_, Sp.exact ?_, Sp.exact ?_, Sp.exact ?_, Sp.exact ?_, Sp.exact ?_, Sp.exact ?_, Sp.exact ?_, Sp.exact ?_, Sp.exact ?_, Sp.exact ?_, Sp.exact ?_, Sp.exact ?_, Sp.exact ?_, Sp.exact ?_, Sp.exact ?_, Sp.exact ?_, Sp.exact ?_, Sp.exact ?_, Sp.exact ?_, Sp.exact ?_, Sp.exact ?_, Sp.ex (Row F), Sp.exact ?_, Sp.exact ?_, Sp.ex (Row F), Sp.exact ?_, Sp.exact ?_, Sp.exact ?_, Sp.exact ?_] (by kernel_rfl) (by kernel_rfl) rfl (fun _ _ hb h => below_then h h.size hb) (by exact ⟨fun _ _ _ hb h => Row.below h hb, fun _ _ _ hb h => Row.below h hb, fun _ _ _ hb h => Row.below h hb, fun _ _ _ hb h => Row.below h hb, fun _ _ _ hb h => Row.below h hb, fun _ _ _ hb h => Row.below h hb, fun _ _ _ hb h => Row.below h hb, fun _ _ _ hb h => Row.below h hb, fun _ _ _ hb h => Row.below h hb, fun _ _ _ hb h => Row.below h hb, trivial⟩) (by repeat (first | exact HB.out | apply below_alloc | apply pw_below_drewN | apply below_drew1)) ?_
  rotate_right
  refine rgW.just (b' := ?_) (Or.inl ⟨by rfl, ?_⟩) ?_ ?_; rotate_left; (focus (intro w'; go_simp; with_reducible rfl)); (focus (simp only [Act.put, List.setIfInBounds_toArray, List.set_cons_zero, List.set_cons_succ]; try rfl))
  refine rgW.call (b' := ?_) #[.string a] Try.func61 (by kernel_rfl) rfl (by rfl) rfl (by (try simp only [List.map_toArray, List.map_cons, List.map_nil]); first | done | rfl) (fun W hS hK => ?_) ?_ ?_
  rotate_left
  · with_reducible refine (key_Head.calls a L1 _ HA1.out).mono ?_
    rintro e W' ⟨v, rfl, ho, hb⟩
    exact ⟨v, rfl, .of_R ho, hb⟩
  · intro v
    simp only [Act.put, List.setIfInBounds_toArray, List.set_cons_zero, List.set_cons_succ]
    exact rfl
  intro v_
  refine rgW.conv (b' := ?_) (xs := L1) (by rfl) rfl (by rfl) Try.underlying22 Try.underlying5 Try.underlying9 ?_ ?_ ?_ ?_; rotate_left; (focus rfl); (focus (intro W hS hK; exact hK.1 (by kernel_rfl))); (focus (simp only [Act.put, List.setIfInBounds_toArray, List.set_cons_zero, List.set_cons_succ]; try rfl))
  refine rgW.just (b' := ?_) (Or.inl ⟨by rfl, ?_⟩) ?_ ?_; rotate_left; (focus (intro w'; go_simp; with_reducible rfl)); (focus (simp only [Act.put, List.setIfInBounds_toArray, List.set_cons_zero, List.set_cons_succ]; try rfl))
  refine rgW.call (b' := ?_) #[.int .u8 104, .string a] Try.func62 (by kernel_rfl) rfl (by rfl) rfl (by (try simp only [List.map_toArray, List.map_cons, List.map_nil]); first | done | rfl) (fun W hS hK => ?_) ?_ ?_
  rotate_left
  · with_reducible refine (pandectref6_Lettered.calls k 104 a L1 _ HA2.out).mono ?_
    rintro e W' ⟨v, rfl, ho, hb⟩
    exact ⟨v, rfl, .of_R ho, hb⟩
  · intro v
    simp only [Act.put, List.setIfInBounds_toArray, List.set_cons_zero, List.set_cons_succ]
    exact rfl
  intro v_
  refine rgW.conv (b' := ?_) (xs := L1) (by rfl) rfl (by rfl) Try.underlying22 Try.underlying5 Try.underlying9 ?_ ?_ ?_ ?_; rotate_left; (focus rfl); (focus (intro W hS hK; exact hK.1 (by kernel_rfl))); (focus (simp only [Act.put, List.setIfInBounds_toArray, List.set_cons_zero, List.set_cons_succ]; try rfl))
  refine rgW.just (b' := ?_) (Or.inl ⟨by rfl, ?_⟩) ?_ ?_; rotate_left; (focus (intro w'; go_simp; with_reducible rfl)); (focus (simp only [Act.put, List.setIfInBounds_toArray, List.set_cons_zero, List.set_cons_succ]; try rfl))
  refine rgW.just (b' := ?_) (Or.inl ⟨by rfl, ?_⟩) ?_ ?_; rotate_left; (focus (intro w'; go_simp; with_reducible rfl)); (focus (simp only [Act.put, List.setIfInBounds_toArray, List.set_cons_zero, List.set_cons_succ]; try rfl))
  refine rgW.just (b' := ?_) (Or.inl ⟨by rfl, ?_⟩) ?_ ?_; rotate_left; (focus (intro w'; go_simp; with_reducible rfl)); (focus (simp only [Act.put, List.setIfInBounds_toArray, List.set_cons_zero, List.set_cons_succ]; try rfl))
  refine rgW.call (b' := ?_) #[.string a] Try.func63 (by kernel_rfl) rfl (by rfl) rfl (by (try simp only [List.map_toArray, List.map_cons, List.map_nil]); first | done | rfl) (fun W hS hK => ?_) ?_ ?_
  rotate_left
  · with_reducible refine (key_ID.calls a L2 _ HI1.out).mono ?_
    rintro e W' ⟨v, rfl, ho, hb⟩
    exact ⟨v, rfl, .of_R ho, hb⟩
  · intro v
    simp only [Act.put, List.setIfInBounds_toArray, List.set_cons_zero, List.set_cons_succ]
    exact rfl
  intro v_
  refine rgW.conv (b' := ?_) (xs := L2) (by rfl) rfl (by rfl) Try.underlying22 Try.underlying5 Try.underlying9 ?_ ?_ ?_ ?_; rotate_left; (focus rfl); (focus (intro W hS hK; exact hK.1 (by kernel_rfl))); (focus (simp only [Act.put, List.setIfInBounds_toArray, List.set_cons_zero, List.set_cons_succ]; try rfl))
  refine rgW.just (b' := ?_) (Or.inl ⟨by rfl, ?_⟩) ?_ ?_; rotate_left; (focus (intro w'; go_simp; with_reducible rfl)); (focus (simp only [Act.put, List.setIfInBounds_toArray, List.set_cons_zero, List.set_cons_succ]; try rfl))
  refine rgW.call (b' := ?_) #[.int .u8 105, .string a] Try.func62 (by kernel_rfl) rfl (by rfl) rfl (by (try simp only [List.map_toArray, List.map_cons, List.map_nil]); first | done | rfl) (fun W hS hK => ?_) ?_ ?_
  rotate_left
  · with_reducible refine (pandectref6_Lettered.calls k 105 a L2 _ HI2.out).mono ?_
    rintro e W' ⟨v, rfl, ho, hb⟩
    exact ⟨v, rfl, .of_R ho, hb⟩
  · intro v
    simp only [Act.put, List.setIfInBounds_toArray, List.set_cons_zero, List.set_cons_succ]
    exact rfl
  intro v_
  refine rgW.conv (b' := ?_) (xs := L2) (by rfl) rfl (by rfl) Try.underlying22 Try.underlying5 Try.underlying9 ?_ ?_ ?_ ?_; rotate_left; (focus rfl); (focus (intro W hS hK; exact hK.1 (by kernel_rfl))); (focus (simp only [Act.put, List.setIfInBounds_toArray, List.set_cons_zero, List.set_cons_succ]; try rfl))
  refine rgW.just (b' := ?_) (Or.inl ⟨by rfl, ?_⟩) ?_ ?_; rotate_left; (focus (intro w'; go_simp; with_reducible rfl)); (focus (simp only [Act.put, List.setIfInBounds_toArray, List.set_cons_zero, List.set_cons_succ]; try rfl))
  refine rgW.just (b' := ?_) (Or.inl ⟨by rfl, ?_⟩) ?_ ?_; rotate_left; (focus (intro w'; go_simp; with_reducible rfl)); (focus (simp only [Act.put, List.setIfInBounds_toArray, List.set_cons_zero, List.set_cons_succ]; try rfl))
  refine rgW.just (b' := ?_) (Or.inl ⟨by rfl, ?_⟩) ?_ ?_; rotate_left; (focus (intro w'; go_simp; with_reducible rfl)); (focus (simp only [Act.put, List.setIfInBounds_toArray, List.set_cons_zero, List.set_cons_succ]; try rfl))
  refine rgW.just (b' := ?_) (Or.inl ⟨by rfl, ?_⟩) ?_ ?_; rotate_left; (focus (intro w'; go_simp; with_reducible rfl)); (focus (simp only [Act.put, List.setIfInBounds_toArray, List.set_cons_zero, List.set_cons_succ]; try rfl))
  refine rgW.call (b' := ?_) #[.string a] Try.func64 (by kernel_rfl) rfl (by rfl) rfl (by (try simp only [List.map_toArray, List.map_cons, List.map_nil]); first | done | rfl) (fun W hS hK => ?_) ?_ ?_
  rotate_left
  · with_reducible refine (key_Snap.calls a L3 _ HS1.out).mono ?_
    rintro e W' ⟨v, rfl, ho, hb⟩
    exact ⟨v, rfl, .of_R ho, hb⟩
  · intro v
    simp only [Act.put, List.setIfInBounds_toArray, List.set_cons_zero, List.set_cons_succ]
    exact rfl
  intro v_
  refine rgW.conv (b' := ?_) (xs := L3) (by rfl) rfl (by rfl) Try.underlying22 Try.underlying5 Try.underlying9 ?_ ?_ ?_ ?_; rotate_left; (focus rfl); (focus (intro W hS hK; exact hK.1 (by kernel_rfl))); (focus (simp only [Act.put, List.setIfInBounds_toArray, List.set_cons_zero, List.set_cons_succ]; try rfl))
  refine rgW.just (b' := ?_) (Or.inl ⟨by rfl, ?_⟩) ?_ ?_; rotate_left; (focus (intro w'; go_simp; with_reducible rfl)); (focus (simp only [Act.put, List.setIfInBounds_toArray, List.set_cons_zero, List.set_cons_succ]; try rfl))
  refine rgW.call (b' := ?_) #[.int .u8 115, .string a] Try.func62 (by kernel_rfl) rfl (by rfl) rfl (by (try simp only [List.map_toArray, List.map_cons, List.map_nil]); first | done | rfl) (fun W hS hK => ?_) ?_ ?_
  rotate_left
  · with_reducible refine (pandectref6_Lettered.calls k 115 a L3 _ HS2.out).mono ?_
    rintro e W' ⟨v, rfl, ho, hb⟩
    exact ⟨v, rfl, .of_R ho, hb⟩
  · intro v
    simp only [Act.put, List.setIfInBounds_toArray, List.set_cons_zero, List.set_cons_succ]
    exact rfl
  intro v_
  refine rgW.conv (b' := ?_) (xs := L3) (by rfl) rfl (by rfl) Try.underlying22 Try.underlying5 Try.underlying9 ?_ ?_ ?_ ?_; rotate_left; (focus rfl); (focus (intro W hS hK; exact hK.1 (by kernel_rfl))); (focus (simp only [Act.put, List.setIfInBounds_toArray, List.set_cons_zero, List.set_cons_succ]; try rfl))
  refine rgW.just (b' := ?_) (Or.inl ⟨by rfl, ?_⟩) ?_ ?_; rotate_left; (focus (intro w'; go_simp; with_reducible rfl)); (focus (simp only [Act.put, List.setIfInBounds_toArray, List.set_cons_zero, List.set_cons_succ]; try rfl))
  refine rgW.just (b' := ?_) (Or.inl ⟨by rfl, ?_⟩) ?_ ?_; rotate_left; (focus (intro w'; go_simp; with_reducible rfl)); (focus (simp only [Act.put, List.setIfInBounds_toArray, List.set_cons_zero, List.set_cons_succ]; try rfl))
  refine rgW.just (b' := ?_) (Or.inl ⟨by rfl, ?_⟩) ?_ ?_; rotate_left; (focus (intro w'; go_simp; with_reducible rfl)); (focus (simp only [Act.put, List.setIfInBounds_toArray, List.set_cons_zero, List.set_cons_succ]; try rfl))
  refine rgW.just (b' := ?_) (Or.inl ⟨by rfl, ?_⟩) ?_ ?_; rotate_left; (focus (intro w'; go_simp; with_reducible rfl)); (focus (simp only [Act.put, List.setIfInBounds_toArray, List.set_cons_zero, List.set_cons_succ]; try rfl))
  refine rgW.call (b' := ?_) #[.string a] Try.func65 (by kernel_rfl) rfl (by rfl) rfl (by (try simp only [List.map_toArray, List.map_cons, List.map_nil]); first | done | rfl) (fun W hS hK => ?_) ?_ ?_
  rotate_left
  · with_reducible refine (key_Point.calls a L4 _ HP1.out).mono ?_
    rintro e W' ⟨v, rfl, ho, hb⟩
    exact ⟨v, rfl, .of_R ho, hb⟩
  · intro v
    simp only [Act.put, List.setIfInBounds_toArray, List.set_cons_zero, List.set_cons_succ]
    exact rfl
  intro v_
  refine rgW.conv (b' := ?_) (xs := L4) (by rfl) rfl (by rfl) Try.underlying22 Try.underlying5 Try.underlying9 ?_ ?_ ?_ ?_; rotate_left; (focus rfl); (focus (intro W hS hK; exact hK.1 (by kernel_rfl))); (focus (simp only [Act.put, List.setIfInBounds_toArray, List.set_cons_zero, List.set_cons_succ]; try rfl))
  refine rgW.just (b' := ?_) (Or.inl ⟨by rfl, ?_⟩) ?_ ?_; rotate_left; (focus (intro w'; go_simp; with_reducible rfl)); (focus (simp only [Act.put, List.setIfInBounds_toArray, List.set_cons_zero, List.set_cons_succ]; try rfl))
  refine rgW.call (b' := ?_) #[.int .u8 112, .string a] Try.func62 (by kernel_rfl) rfl (by rfl) rfl (by (try simp only [List.map_toArray, List.map_cons, List.map_nil]); first | done | rfl) (fun W hS hK => ?_) ?_ ?_
  rotate_left
  · with_reducible refine (pandectref6_Lettered.calls k 112 a L4 _ HP2.out).mono ?_
    rintro e W' ⟨v, rfl, ho, hb⟩
    exact ⟨v, rfl, .of_R ho, hb⟩
  · intro v
    simp only [Act.put, List.setIfInBounds_toArray, List.set_cons_zero, List.set_cons_succ]
    exact rfl
  intro v_
  refine rgW.conv (b' := ?_) (xs := L4) (by rfl) rfl (by rfl) Try.underlying22 Try.underlying5 Try.underlying9 ?_ ?_ ?_ ?_; rotate_left; (focus rfl); (focus (intro W hS hK; exact hK.1 (by kernel_rfl))); (focus (simp only [Act.put, List.setIfInBounds_toArray, List.set_cons_zero, List.set_cons_succ]; try rfl))
  refine rgW.just (b' := ?_) (Or.inl ⟨by rfl, ?_⟩) ?_ ?_; rotate_left; (focus (intro w'; go_simp; with_reducible rfl)); (focus (simp only [Act.put, List.setIfInBounds_toArray, List.set_cons_zero, List.set_cons_succ]; try rfl))
  refine rgW.just (b' := ?_) (Or.inl ⟨by rfl, ?_⟩) ?_ ?_; rotate_left; (focus (intro w'; go_simp; with_reducible rfl)); (focus (simp only [Act.put, List.setIfInBounds_toArray, List.set_cons_zero, List.set_cons_succ]; try rfl))
  refine rgW.just (b' := ?_) (Or.inl ⟨by rfl, ?_⟩) ?_ ?_; rotate_left; (focus (intro w'; go_simp; with_reducible rfl)); (focus (simp only [Act.put, List.setIfInBounds_toArray, List.set_cons_zero, List.set_cons_succ]; try rfl))
  refine rgW.just (b' := ?_) (Or.inl ⟨by rfl, ?_⟩) ?_ ?_; rotate_left; (focus (intro w'; go_simp; with_reducible rfl)); (focus (simp only [Act.put, List.setIfInBounds_toArray, List.set_cons_zero, List.set_cons_succ]; try rfl))
  refine rgW.just (b' := ?_) (Or.inl ⟨by rfl, ?_⟩) ?_ ?_; rotate_left; (focus (intro w'; go_simp; with_reducible rfl)); (focus (simp only [Act.put, List.setIfInBounds_toArray, List.set_cons_zero, List.set_cons_succ]; try rfl))
  refine rgW.just (b' := ?_) (Or.inl ⟨by rfl, ?_⟩) ?_ ?_; rotate_left; (focus (intro w'; go_simp; with_reducible rfl)); (focus (simp only [Act.put, List.setIfInBounds_toArray, List.set_cons_zero, List.set_cons_succ]; try rfl))
  refine rgW.just (b' := ?_) (Or.inl ⟨by rfl, ?_⟩) ?_ ?_; rotate_left; (focus (intro w'; go_simp; with_reducible rfl)); (focus (simp only [Act.put, List.setIfInBounds_toArray, List.set_cons_zero, List.set_cons_succ]; try rfl))
  refine rgW.just (b' := ?_) (Or.inl ⟨by rfl, ?_⟩) ?_ ?_; rotate_left; (focus (intro w'; go_simp; with_reducible rfl)); (focus (simp only [Act.put, List.setIfInBounds_toArray, List.set_cons_zero, List.set_cons_succ]; try rfl))
  refine rgW.just (b' := ?_) (Or.inl ⟨by rfl, ?_⟩) ?_ ?_; rotate_left; (focus (intro w'; go_simp; with_reducible rfl)); (focus (simp only [Act.put, List.setIfInBounds_toArray, List.set_cons_zero, List.set_cons_succ]; try rfl))
  refine rgW.just (b' := ?_) (Or.inl ⟨by rfl, ?_⟩) ?_ ?_; rotate_left; (focus (intro w'; go_simp; with_reducible rfl)); (focus (simp only [Act.put, List.setIfInBounds_toArray, List.set_cons_zero, List.set_cons_succ]; try rfl))
  refine rgW.just (b' := ?_) (Or.inl ⟨by rfl, ?_⟩) ?_ ?_; rotate_left; (focus (intro w'; go_simp; with_reducible rfl)); (focus (simp only [Act.put, List.setIfInBounds_toArray, List.set_cons_zero, List.set_cons_succ]; try rfl))
  refine rgW.just (b' := ?_) (Or.inl ⟨by rfl, ?_⟩) ?_ ?_; rotate_left; (focus (intro w'; go_simp; with_reducible rfl)); (focus (simp only [Act.put, List.setIfInBounds_toArray, List.set_cons_zero, List.set_cons_succ]; try rfl))
  refine rgW.just (b' := ?_) (Or.inl ⟨by rfl, ?_⟩) ?_ ?_; rotate_left; (focus (intro w'; go_simp; with_reducible rfl)); (focus (simp only [Act.put, List.setIfInBounds_toArray, List.set_cons_zero, List.set_cons_succ]; try rfl))
  refine rgW.just (b' := ?_) (Or.inl ⟨by rfl, ?_⟩) ?_ ?_; rotate_left; (focus (intro w'; go_simp; with_reducible rfl)); (focus (simp only [Act.put, List.setIfInBounds_toArray, List.set_cons_zero, List.set_cons_succ]; try rfl))
  refine rgW.just (b' := ?_) (Or.inl ⟨by rfl, ?_⟩) ?_ ?_; rotate_left; (focus (intro w'; go_simp; with_reducible rfl)); (focus (simp only [Act.put, List.setIfInBounds_toArray, List.set_cons_zero, List.set_cons_succ]; try rfl))
  refine rgW.just (b' := ?_) (Or.inl ⟨by rfl, ?_⟩) ?_ ?_; rotate_left; (focus (intro w'; go_simp; with_reducible rfl)); (focus (simp only [Act.put, List.setIfInBounds_toArray, List.set_cons_zero, List.set_cons_succ]; try rfl))
  refine rgW.just (b' := ?_) (Or.inl ⟨by rfl, ?_⟩) ?_ ?_; rotate_left; (focus (intro w'; go_simp; with_reducible rfl)); (focus (simp only [Act.put, List.setIfInBounds_toArray, List.set_cons_zero, List.set_cons_succ]; try rfl))
  refine rgW.just (b' := ?_) (Or.inl ⟨by rfl, ?_⟩) ?_ ?_; rotate_left; (focus (intro w'; go_simp; with_reducible rfl)); (focus (simp only [Act.put, List.setIfInBounds_toArray, List.set_cons_zero, List.set_cons_succ]; try rfl))
  refine rgW.just (b' := ?_) (Or.inl ⟨by rfl, ?_⟩) ?_ ?_; rotate_left; (focus (intro w'; go_simp; with_reducible rfl)); (focus (simp only [Act.put, List.setIfInBounds_toArray, List.set_cons_zero, List.set_cons_succ]; try rfl))
  refine rgW.just (b' := ?_) (Or.inl ⟨by rfl, ?_⟩) ?_ ?_; rotate_left; (focus (intro w'; go_simp; with_reducible rfl)); (focus (simp only [Act.put, List.setIfInBounds_toArray, List.set_cons_zero, List.set_cons_succ]; try rfl))
  refine rgW.just (b' := ?_) (Or.inl ⟨by rfl, ?_⟩) ?_ ?_; rotate_left; (focus (intro w'; go_simp; with_reducible rfl)); (focus (simp only [Act.put, List.setIfInBounds_toArray, List.set_cons_zero, List.set_cons_succ]; try rfl))
  refine rgW.just (b' := ?_) (Or.inl ⟨by rfl, ?_⟩) ?_ ?_; rotate_left; (focus (intro w'; go_simp; with_reducible rfl)); (focus (simp only [Act.put, List.setIfInBounds_toArray, List.set_cons_zero, List.set_cons_succ]; try rfl))
  refine rgW.just (b' := ?_) (Or.inl ⟨by rfl, ?_⟩) ?_ ?_; rotate_left; (focus (intro w'; go_simp; with_reducible rfl)); (focus (simp only [Act.put, List.setIfInBounds_toArray, List.set_cons_zero, List.set_cons_succ]; try rfl))
  refine rgW.just (b' := ?_) (Or.inl ⟨by rfl, ?_⟩) ?_ ?_; rotate_left; (focus (intro w'; go_simp; with_reducible rfl)); (focus (simp only [Act.put, List.setIfInBounds_toArray, List.set_cons_zero, List.set_cons_succ]; try rfl))
  refine rgW.just (b' := ?_) (Or.inl ⟨by rfl, ?_⟩) ?_ ?_; rotate_left; (focus (intro w'; go_simp; with_reducible rfl)); (focus (simp only [Act.put, List.setIfInBounds_toArray, List.set_cons_zero, List.set_cons_succ]; try rfl))
  refine rgW.just (b' := ?_) (Or.inl ⟨by rfl, ?_⟩) ?_ ?_; rotate_left; (focus (intro w'; go_simp; with_reducible rfl)); (focus (simp only [Act.put, List.setIfInBounds_toArray, List.set_cons_zero, List.set_cons_succ]; try rfl))
  refine rgW.just (b' := ?_) (Or.inl ⟨by rfl, ?_⟩) ?_ ?_; rotate_left; (focus (intro w'; go_simp; with_reducible rfl)); (focus (simp only [Act.put, List.setIfInBounds_toArray, List.set_cons_zero, List.set_cons_succ]; try rfl))
  refine rgW.just (b' := ?_) (Or.inl ⟨by rfl, ?_⟩) ?_ ?_; rotate_left; (focus (intro w'; go_simp; with_reducible rfl)); (focus (simp only [Act.put, List.setIfInBounds_toArray, List.set_cons_zero, List.set_cons_succ]; try rfl))
  refine rgW.just (b' := ?_) (Or.inl ⟨by rfl, ?_⟩) ?_ ?_; rotate_left; (focus (intro w'; go_simp; with_reducible rfl)); (focus (simp only [Act.put, List.setIfInBounds_toArray, List.set_cons_zero, List.set_cons_succ]; try rfl))
  refine rgW.just (b' := ?_) (Or.inl ⟨by rfl, ?_⟩) ?_ ?_; rotate_left; (focus (intro w'; go_simp; with_reducible rfl)); (focus (simp only [Act.put, List.setIfInBounds_toArray, List.set_cons_zero, List.set_cons_succ]; try rfl))
  refine rgW.just (b' := ?_) (Or.inl ⟨by rfl, ?_⟩) ?_ ?_; rotate_left; (focus (intro w'; go_simp; with_reducible rfl)); (focus (simp only [Act.put, List.setIfInBounds_toArray, List.set_cons_zero, List.set_cons_succ]; try rfl))
  refine rgW.just (b' := ?_) (Or.inl ⟨by rfl, ?_⟩) ?_ ?_; rotate_left; (focus (intro w'; go_simp; with_reducible rfl)); (focus (simp only [Act.put, List.setIfInBounds_toArray, List.set_cons_zero, List.set_cons_succ]; try rfl))
  refine rgW.just (b' := ?_) (Or.inl ⟨by rfl, ?_⟩) ?_ ?_; rotate_left; (focus (intro w'; go_simp; with_reducible rfl)); (focus (simp only [Act.put, List.setIfInBounds_toArray, List.set_cons_zero, List.set_cons_succ]; try rfl))
  refine rgW.just (b' := ?_) (Or.inl ⟨by rfl, ?_⟩) ?_ ?_; rotate_left; (focus (intro w'; go_simp; with_reducible rfl)); (focus (simp only [Act.put, List.setIfInBounds_toArray, List.set_cons_zero, List.set_cons_succ]; try rfl))
  refine rgW.call (b' := ?_) #[.slice A0 l0.length c0] Try.func66 (by kernel_rfl) rfl (by rfl) rfl (by (try simp only [List.map_toArray, List.map_cons, List.map_nil]); first | done | rfl) (fun W hS hK => ?_) ?_ ?_
  rotate_left
  · with_reducible refine (key_After.calls k A0 c0 l0 F _ (Kd.C_below HR0.out hS) HC0.out HF1.out).mono ?_
    rintro e W' ⟨v, rfl, ho, hb⟩
    exact ⟨v, rfl, .of_R ho, hb⟩
  · intro v
    simp only [Act.put, List.setIfInBounds_toArray, List.set_cons_zero, List.set_cons_succ]
    exact rfl
  intro v_
  refine rgW.conv (b' := ?_) (xs := F) (by rfl) rfl (by rfl) Try.underlying22 Try.underlying5 Try.underlying9 ?_ ?_ ?_ ?_; rotate_left; (focus rfl); (focus (intro W hS hK; exact hK.1 (by kernel_rfl))); (focus (simp only [Act.put, List.setIfInBounds_toArray, List.set_cons_zero, List.set_cons_succ]; try rfl))
  refine rgW.just (b' := ?_) (Or.inl ⟨by rfl, ?_⟩) ?_ ?_; rotate_left; (focus (intro w'; go_simp; with_reducible rfl)); (focus (simp only [Act.put, List.setIfInBounds_toArray, List.set_cons_zero, List.set_cons_succ]; try rfl))
  refine rgW.call (b' := ?_) #[.slice A0 l0.length c0] Try.func67 (by kernel_rfl) rfl (by rfl) rfl (by (try simp only [List.map_toArray, List.map_cons, List.map_nil]); first | done | rfl) (fun W hS hK => ?_) ?_ ?_
  rotate_left
  · with_reducible refine (pandectref6_After.calls k A0 c0 l0 F _ (Kd.C_below HR0.out hS) HC0.out HF2.out).mono ?_
    rintro e W' ⟨v, rfl, ho, hb⟩
    exact ⟨v, rfl, .of_R ho, hb⟩
  · intro v
    simp only [Act.put, List.setIfInBounds_toArray, List.set_cons_zero, List.set_cons_succ]
    exact rfl
  intro v_
  refine rgW.conv (b' := ?_) (xs := F) (by rfl) rfl (by rfl) Try.underlying22 Try.underlying5 Try.underlying9 ?_ ?_ ?_ ?_; rotate_left; (focus rfl); (focus (intro W hS hK; exact hK.1 (by kernel_rfl))); (focus (simp only [Act.put, List.setIfInBounds_toArray, List.set_cons_zero, List.set_cons_succ]; try rfl))
  refine rgW.just (b' := ?_) (Or.inl ⟨by rfl, ?_⟩) ?_ ?_; rotate_left; (focus (intro w'; go_simp; with_reducible rfl)); (focus (simp only [Act.put, List.setIfInBounds_toArray, List.set_cons_zero, List.set_cons_succ]; try rfl))
  refine rgW.just (b' := ?_) (Or.inl ⟨by rfl, ?_⟩) ?_ ?_; rotate_left; (focus (intro w'; go_simp; with_reducible rfl)); (focus (simp only [Act.put, List.setIfInBounds_toArray, List.set_cons_zero, List.set_cons_succ]; try rfl))
  refine rgW.just (b' := ?_) (Or.inl ⟨by rfl, ?_⟩) ?_ ?_; rotate_left; (focus (intro w'; go_simp; with_reducible rfl)); (focus (simp only [Act.put, List.setIfInBounds_toArray, List.set_cons_zero, List.set_cons_succ]; try rfl))
  intro W hS hA
  clear hA
  clear HB
  have HB := Aside0.mk hS
  clear hS
  go_wp2_with (fail)
  go_ret
  exact ⟨rfl, HB.out⟩
end Go.Proofs.Ytfgeffmlfbeodaa.PKeyAll
