/- KeyForms' walk: where the callees answer as is told, the law returns true. Conditions: those of each theorem. -/
import Derived.Test.YtfgeffmlfbeodaaPKeyFormsx2
import Derived.Test.YtfgeffmlfbeodaaRGK
import Derived.Test.YtfgeffmlfbeodaaOwn
import Derived.WalkLawsBesides
namespace Go.Proofs.Ytfgeffmlfbeodaa.PKeyForms
open Go.RowKit Go.Proofs.YtfgeffmlfbeodaaW.PrintWords Go.Proofs.YtfgeffmlfbeodaaW.PrintLast Go.Proofs.YtfgeffmlfbeodaaW.PrintMore
open Go.Proofs.Ytfgeffmlfbeodaa.RG
set_option linter.unusedVariables false
set_option linter.unusedSimpArgs false
theorem no_pair (k : Nat) (X : ByteArray) (n : Int) (h : Go.Proofs.Ytfgeffmlfbeodaa.Names.nameB X = false) : key_pair.f k X n = some [] := by
  unfold key_pair.f
  rw [if_neg (by rw [h]; decide)]
theorem no_stream (k : Nat) (X : ByteArray) (h : Go.Proofs.Ytfgeffmlfbeodaa.Names.nameB X = false) : key_Stream.f k X 1 = some [] := by
  unfold key_Stream.f; rw [no_pair k X 1 h]; rfl
theorem no_type (k : Nat) (X : ByteArray) (h : Go.Proofs.Ytfgeffmlfbeodaa.Names.nameB X = false) : key_Type.f k X 1 = some [] := by
  unfold key_Type.f; rw [no_pair k X 1 h]; rfl
theorem no_letter (c : Int) (X : ByteArray) (h : Go.Proofs.Ytfgeffmlfbeodaa.Names.nameB X = false) : key_letter.f c X = some [] := by
  unfold key_letter.f key_MayName.f
  rw [Option.bind_some, if_neg (by rw [h]; decide)]
theorem takeS (k : Nat) (X : ByteArray) (r1 : ByteArray) (r2 : Int) (r3 : Bool) (A : Option Addr) (c : Nat) (w : World) (hC : Kd.C (Kd.int .u8) w A X.size (bytesOf X)) (hc : X.size ≤ c) (h : key_TakeStream.f k (bytesOf X) = some (r1, r2, r3)) :
    Calls Try.prog 50 #[.slice A X.size c] w fun e w' => e = .returned (.tuple #[.string r1, .int .i64 r2, .bool r3]) ∧ Below w.heap.size w w' := by
  have hl := bytesOf_length X
  have := key_TakeStream.calls k A c (bytesOf X) r1 r2 r3 w (by rw [hl]; exact hC) (by omega) h
  rwa [hl] at this
theorem takeT (k : Nat) (X : ByteArray) (r1 : ByteArray) (r2 : Int) (r3 : Bool) (A : Option Addr) (c : Nat) (w : World) (hC : Kd.C (Kd.int .u8) w A X.size (bytesOf X)) (hc : X.size ≤ c) (h : key_TakeStream.f k (bytesOf X) = some (r1, r2, r3)) :
    Calls Try.prog 52 #[.slice A X.size c] w fun e w' => e = .returned (.tuple #[.string r1, .int .i64 r2, .bool r3]) ∧ Below w.heap.size w w' := by
  have hl := bytesOf_length X
  have := key_TakeType.calls k A c (bytesOf X) r1 r2 r3 w (by rw [hl]; exact hC) (by omega) (by unfold key_TakeType.f; rw [h]; rfl)
  rwa [hl] at this
theorem afterA (k : Nat) (l r : List Int) (n : Nat) (hn : n = l.length) (A : Option Addr) (c : Nat) (w : World) (hC : Kd.C (Kd.int .u8) w A n l) (hc : n ≤ c) (h : key_After.f k l = some r) :
    Calls Try.prog 66 #[.slice A n c] w fun e w' => ∃ v0_ : Value, e = .returned (v0_) ∧ Kd.R (Kd.int .u8) 5 w' w.heap.size (fun _ => True) v0_ r ∧ Below w.heap.size w w' := by
  subst hn
  exact key_After.calls k A c l r w hC hc h
theorem C_nil (w : World) : Kd.C (Kd.int .u8) w none 0 [] := ⟨rfl, by decide, fun h => absurd h (by decide)⟩
set_option maxHeartbeats 40000000 in
set_option maxRecDepth 100000 in
theorem main_ (k : Nat) (bad none : List ByteArray) (hbs : bad = [⟨#[]⟩, ⟨#[97, 32, 98]⟩, ⟨#[97, 0]⟩, ⟨#[127]⟩, ⟨#[115, 101, 118, 101, 110, 116, 101, 101, 110, 45, 98, 121, 116, 101, 115, 45, 120]⟩, ⟨#[195, 164]⟩]) (hns : none = [⟨#[]⟩, ⟨#[0, 0, 0, 0, 0, 0, 0, 0, 0]⟩, ⟨#[97, 0, 128, 0, 0, 0, 0, 0, 0, 0]⟩, ⟨#[97, 1, 0, 0, 0, 0, 0, 0, 0, 0]⟩, ⟨#[97, 0, 0, 0, 0, 0, 0, 0, 0]⟩]) (hbad : ∀ i : Int, 0 ≤ i → i < 6 → Go.Proofs.Ytfgeffmlfbeodaa.Names.nameB (rdOf ByteArray.empty bad i) = false) (hnone : ∀ i : Int, 0 ≤ i → i < 5 → key_TakeStream.f k (bytesOf (rdOf ByteArray.empty none i)) = some (⟨#[]⟩, 0, false) ∧ (rdOf ByteArray.empty none i).size ≤ 40) (Q : List Int) (m1_ : key_MayName.f ⟨#[33, 126]⟩ = some true) (s1_ : key_Seq.f k (-1) = some []) (t1_ : key_Stream.f k ⟨#[97]⟩ (-1) = some []) (t2_ : key_Stream.f k ⟨#[97, 98]⟩ 258 = some Q) (hq : ((strOfNums Q).toList == ([97, 98, 0, 0, 0, 0, 0, 0, 0, 1, 2] : List UInt8)) = true) (B : List Int) (a1_ : key_After.f k [97, 255, 255] = some B) (hB : ((strOfNums B).toList == ([98] : List UInt8)) = true) (a2_ : key_After.f k [255] = some []) (a3_ : key_After.f k [] = some []) (w : World) (h0 : pandectlaw6_begun.f k = some true) :
    Calls Try.prog 15 #[] w fun e w' => e = .returned (.bool true) ∧ Below w.heap.size w w' := by
  have H0 := Aside0.mk h0
  have HBS := Aside0.mk hbs
  have HNS := Aside0.mk hns
  have HALL := Aside0.mk hbad
  have HNO := Aside0.mk hnone
  have M1 := Aside0.mk m1_
  have S1 := Aside0.mk s1_
  have T1 := Aside0.mk t1_
  have T2 := Aside0.mk t2_
  have A1 := Aside0.mk a1_
  have A2 := Aside0.mk a2_
  have A3 := Aside0.mk a3_
  have LX := Aside0.mk (show bad.length = 6 by rw [hbs]; rfl)
  have LY := Aside0.mk (show none.length = 5 by rw [hns]; rfl)
  have HB := Aside0.mk (Below.refl w.heap.size w)
  clear h0 hbs hns hbad hnone m1_ s1_ t1_ t2_ a1_ a2_ a3_
  go_enter Try.func15, Try.ntmps15
  go_wp2_with (first | (go_at_call 49; (with_reducible refine (pandectlaw6_begun.calls k true _ H0.out).mono ?_); rintro e w1 ⟨rfl, hb_⟩; replace HB := Aside0.mk hb_; clear hb_) | ((with_reducible refine gate_dst (N := 13) rfl ?_); refine Kd.R_lit Kd.string _ 9 ?hg (N := 13) ?hd (xs := [⟨#[]⟩, ⟨#[97, 32, 98]⟩, ⟨#[97, 0]⟩, ⟨#[127]⟩, ⟨#[115, 101, 118, 101, 110, 116, 101, 101, 110, 45, 98, 121, 116, 101, 115, 45, 120]⟩, ⟨#[195, 164]⟩]) (inner := [.string ⟨#[]⟩, .string ⟨#[97, 32, 98]⟩, .string ⟨#[97, 0]⟩, .string ⟨#[127]⟩, .string ⟨#[115, 101, 118, 101, 110, 116, 101, 101, 110, 45, 98, 121, 116, 101, 115, 45, 120]⟩, .string ⟨#[195, 164]⟩]) (ok := fun _ => True) (okp := fun _ => True) ?hr ?hp (fun _ hk => hk) trivial HB.out HB.out.size (by simp) ?_; (case hd => rfl); (case hg => rfl); (case hr => first | (go_simp; done) | (go_simp; rfl)); (case hp => exact (Reps.one (show Kd.M Kd.string _ _ _ (⟨#[]⟩ : ByteArray) [.string ⟨#[]⟩] from rfl) (Reps.one (show Kd.M Kd.string _ _ _ (⟨#[97, 32, 98]⟩ : ByteArray) [.string ⟨#[97, 32, 98]⟩] from rfl) (Reps.one (show Kd.M Kd.string _ _ _ (⟨#[97, 0]⟩ : ByteArray) [.string ⟨#[97, 0]⟩] from rfl) (Reps.one (show Kd.M Kd.string _ _ _ (⟨#[127]⟩ : ByteArray) [.string ⟨#[127]⟩] from rfl) (Reps.one (show Kd.M Kd.string _ _ _ (⟨#[115, 101, 118, 101, 110, 116, 101, 101, 110, 45, 98, 121, 116, 101, 115, 45, 120]⟩ : ByteArray) [.string ⟨#[115, 101, 118, 101, 110, 116, 101, 101, 110, 45, 98, 121, 116, 101, 115, 45, 120]⟩] from rfl) (Reps.one (show Kd.M Kd.string _ _ _ (⟨#[195, 164]⟩ : ByteArray) [.string ⟨#[195, 164]⟩] from rfl) (Reps.none _ _)))))))); intro v_ w5 ho hb hg_ hnew_; clear hg_ hnew_; rw [← HBS.out] at ho; obtain ⟨A5, c5, e_, hc_, hC_⟩ := Kd.R_reads ho; subst e_; have HR5 := Aside0.mk hC_; clear HB; have HB := Aside0.mk hb; clear ho hb hc_ hC_))
  have H6 := Aside0.mk (Below.refl w5.heap.size w5)
  obtain ⟨ad5, e5, _⟩ := Kd.at_string HR5.out 0 (by omega) (by have := LX.out; omega)
  cases e5
  go_loopg [2] 7 (fun kq v2 w' => ∃ (x2 : Int), v2 = .int .i64 x2 ∧ Aside0 (0 ≤ x2 ∧ x2 ≤ 6 ∧ x2 + kq = 7) ∧ Aside0 (Below w5.heap.size w5 w'))
  case atStart => exact ⟨(0 : Int), rfl, ⟨by decide⟩, H6⟩
  case round =>
    clear H6
    obtain ⟨x2, rfl, HI, H6⟩ := hrel
    cases gk with
    | zero => exact absurd HI.out (by omega)
    | succ k1 =>
      by_cases c2 : x2 < (bad.length : Int)
      · have c2b0 : decide (x2 < (bad.length : Int)) = true := decide_eq_true c2
        have C2 := Aside0.mk c2
        have hbad := HALL.out x2 HI.out.1 (by have := LX.out; omega)
        obtain ⟨_, e5, hx⟩ := Kd.at_string HR5.out x2 HI.out.1 c2
        cases e5
        generalize rdOf ByteArray.empty bad x2 = X at hbad hx
        have HBAD := Aside0.mk hbad
        have HX := Aside0.mk hx
        have p2 := eq_true HI.out.1
        have q2 := eq_true c2
        clear hx hbad c2
        go_wp2_with (fail)
        refine RG.region 151 (fun W => Below w5.heap.size w5 W) [Sp.exact ?_, Sp.exact ?_, Sp.exact ?_, Sp.exact ?_, Sp.exact ?_, Sp.exact ?_, Sp.exact ?_, Sp.exact ?_, Sp.exact ?_, Sp.exact ?_, Sp.ex (Row ([] : List Int)), Sp.exact ?_, Sp.exact ?_, Sp.exact ?_, Sp.exact ?_, Sp.exact ?_, Sp.ex (Row ([] : List Int)), Sp.exact ?_, Sp.exact ?_, Sp.exact ?_, Sp.exact ?_, Sp.exact ?_, Sp.exact ?_, Sp.ex (Row ([] : List Int)), Sp.exact ?_, Sp.exact ?_, Sp.exact ?_, Sp.exact ?_, Sp.exact ?_, Sp.exact ?_, Sp.ex (Row ([] : List Int)), Sp.exact ?_, Sp.exact ?_, Sp.exact ?_, Sp.exact ?_, Sp.exact ?_, Sp.exact ?_, Sp.ex (Row ([] : List Int)), Sp.exact ?_, Sp.exact ?_, Sp.exact ?_, Sp.exact ?_, Sp.exact ?_, Sp.exact ?_, Sp.ex (Row ([] : List Int)), Sp.exact ?_, Sp.exact ?_, Sp.exact ?_, Sp.exact ?_] (by kernel_rfl) (by kernel_rfl) rfl (fun _ _ hb h => below_then h h.size hb) (by exact ⟨fun _ _ _ hb h => Row.below h hb, fun _ _ _ hb h => Row.below h hb, fun _ _ _ hb h => Row.below h hb, fun _ _ _ hb h => Row.below h hb, fun _ _ _ hb h => Row.below h hb, fun _ _ _ hb h => Row.below h hb, trivial⟩) (by repeat (first | exact H6.out | apply below_alloc | apply pw_below_drewN | apply below_drew1)) ?_
        rotate_right
        refine rgW.just (b' := ?_) (Or.inl ⟨by rfl, ?_⟩) ?_ ?_; rotate_left; (focus (intro w'; go_simp; with_reducible rfl)); (focus (simp only [Act.put, List.setIfInBounds_toArray, List.set_cons_zero, List.set_cons_succ]; try rfl))
        refine rgW.just (b' := ?_) (Or.inl ⟨by rfl, ?_⟩) ?_ ?_; rotate_left; (focus (intro w'; go_simp; with_reducible rfl)); (focus (simp only [Act.put, List.setIfInBounds_toArray, List.set_cons_zero, List.set_cons_succ]; try rfl))
        refine rgW.just (b' := ?_) (Or.inl ⟨by rfl, ?_⟩) ?_ ?_; rotate_left; (focus (intro w'; go_simp; with_reducible rfl)); (focus (simp only [Act.put, List.setIfInBounds_toArray, List.set_cons_zero, List.set_cons_succ]; try rfl))
        refine rgW.read (b' := ?_) (by rfl) ?_ ?_ ?_; rotate_left; (focus (intro W hS hK; have hc_ := (hS.cell (World.block_lt_of_cell? w5 _ HX.out)).trans HX.out; go_simp; with_reducible rfl)); (focus (simp only [Act.put, List.setIfInBounds_toArray, List.set_cons_zero, List.set_cons_succ]; try rfl))
        refine rgW.callx (b' := ?_) (d := .bool false) #[.string X] Try.func53 (by kernel_rfl) rfl (by rfl) rfl (by (try simp only [List.map_toArray, List.map_cons, List.map_nil]); first | done | rfl) (fun W hS hK => ?_) ?_ ?_ ?_
        rotate_left
        · with_reducible refine (key_MayName.calls X false _ (by rw [key_MayName.f, HBAD.out])).mono ?_
          rintro e W' ⟨rfl, hd⟩
          exact ⟨rfl, hd⟩
        · rfl
        · simp only [Act.put, List.setIfInBounds_toArray, List.set_cons_zero, List.set_cons_succ]
          try rfl
        refine rgW.just (b' := ?_) (Or.inl ⟨by rfl, ?_⟩) ?_ ?_; rotate_left; (focus (intro w'; go_simp; with_reducible rfl)); (focus (simp only [Act.put, List.setIfInBounds_toArray, List.set_cons_zero, List.set_cons_succ]; try rfl))
        refine rgW.just (b' := ?_) (Or.inl ⟨by rfl, ?_⟩) ?_ ?_; rotate_left; (focus (intro w'; go_simp; with_reducible rfl)); (focus (simp only [Act.put, List.setIfInBounds_toArray, List.set_cons_zero, List.set_cons_succ]; try rfl))
        refine rgW.just (b' := ?_) (Or.inl ⟨by rfl, ?_⟩) ?_ ?_; rotate_left; (focus (intro w'; go_simp; with_reducible rfl)); (focus (simp only [Act.put, List.setIfInBounds_toArray, List.set_cons_zero, List.set_cons_succ]; try rfl))
        refine rgW.just (b' := ?_) (Or.inl ⟨by rfl, ?_⟩) ?_ ?_; rotate_left; (focus (intro w'; go_simp; with_reducible rfl)); (focus (simp only [Act.put, List.setIfInBounds_toArray, List.set_cons_zero, List.set_cons_succ]; try rfl))
        refine rgW.read (b' := ?_) (by rfl) ?_ ?_ ?_; rotate_left; (focus (intro W hS hK; have hc_ := (hS.cell (World.block_lt_of_cell? w5 _ HX.out)).trans HX.out; go_simp; with_reducible rfl)); (focus (simp only [Act.put, List.setIfInBounds_toArray, List.set_cons_zero, List.set_cons_succ]; try rfl))
        refine rgW.call (b' := ?_) #[.string X, .int .i64 1] Try.func55 (by kernel_rfl) rfl (by rfl) rfl (by (try simp only [List.map_toArray, List.map_cons, List.map_nil]); first | done | rfl) (fun W hS hK => ?_) ?_ ?_
        rotate_left
        · with_reducible refine (key_Stream.calls k X 1 [] _ (no_stream k X HBAD.out)).mono ?_
          rintro e W' ⟨v, rfl, ho, hb⟩
          exact ⟨v, rfl, .of_V ho, hb⟩
        · intro v
          simp only [Act.put, List.setIfInBounds_toArray, List.set_cons_zero, List.set_cons_succ]
          exact rfl
        intro v_
        refine rgW.read (b' := ?_) (by rfl) ?_ ?_ ?_; rotate_left; (focus (intro W hS hK; obtain ⟨A_, c_, e_, _, _⟩ := hK.1 (by kernel_rfl); subst e_; go_simp; with_reducible rfl)); (focus (simp only [Act.put, List.setIfInBounds_toArray, List.set_cons_zero, List.set_cons_succ]; try rfl))
        refine rgW.just (b' := ?_) (Or.inl ⟨by rfl, ?_⟩) ?_ ?_; rotate_left; (focus (intro w'; go_simp; with_reducible rfl)); (focus (simp only [Act.put, List.setIfInBounds_toArray, List.set_cons_zero, List.set_cons_succ]; try rfl))
        refine rgW.just (b' := ?_) (Or.inl ⟨by rfl, ?_⟩) ?_ ?_; rotate_left; (focus (intro w'; go_simp; with_reducible rfl)); (focus (simp only [Act.put, List.setIfInBounds_toArray, List.set_cons_zero, List.set_cons_succ]; try rfl))
        refine rgW.just (b' := ?_) (Or.inl ⟨by rfl, ?_⟩) ?_ ?_; rotate_left; (focus (intro w'; go_simp; with_reducible rfl)); (focus (simp only [Act.put, List.setIfInBounds_toArray, List.set_cons_zero, List.set_cons_succ]; try rfl))
        refine rgW.read (b' := ?_) (by rfl) ?_ ?_ ?_; rotate_left; (focus (intro W hS hK; have hc_ := (hS.cell (World.block_lt_of_cell? w5 _ HX.out)).trans HX.out; go_simp; with_reducible rfl)); (focus (simp only [Act.put, List.setIfInBounds_toArray, List.set_cons_zero, List.set_cons_succ]; try rfl))
        refine rgW.call (b' := ?_) #[.string X, .int .i64 1] Try.func57 (by kernel_rfl) rfl (by rfl) rfl (by (try simp only [List.map_toArray, List.map_cons, List.map_nil]); first | done | rfl) (fun W hS hK => ?_) ?_ ?_
        rotate_left
        · with_reducible refine (key_Type.calls k X 1 [] _ (no_type k X HBAD.out)).mono ?_
          rintro e W' ⟨v, rfl, ho, hb⟩
          exact ⟨v, rfl, .of_V ho, hb⟩
        · intro v
          simp only [Act.put, List.setIfInBounds_toArray, List.set_cons_zero, List.set_cons_succ]
          exact rfl
        intro v_
        refine rgW.read (b' := ?_) (by rfl) ?_ ?_ ?_; rotate_left; (focus (intro W hS hK; obtain ⟨A_, c_, e_, _, _⟩ := hK.1 (by kernel_rfl); subst e_; go_simp; with_reducible rfl)); (focus (simp only [Act.put, List.setIfInBounds_toArray, List.set_cons_zero, List.set_cons_succ]; try rfl))
        refine rgW.just (b' := ?_) (Or.inl ⟨by rfl, ?_⟩) ?_ ?_; rotate_left; (focus (intro w'; go_simp; with_reducible rfl)); (focus (simp only [Act.put, List.setIfInBounds_toArray, List.set_cons_zero, List.set_cons_succ]; try rfl))
        refine rgW.just (b' := ?_) (Or.inl ⟨by rfl, ?_⟩) ?_ ?_; rotate_left; (focus (intro w'; go_simp; with_reducible rfl)); (focus (simp only [Act.put, List.setIfInBounds_toArray, List.set_cons_zero, List.set_cons_succ]; try rfl))
        refine rgW.just (b' := ?_) (Or.inl ⟨by rfl, ?_⟩) ?_ ?_; rotate_left; (focus (intro w'; go_simp; with_reducible rfl)); (focus (simp only [Act.put, List.setIfInBounds_toArray, List.set_cons_zero, List.set_cons_succ]; try rfl))
        refine rgW.just (b' := ?_) (Or.inl ⟨by rfl, ?_⟩) ?_ ?_; rotate_left; (focus (intro w'; go_simp; with_reducible rfl)); (focus (simp only [Act.put, List.setIfInBounds_toArray, List.set_cons_zero, List.set_cons_succ]; try rfl))
        refine rgW.read (b' := ?_) (by rfl) ?_ ?_ ?_; rotate_left; (focus (intro W hS hK; have hc_ := (hS.cell (World.block_lt_of_cell? w5 _ HX.out)).trans HX.out; go_simp; with_reducible rfl)); (focus (simp only [Act.put, List.setIfInBounds_toArray, List.set_cons_zero, List.set_cons_succ]; try rfl))
        refine rgW.call (b' := ?_) #[.string X] Try.func61 (by kernel_rfl) rfl (by rfl) rfl (by (try simp only [List.map_toArray, List.map_cons, List.map_nil]); first | done | rfl) (fun W hS hK => ?_) ?_ ?_
        rotate_left
        · with_reducible refine (key_Head.calls X [] _ (by unfold key_Head.f; rw [no_letter _ X HBAD.out, Option.bind_some])).mono ?_
          rintro e W' ⟨v, rfl, ho, hb⟩
          exact ⟨v, rfl, .of_R ho, hb⟩
        · intro v
          simp only [Act.put, List.setIfInBounds_toArray, List.set_cons_zero, List.set_cons_succ]
          exact rfl
        intro v_
        refine rgW.read (b' := ?_) (by rfl) ?_ ?_ ?_; rotate_left; (focus (intro W hS hK; obtain ⟨A_, c_, e_, _, _⟩ := hK.1 (by kernel_rfl); subst e_; go_simp; with_reducible rfl)); (focus (simp only [Act.put, List.setIfInBounds_toArray, List.set_cons_zero, List.set_cons_succ]; try rfl))
        refine rgW.just (b' := ?_) (Or.inl ⟨by rfl, ?_⟩) ?_ ?_; rotate_left; (focus (intro w'; go_simp; with_reducible rfl)); (focus (simp only [Act.put, List.setIfInBounds_toArray, List.set_cons_zero, List.set_cons_succ]; try rfl))
        refine rgW.just (b' := ?_) (Or.inl ⟨by rfl, ?_⟩) ?_ ?_; rotate_left; (focus (intro w'; go_simp; with_reducible rfl)); (focus (simp only [Act.put, List.setIfInBounds_toArray, List.set_cons_zero, List.set_cons_succ]; try rfl))
        refine rgW.just (b' := ?_) (Or.inl ⟨by rfl, ?_⟩) ?_ ?_; rotate_left; (focus (intro w'; go_simp; with_reducible rfl)); (focus (simp only [Act.put, List.setIfInBounds_toArray, List.set_cons_zero, List.set_cons_succ]; try rfl))
        refine rgW.just (b' := ?_) (Or.inl ⟨by rfl, ?_⟩) ?_ ?_; rotate_left; (focus (intro w'; go_simp; with_reducible rfl)); (focus (simp only [Act.put, List.setIfInBounds_toArray, List.set_cons_zero, List.set_cons_succ]; try rfl))
        refine rgW.read (b' := ?_) (by rfl) ?_ ?_ ?_; rotate_left; (focus (intro W hS hK; have hc_ := (hS.cell (World.block_lt_of_cell? w5 _ HX.out)).trans HX.out; go_simp; with_reducible rfl)); (focus (simp only [Act.put, List.setIfInBounds_toArray, List.set_cons_zero, List.set_cons_succ]; try rfl))
        refine rgW.call (b' := ?_) #[.string X] Try.func63 (by kernel_rfl) rfl (by rfl) rfl (by (try simp only [List.map_toArray, List.map_cons, List.map_nil]); first | done | rfl) (fun W hS hK => ?_) ?_ ?_
        rotate_left
        · with_reducible refine (key_ID.calls X [] _ (by unfold key_ID.f; rw [no_letter _ X HBAD.out, Option.bind_some])).mono ?_
          rintro e W' ⟨v, rfl, ho, hb⟩
          exact ⟨v, rfl, .of_R ho, hb⟩
        · intro v
          simp only [Act.put, List.setIfInBounds_toArray, List.set_cons_zero, List.set_cons_succ]
          exact rfl
        intro v_
        refine rgW.read (b' := ?_) (by rfl) ?_ ?_ ?_; rotate_left; (focus (intro W hS hK; obtain ⟨A_, c_, e_, _, _⟩ := hK.1 (by kernel_rfl); subst e_; go_simp; with_reducible rfl)); (focus (simp only [Act.put, List.setIfInBounds_toArray, List.set_cons_zero, List.set_cons_succ]; try rfl))
        refine rgW.just (b' := ?_) (Or.inl ⟨by rfl, ?_⟩) ?_ ?_; rotate_left; (focus (intro w'; go_simp; with_reducible rfl)); (focus (simp only [Act.put, List.setIfInBounds_toArray, List.set_cons_zero, List.set_cons_succ]; try rfl))
        refine rgW.just (b' := ?_) (Or.inl ⟨by rfl, ?_⟩) ?_ ?_; rotate_left; (focus (intro w'; go_simp; with_reducible rfl)); (focus (simp only [Act.put, List.setIfInBounds_toArray, List.set_cons_zero, List.set_cons_succ]; try rfl))
        refine rgW.just (b' := ?_) (Or.inl ⟨by rfl, ?_⟩) ?_ ?_; rotate_left; (focus (intro w'; go_simp; with_reducible rfl)); (focus (simp only [Act.put, List.setIfInBounds_toArray, List.set_cons_zero, List.set_cons_succ]; try rfl))
        refine rgW.just (b' := ?_) (Or.inl ⟨by rfl, ?_⟩) ?_ ?_; rotate_left; (focus (intro w'; go_simp; with_reducible rfl)); (focus (simp only [Act.put, List.setIfInBounds_toArray, List.set_cons_zero, List.set_cons_succ]; try rfl))
        refine rgW.read (b' := ?_) (by rfl) ?_ ?_ ?_; rotate_left; (focus (intro W hS hK; have hc_ := (hS.cell (World.block_lt_of_cell? w5 _ HX.out)).trans HX.out; go_simp; with_reducible rfl)); (focus (simp only [Act.put, List.setIfInBounds_toArray, List.set_cons_zero, List.set_cons_succ]; try rfl))
        refine rgW.call (b' := ?_) #[.string X] Try.func64 (by kernel_rfl) rfl (by rfl) rfl (by (try simp only [List.map_toArray, List.map_cons, List.map_nil]); first | done | rfl) (fun W hS hK => ?_) ?_ ?_
        rotate_left
        · with_reducible refine (key_Snap.calls X [] _ (by unfold key_Snap.f; rw [no_letter _ X HBAD.out, Option.bind_some])).mono ?_
          rintro e W' ⟨v, rfl, ho, hb⟩
          exact ⟨v, rfl, .of_R ho, hb⟩
        · intro v
          simp only [Act.put, List.setIfInBounds_toArray, List.set_cons_zero, List.set_cons_succ]
          exact rfl
        intro v_
        refine rgW.read (b' := ?_) (by rfl) ?_ ?_ ?_; rotate_left; (focus (intro W hS hK; obtain ⟨A_, c_, e_, _, _⟩ := hK.1 (by kernel_rfl); subst e_; go_simp; with_reducible rfl)); (focus (simp only [Act.put, List.setIfInBounds_toArray, List.set_cons_zero, List.set_cons_succ]; try rfl))
        refine rgW.just (b' := ?_) (Or.inl ⟨by rfl, ?_⟩) ?_ ?_; rotate_left; (focus (intro w'; go_simp; with_reducible rfl)); (focus (simp only [Act.put, List.setIfInBounds_toArray, List.set_cons_zero, List.set_cons_succ]; try rfl))
        refine rgW.just (b' := ?_) (Or.inl ⟨by rfl, ?_⟩) ?_ ?_; rotate_left; (focus (intro w'; go_simp; with_reducible rfl)); (focus (simp only [Act.put, List.setIfInBounds_toArray, List.set_cons_zero, List.set_cons_succ]; try rfl))
        refine rgW.just (b' := ?_) (Or.inl ⟨by rfl, ?_⟩) ?_ ?_; rotate_left; (focus (intro w'; go_simp; with_reducible rfl)); (focus (simp only [Act.put, List.setIfInBounds_toArray, List.set_cons_zero, List.set_cons_succ]; try rfl))
        refine rgW.just (b' := ?_) (Or.inl ⟨by rfl, ?_⟩) ?_ ?_; rotate_left; (focus (intro w'; go_simp; with_reducible rfl)); (focus (simp only [Act.put, List.setIfInBounds_toArray, List.set_cons_zero, List.set_cons_succ]; try rfl))
        refine rgW.read (b' := ?_) (by rfl) ?_ ?_ ?_; rotate_left; (focus (intro W hS hK; have hc_ := (hS.cell (World.block_lt_of_cell? w5 _ HX.out)).trans HX.out; go_simp; with_reducible rfl)); (focus (simp only [Act.put, List.setIfInBounds_toArray, List.set_cons_zero, List.set_cons_succ]; try rfl))
        refine rgW.call (b' := ?_) #[.string X] Try.func65 (by kernel_rfl) rfl (by rfl) rfl (by (try simp only [List.map_toArray, List.map_cons, List.map_nil]); first | done | rfl) (fun W hS hK => ?_) ?_ ?_
        rotate_left
        · with_reducible refine (key_Point.calls X [] _ (by unfold key_Point.f; rw [no_letter _ X HBAD.out, Option.bind_some])).mono ?_
          rintro e W' ⟨v, rfl, ho, hb⟩
          exact ⟨v, rfl, .of_R ho, hb⟩
        · intro v
          simp only [Act.put, List.setIfInBounds_toArray, List.set_cons_zero, List.set_cons_succ]
          exact rfl
        intro v_
        refine rgW.read (b' := ?_) (by rfl) ?_ ?_ ?_; rotate_left; (focus (intro W hS hK; obtain ⟨A_, c_, e_, _, _⟩ := hK.1 (by kernel_rfl); subst e_; go_simp; with_reducible rfl)); (focus (simp only [Act.put, List.setIfInBounds_toArray, List.set_cons_zero, List.set_cons_succ]; try rfl))
        refine rgW.just (b' := ?_) (Or.inl ⟨by rfl, ?_⟩) ?_ ?_; rotate_left; (focus (intro w'; go_simp; with_reducible rfl)); (focus (simp only [Act.put, List.setIfInBounds_toArray, List.set_cons_zero, List.set_cons_succ]; try rfl))
        refine rgW.just (b' := ?_) (Or.inl ⟨by rfl, ?_⟩) ?_ ?_; rotate_left; (focus (intro w'; go_simp; with_reducible rfl)); (focus (simp only [Act.put, List.setIfInBounds_toArray, List.set_cons_zero, List.set_cons_succ]; try rfl))
        refine rgW.just (b' := ?_) (Or.inl ⟨by rfl, ?_⟩) ?_ ?_; rotate_left; (focus (intro w'; go_simp; with_reducible rfl)); (focus (simp only [Act.put, List.setIfInBounds_toArray, List.set_cons_zero, List.set_cons_succ]; try rfl))
        intro W2 hS hA
        clear hA H6
        have H6 := Aside0.mk hS
        clear hS
        go_wp2_with (fail)
        go_roundg k1
        case measure => omega
        case rel => exact ⟨wrap64 (x2 + 1), by first | rfl | (simp; done) | (simp [*]; done), ⟨by have := HI.out; have := C2.out; have := LX.out; have e : wrap64 (x2 + 1) = x2 + 1 := (by unfold wrap64; omega); rw [e]; omega⟩, ⟨H6.out⟩⟩
      · have c2b0 : decide (x2 < (bad.length : Int)) = false := decide_eq_false c2
        clear c2
        have n_ := Aside0.mk (below_then HB.out HB.out.size H6.out)
        clear HB
        have HB := n_
        clear n_
        go_wp2_with (first | ((with_reducible refine gate_dst (N := 69) rfl ?_); refine Kd.R_lit Kd.string _ 9 ?hg (N := 69) ?hd (xs := [⟨#[]⟩, ⟨#[0, 0, 0, 0, 0, 0, 0, 0, 0]⟩, ⟨#[97, 0, 128, 0, 0, 0, 0, 0, 0, 0]⟩, ⟨#[97, 1, 0, 0, 0, 0, 0, 0, 0, 0]⟩, ⟨#[97, 0, 0, 0, 0, 0, 0, 0, 0]⟩]) (inner := [.string ⟨#[]⟩, .string ⟨#[0, 0, 0, 0, 0, 0, 0, 0, 0]⟩, .string ⟨#[97, 0, 128, 0, 0, 0, 0, 0, 0, 0]⟩, .string ⟨#[97, 1, 0, 0, 0, 0, 0, 0, 0, 0]⟩, .string ⟨#[97, 0, 0, 0, 0, 0, 0, 0, 0]⟩]) (ok := fun _ => True) (okp := fun _ => True) ?hr ?hp (fun _ hk => hk) trivial HB.out HB.out.size (by simp) ?_; (case hd => rfl); (case hg => rfl); (case hr => first | (go_simp; done) | (go_simp; rfl)); (case hp => exact (Reps.one (show Kd.M Kd.string _ _ _ (⟨#[]⟩ : ByteArray) [.string ⟨#[]⟩] from rfl) (Reps.one (show Kd.M Kd.string _ _ _ (⟨#[0, 0, 0, 0, 0, 0, 0, 0, 0]⟩ : ByteArray) [.string ⟨#[0, 0, 0, 0, 0, 0, 0, 0, 0]⟩] from rfl) (Reps.one (show Kd.M Kd.string _ _ _ (⟨#[97, 0, 128, 0, 0, 0, 0, 0, 0, 0]⟩ : ByteArray) [.string ⟨#[97, 0, 128, 0, 0, 0, 0, 0, 0, 0]⟩] from rfl) (Reps.one (show Kd.M Kd.string _ _ _ (⟨#[97, 1, 0, 0, 0, 0, 0, 0, 0, 0]⟩ : ByteArray) [.string ⟨#[97, 1, 0, 0, 0, 0, 0, 0, 0, 0]⟩] from rfl) (Reps.one (show Kd.M Kd.string _ _ _ (⟨#[97, 0, 0, 0, 0, 0, 0, 0, 0]⟩ : ByteArray) [.string ⟨#[97, 0, 0, 0, 0, 0, 0, 0, 0]⟩] from rfl) (Reps.none _ _))))))); intro v_ w6 ho hb hg_ hnew_; clear hg_ hnew_; rw [← HNS.out] at ho; obtain ⟨A6, c6, e_, hc_, hC_⟩ := Kd.R_reads ho; subst e_; have HR6 := Aside0.mk hC_; clear HB; have HB := Aside0.mk hb; clear ho hb hc_ hC_))
        have H6 := Aside0.mk (Below.refl w6.heap.size w6)
        obtain ⟨ad6, e6, _⟩ := Kd.at_string HR6.out 0 (by omega) (by have := LY.out; omega)
        cases e6
        go_loopg [4] 6 (fun kq v4 w' => ∃ (x4 : Int), v4 = .int .i64 x4 ∧ Aside0 (0 ≤ x4 ∧ x4 ≤ 5 ∧ x4 + kq = 6) ∧ Aside0 (Below w6.heap.size w6 w'))
        case atStart => exact ⟨(0 : Int), rfl, ⟨by decide⟩, H6⟩
        case round =>
          clear H6
          obtain ⟨x4, rfl, HJ, H6⟩ := hrel
          cases gk with
          | zero => exact absurd HJ.out (by omega)
          | succ j1 =>
            by_cases c4 : x4 < (none.length : Int)
            · have c4b0 : decide (x4 < (none.length : Int)) = true := decide_eq_true c4
              have C4 := Aside0.mk c4
              obtain ⟨hts, hsz⟩ := HNO.out x4 HJ.out.1 (by have := LY.out; omega)
              obtain ⟨_, e6, hx⟩ := Kd.at_string HR6.out x4 HJ.out.1 c4
              cases e6
              generalize rdOf ByteArray.empty none x4 = X at hts hsz hx
              have HTS := Aside0.mk hts
              have HSZ := Aside0.mk hsz
              have HX := Aside0.mk hx
              replace hx := (H6.out.cell (World.block_lt_of_cell? w6 _ hx)).trans hx
              have p4 := eq_true HJ.out.1
              have q4 := eq_true c4
              have kb := fun W => print_bytes (P := Try.prog) 9 22 5 Try.underlying9 Try.underlying22 Try.underlying5 X W
              clear hts hsz c4
              go_wp2_with (first | (go_at_call 50; (with_reducible refine (takeS k X ⟨#[]⟩ 0 false _ _ _ ?s1 ?s2 HTS.out).mono ?_); (case s1 => exact Kd.C_of_reads (d := (0 : Int)) (h1 := fun _ => rfl) (bytes_reads _ 5 X (by have := HSZ.out; omega))); (case s2 => exact grownCap_ge _ _ _ _); rintro e w7 ⟨rfl, hb_⟩; have n_ := bytes_below H6.out H6.out.size 5 X; replace H6 := Aside0.mk (below_then n_ n_.size hb_); clear n_ hb_; replace hx := (H6.out.cell (World.block_lt_of_cell? w6 _ HX.out)).trans HX.out) | (go_at_call 52; (with_reducible refine (takeT k X ⟨#[]⟩ 0 false _ _ _ ?s1 ?s2 HTS.out).mono ?_); (case s1 => exact Kd.C_of_reads (d := (0 : Int)) (h1 := fun _ => rfl) (bytes_reads _ 5 X (by have := HSZ.out; omega))); (case s2 => exact grownCap_ge _ _ _ _); rintro e w8 ⟨rfl, hb_⟩; have n_ := bytes_below H6.out H6.out.size 5 X; replace H6 := Aside0.mk (below_then n_ n_.size hb_); clear n_ hb_; replace hx := (H6.out.cell (World.block_lt_of_cell? w6 _ HX.out)).trans HX.out))
              go_roundg j1
              case measure => omega
              case rel => exact ⟨wrap64 (x4 + 1), by first | rfl | (simp; done) | (simp [*]; done), ⟨by have := HJ.out; have := C4.out; have := LY.out; have e : wrap64 (x4 + 1) = x4 + 1 := (by unfold wrap64; omega); rw [e]; omega⟩, ⟨H6.out⟩⟩
            · have c4b0 : decide (x4 < (none.length : Int)) = false := decide_eq_false c4
              clear c4
              have n_ := Aside0.mk (below_then HB.out HB.out.size H6.out)
              clear HB
              have HB := n_
              clear n_
              have km := fun (W : World) (C : Array Value) (n c : Nat) => Go.Proofs.Ytfgeffmlfbeodaa.Own.run_mark (P := Try.prog) W 22 5 C n c W.heap.size rfl Try.underlying22 Try.underlying5
              go_wp2_with (first | (go_at_call 53; (with_reducible refine (key_MayName.calls ⟨#[33, 126]⟩ true _ M1.out).mono ?_); rintro e wa ⟨rfl, hb_⟩; replace HB := Aside0.mk (below_then HB.out HB.out.size hb_); clear hb_) | (go_at_call 59; (with_reducible refine (key_Seq.calls k (-1) [] _ S1.out).mono ?_); rintro e wb ⟨v_, rfl, ho_, hb_⟩; obtain ⟨A_, c_, e_, hc_, hC_⟩ := Row.of_R ho_; subst e_; replace HB := Aside0.mk (below_then HB.out HB.out.size hb_); clear ho_ hb_ hc_) | (go_at_call 55; (with_reducible refine (key_Stream.calls k ⟨#[97]⟩ (-1) [] _ T1.out).mono ?_); rintro e wc ⟨v_, rfl, ho_, hb_⟩; obtain ⟨A_, c_, e_, hc_, hC_⟩ := Row.of_V ho_; subst e_; replace HB := Aside0.mk (below_then HB.out HB.out.size hb_); clear ho_ hb_ hc_) | (go_at_call 55; (with_reducible refine (key_Stream.calls k ⟨#[97, 98]⟩ 258 Q _ T2.out).mono ?_); rintro e wd ⟨v_, rfl, ho_, hb_⟩; obtain ⟨A_, c_, e_, hc_, hC_⟩ := Row.of_V ho_; subst e_; replace HB := Aside0.mk (below_then HB.out HB.out.size hb_); have hcv := Kd.C_string (P := Try.prog) (A := A_) (c := c_) Try.underlying22 Try.underlying5 Try.underlying9 hC_; clear ho_ hb_ hc_) | (refine Go.Proofs.Ytfgeffmlfbeodaa.Own.step_mark rfl _ 22 5 _ _ _ _ _ rfl rfl rfl ?hg Try.underlying22 Try.underlying5 ?_; (case hg => first | rfl | (go_simp; done) | (simp; done))) | (go_at_call 66; (with_reducible refine (afterA k [97, 255, 255] B 3 rfl _ _ _ ?s1 ?s2 A1.out).mono ?_); (case s1 => first | exact C_nil _ | exact Go.Proofs.Ytfgeffmlfbeodaa.Own.C_mark _ _ _ (by first | rfl | simp) (by decide) _ _ _ _ rfl rfl); (case s2 => exact Nat.le_refl _); rintro e we ⟨v_, rfl, ho_, hb_⟩; obtain ⟨A_, c_, e_, hc_, hC_⟩ := Row.of_R ho_; subst e_; have n_ := Aside0.mk (below_step (by repeat (first | (with_reducible first | exact HB.out | apply below_alloc | apply pw_below_drewN | apply below_drew1) | exact HB.out)) hb_); clear HB; have HB := n_; clear n_; have hcv := Kd.C_string (P := Try.prog) (A := A_) (c := c_) Try.underlying22 Try.underlying5 Try.underlying9 hC_; clear ho_ hb_ hc_) | (go_at_call 66; (with_reducible refine (afterA k [255] [] 1 rfl _ _ _ ?s1 ?s2 A2.out).mono ?_); (case s1 => first | exact C_nil _ | exact Go.Proofs.Ytfgeffmlfbeodaa.Own.C_mark _ _ _ (by first | rfl | simp) (by decide) _ _ _ _ rfl rfl); (case s2 => exact Nat.le_refl _); rintro e wf ⟨v_, rfl, ho_, hb_⟩; obtain ⟨A_, c_, e_, hc_, hC_⟩ := Row.of_R ho_; subst e_; have n_ := Aside0.mk (below_step (by repeat (first | (with_reducible first | exact HB.out | apply below_alloc | apply pw_below_drewN | apply below_drew1) | exact HB.out)) hb_); clear HB; have HB := n_; clear n_; clear ho_ hb_ hc_) | (go_at_call 66; (with_reducible refine (afterA k [] [] 0 rfl _ _ _ ?s1 ?s2 A3.out).mono ?_); (case s1 => first | exact C_nil _ | exact Go.Proofs.Ytfgeffmlfbeodaa.Own.C_mark _ _ _ (by first | rfl | simp) (by decide) _ _ _ _ rfl rfl); (case s2 => exact Nat.le_refl _); rintro e wg ⟨v_, rfl, ho_, hb_⟩; obtain ⟨A_, c_, e_, hc_, hC_⟩ := Row.of_R ho_; subst e_; have n_ := Aside0.mk (below_step (by repeat (first | (with_reducible first | exact HB.out | apply below_alloc | apply pw_below_drewN | apply below_drew1) | exact HB.out)) hb_); clear HB; have HB := n_; clear n_; clear ho_ hb_ hc_))
              go_ret
              exact ⟨rfl, HB.out⟩
end Go.Proofs.Ytfgeffmlfbeodaa.PKeyForms
