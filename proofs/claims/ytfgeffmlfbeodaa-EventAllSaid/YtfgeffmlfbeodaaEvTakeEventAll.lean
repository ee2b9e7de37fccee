/- event.Take: what event bytes are. Bound to this program. -/
import Derived.Test.YtfgeffmlfbeodaaRd
import Derived.Test.YtfgeffmlfbeodaaPEventAllx1
namespace Go.Proofs.Ytfgeffmlfbeodaa.PEventAll
open Go Go.RowKit Go.Proofs Go.Proofs.Ytfgeffmlfbeodaa.RG Go.Proofs.Ytfgeffmlfbeodaa.RP Go.Proofs.Ytfgeffmlfbeodaa.Rd Go.Proofs.YtfgeffmlfbeodaaW.PrintWords Go.Proofs.YtfgeffmlfbeodaaW.PrintLast Go.Proofs.YtfgeffmlfbeodaaW.PrintMore
set_option linter.unusedVariables false
set_option linter.unusedSimpArgs false
/-- What is read: a number, a number, three texts. -/
structure Red where
  (a1 a2 a3 a4 a5 : List Int × List Int × Bool)
def red (l0 : List Int) : Red :=
  let a1 := txt l0 false 8
  let a2 := txt a1.2.1 a1.2.2 8
  let a3 := lng a2.2.1 a2.2.2
  let a4 := lng a3.2.1 a3.2.2
  ⟨a1, a2, a3, a4, lng a4.2.1 a4.2.2⟩
def event_Take.f (k : Nat) (l0 : List Int) : Option (Int × ByteArray × Int × ByteArray × List Int × Int) :=
  if l0.all (fun c => decide (0 ≤ c) && decide (c ≤ 255)) then
    if (red l0).a5.2.2 = true then some (0, ⟨#[]⟩, 0, ⟨#[]⟩, [], 2) else
    (event_May.f (numv (red l0).a1.1) (strOfNums (red l0).a3.1) (numv (red l0).a2.1) (strOfNums (red l0).a4.1) (red l0).a5.1).bind fun q =>
    if q = true then (event_Put.f k (numv (red l0).a1.1) (strOfNums (red l0).a3.1) (numv (red l0).a2.1) (strOfNums (red l0).a4.1) (red l0).a5.1).bind fun b =>
      (bytes_Equal.f b l0).bind fun q2 => if q2 = true then some (numv (red l0).a1.1, strOfNums (red l0).a3.1, numv (red l0).a2.1, strOfNums (red l0).a4.1, (red l0).a5.1, 0) else some (0, ⟨#[]⟩, 0, ⟨#[]⟩, [], 2)
    else some (0, ⟨#[]⟩, 0, ⟨#[]⟩, [], 2)
  else none
def ph (l0 : List Int) : Nat → List Int × Bool
  | 0 => (l0, false)
  | 1 => (red l0).a1.2
  | 2 => (red l0).a2.2
  | 3 => (red l0).a3.2
  | 4 => (red l0).a4.2
  | _ => (red l0).a5.2
theorem txt_mem {xs : List Int} {s : Bool} {n : Int} (h : ∀ c ∈ xs, 0 ≤ c ∧ c ≤ 255) : ∀ c ∈ (txt xs s n).2.1, 0 ≤ c ∧ c ≤ 255 := by
  intro c hc
  unfold txt at hc
  split at hc
  · cases hc
  · exact h c (List.mem_of_mem_drop hc)
theorem lng_mem {xs : List Int} {s : Bool} (h : ∀ c ∈ xs, 0 ≤ c ∧ c ≤ 255) : ∀ c ∈ (lng xs s).2.1, 0 ≤ c ∧ c ≤ 255 := by
  intro c hc
  unfold lng at hc
  split at hc
  · exact txt_mem h c hc
  · exact txt_mem (txt_mem h) c hc
theorem ph_mem {l0 : List Int} (h : ∀ c ∈ l0, 0 ≤ c ∧ c ≤ 255) : ∀ k, ∀ c ∈ (ph l0 k).1, 0 ≤ c ∧ c ≤ 255
  | 0 => h
  | 1 => txt_mem h
  | 2 => txt_mem (txt_mem h)
  | 3 => lng_mem (txt_mem (txt_mem h))
  | 4 => lng_mem (lng_mem (txt_mem (txt_mem h)))
  | _ + 5 => lng_mem (lng_mem (lng_mem (txt_mem (txt_mem h))))
theorem ph0 {w W : World} {g : Nat} {l0 : List Int} (h : St w g (ph l0 0).1 (ph l0 0).2 W) : St w g l0 false W := h
theorem own_C {W : World} {base c : Nat} {ok : Nat → Prop} {A : Option Addr} {l : List Int} (h : Kd.R (Kd.int .u8) 5 W base ok (.slice A l.length c) l) : Kd.C (Kd.int .u8) W A l.length l := (Kd.R_reads' h).2.2
theorem own_g {w W W' : World} {g : Nat} {xs l : List Int} {s : Bool} {v : Value} (hS : St w g xs s W) (hg : w.heap.size ≤ g) (h : Kd.R (Kd.int .u8) 5 W' W.heap.size (fun k => W.heap.size ≤ k) v l) : Kd.R (Kd.int .u8) 5 W' w.heap.size (fun k => w.heap.size ≤ k ∧ k ≠ g) v l := by
  obtain ⟨A, c, hb, _⟩ := hS.blk
  have h1 := blk_lt hb
  exact Kd.R_lower (Kd.R_mono h (fun k hk => ⟨Nat.le_trans hS.below.size hk, by omega⟩)) hS.below.size
set_option maxHeartbeats 8000000 in
set_option maxRecDepth 100000 in
theorem event_Take.calls (k : Nat) (A0 : Option Addr) (c0 : Nat) (l0 : List Int) (r1 : Int) (r2 : ByteArray) (r3 : Int) (r4 : ByteArray) (r5 : List Int) (r6 : Int) (w : World) (hr0 : Kd.C (Kd.int .u8) w A0 l0.length l0) (hc0 : l0.length ≤ c0) (h : event_Take.f k l0 = some (r1, r2, r3, r4, r5, r6)) :
    Calls Try.prog 20 #[.slice A0 l0.length c0] w fun e w' => ∃ v : Value, e = .returned (.tuple #[.agg #[.int .i64 r1, .string r2, .int .i64 r3, .string r4, v], .int .i64 r6]) ∧ Kd.R (Kd.int .u8) 5 w' w.heap.size (fun k => w.heap.size ≤ k) v r5 ∧ Below w.heap.size w w' := by
  have hu24 := Try.underlying24
  have hu95 := Try.underlying95
  have HB := Aside0.mk (Below.refl w.heap.size w)
  have HR0 := Aside0.mk hr0
  have HC0 := Aside0.mk hc0
  unfold event_Take.f at h
  by_cases hall : l0.all (fun c => decide (0 ≤ c) && decide (c ≤ 255)) = true
  case neg => rw [if_neg hall] at h; cases h
  rw [if_pos hall] at h
  have hx0 : ∀ c ∈ l0, 0 ≤ c ∧ c ≤ 255 := fun c hc => by have := List.all_eq_true.1 hall c hc; simpa using this
  have HX0 := Aside0.mk hx0
  have HH := Aside0.mk h
  clear hall hx0 h hr0 hc0
  go_enter Try.func20, Try.ntmps20
  go_wp2_with (first | ((with_reducible refine gate_dst (N := 2) rfl ?_); refine box_event ?hg (N := 2) ?hd (cs := #[.int .i64 0, .string ⟨#[]⟩, .int .i64 0, .string ⟨#[]⟩, .slice none 0 0]) (t := 24) ?hr ?_; (case hd => rfl); (case hg => rfl); (case hr => first | (go_simp; done) | (go_simp; rfl)); intro gb hg w1 hbox hb; have BK := Aside0.mk hbox; have GE := Aside0.mk (show w.heap.size ≤ gb by rw [hg]; exact Nat.le_refl _); clear HB; have HB := Aside0.mk hb; clear hg hbox hb) | ((with_reducible refine gate_dst (N := 10) rfl ?_); refine box_event ?hg (N := 10) ?hd (cs := #[.slice A0 l0.length c0, .bool false]) (t := 95) ?hr ?_; (case hd => rfl); (case hg => rfl); (case hr => first | (go_simp; done) | (go_simp; rfl)); intro gr hg w2 hbox hb; have BR := Aside0.mk hbox; have GR := Aside0.mk (show w1.heap.size ≤ gr by rw [hg]; exact Nat.le_refl _); have NE := Aside0.mk (show gb ≠ gr by have := blk_lt BK.out; have : w1.heap.size ≤ gr := (by rw [hg]; exact Nat.le_refl _); omega); have GG := Aside0.mk (show w.heap.size ≤ gr by rw [hg]; exact HB.out.size); have n1_ := Aside0.mk (blk_below BK.out hb); have n2_ := Aside0.mk (below_then HB.out HB.out.size hb); clear HB BK; have HB := n2_; have BK := n1_; clear n1_ n2_; clear hg hbox hb))
  have GRB := Aside0.mk (show w.heap.size ≤ gr by exact GG.out)
  have hRl : ∀ W : World, KeepBut W W gr none := fun W => KeepBut.refl W gr none
  refine RP.regionT 46 14 [1, 3, 5, 8, 11] (fun k W => W.heap[gb]? = some (.cells #[.int .i64 0, .string ⟨#[]⟩, .int .i64 0, .string ⟨#[]⟩, .slice none 0 0] 24 (0, 0)) ∧ St w gr (ph l0 k).1 (ph l0 k).2 W) (fun W W' => KeepBut W W' gr none) [Sp.exact ?_, Sp.exact ?_, Sp.exact ?_, Sp.exact ?_, Sp.exact ?_, Sp.ex (fun v W => Kd.R (Kd.int .u8) 5 W w.heap.size (fun k => w.heap.size ≤ k ∧ k ≠ gr) v (red l0).a3.1), Sp.exact ?_, Sp.exact ?_, Sp.ex (fun v W => Kd.R (Kd.int .u8) 5 W w.heap.size (fun k => w.heap.size ≤ k ∧ k ≠ gr) v (red l0).a4.1), Sp.exact ?_, Sp.exact ?_, Sp.ex (fun v W => Kd.R (Kd.int .u8) 5 W w.heap.size (fun k => w.heap.size ≤ k ∧ k ≠ gr) v (red l0).a5.1), Sp.ex (fun v W => ∃ u, v = .agg #[.int .i64 (numv (red l0).a1.1), .string (strOfNums (red l0).a3.1), .int .i64 (numv (red l0).a2.1), .string (strOfNums (red l0).a4.1), u] ∧ Kd.R (Kd.int .u8) 5 W w.heap.size (fun k => w.heap.size ≤ k ∧ k ≠ gr) u (red l0).a5.1), Sp.ex (fun v W => ∃ g, v = .pointer (some ⟨g, 0, none⟩) ∧ w.heap.size ≤ g ∧ W.heap[g]? = some (.cells #[.int .i64 0, .string ⟨#[]⟩, .int .i64 0, .string ⟨#[]⟩, .slice none 0 0] 24 (0, 0)) ∧ gb ≠ g ∧ g ≠ gr)] (by kernel_rfl) (by kernel_rfl) (by kernel_rfl) (by kernel_rfl) rfl (⟨fun v W W1 hk h => Kd.R_keep h hk (fun k hk => hk.2), fun v W W1 hk h => Kd.R_keep h hk (fun k hk => hk.2), fun v W W1 hk h => Kd.R_keep h hk (fun k hk => hk.2), fun v W W1 hk h => by obtain ⟨u, e, h1⟩ := h; exact ⟨u, e, Kd.R_keep h1 hk (fun k hk => hk.2)⟩, fun v W W1 hk h => by obtain ⟨g, e, h1, h2, h3, h4⟩ := h; exact ⟨g, e, h1, hk.blk h2 h4 (by simp), h3, h4⟩, trivial⟩) ⟨by exact BK.out, by exact ⟨below_drew1 HB.out, GRB.out, A0, c0, BR.out, HC0.out, HR0.out⟩⟩ ?_
  rotate_right
  simp only [List.toList_toArray, List.take_succ_cons, List.take_zero, List.drop_succ_cons, List.drop_zero]
  refine pW.just (b' := ?_) (by decide) hRl (Or.inl ⟨by rfl, ?_⟩) ?_ ?_; rotate_left; (focus (intro w'; go_simp; with_reducible rfl)); (focus (simp only [Act.put, List.setIfInBounds_toArray, List.set_cons_zero, List.set_cons_succ]; try rfl))
  refine pW.turnx (b' := ?_) (d := .int .i64 (numv (red l0).a1.1)) 0 (by decide) (by decide) Try.func76 (by kernel_rfl) rfl (by rfl) rfl (by rfl) (fun W hS hK => ?_) ?_ ?_ ?_
  rotate_left
  · with_reducible refine (Rd.num w W gr l0 false (ph0 hS.2)).mono ?_
    rintro e W' ⟨rfl, hk, hs⟩
    exact ⟨rfl, hk, hk.blk hS.1 NE.out (by simp), hs⟩
  · rfl
  · simp only [Act.put, List.setIfInBounds_toArray, List.set_cons_zero, List.set_cons_succ]
    try rfl
  refine pW.just (b' := ?_) (by decide) hRl (Or.inl ⟨by rfl, ?_⟩) ?_ ?_; rotate_left; (focus (intro w'; go_simp; with_reducible rfl)); (focus (simp only [Act.put, List.setIfInBounds_toArray, List.set_cons_zero, List.set_cons_succ]; try rfl))
  refine pW.turnx (b' := ?_) (d := .int .i64 (numv (red l0).a2.1)) 1 (by decide) (by decide) Try.func76 (by kernel_rfl) rfl (by rfl) rfl (by rfl) (fun W hS hK => ?_) ?_ ?_ ?_
  rotate_left
  · with_reducible refine (Rd.num w W gr _ _ hS.2).mono ?_
    rintro e W' ⟨rfl, hk, hs⟩
    exact ⟨rfl, hk, hk.blk hS.1 NE.out (by simp), hs⟩
  · rfl
  · simp only [Act.put, List.setIfInBounds_toArray, List.set_cons_zero, List.set_cons_succ]
    try rfl
  refine pW.just (b' := ?_) (by decide) hRl (Or.inl ⟨by rfl, ?_⟩) ?_ ?_; rotate_left; (focus (intro w'; go_simp; with_reducible rfl)); (focus (simp only [Act.put, List.setIfInBounds_toArray, List.set_cons_zero, List.set_cons_succ]; try rfl))
  refine pW.turn (b' := ?_) 2 (by decide) (by decide) Try.func77 (by kernel_rfl) rfl (by rfl) rfl (by rfl) (fun W hS hK => ?_) ?_ ?_
  rotate_left
  · with_reducible refine (Rd.long w W gr _ _ hS.2 (ph_mem HX0.out 2)).mono ?_
    rintro e W' ⟨v, rfl, hk, hs, hr⟩
    exact ⟨v, rfl, own_g hS.2 GRB.out hr, hk, hk.blk hS.1 NE.out (by simp), hs⟩
  · intro v
    simp only [Act.put, List.setIfInBounds_toArray, List.set_cons_zero, List.set_cons_succ]
    exact rfl
  intro v5
  refine pW.conv (b' := ?_) (xs := (red l0).a3.1) (by decide) hRl (by rfl) rfl (by rfl) Try.underlying22 Try.underlying5 Try.underlying9 ?_ ?_ ?_ ?_; rotate_left; (focus rfl); (focus (intro k W hS hK; exact Row.of_R (hK.1 (by kernel_rfl)))); (focus (simp only [Act.put, List.setIfInBounds_toArray, List.set_cons_zero, List.set_cons_succ]; try rfl))
  refine pW.just (b' := ?_) (by decide) hRl (Or.inl ⟨by rfl, ?_⟩) ?_ ?_; rotate_left; (focus (intro w'; go_simp; with_reducible rfl)); (focus (simp only [Act.put, List.setIfInBounds_toArray, List.set_cons_zero, List.set_cons_succ]; try rfl))
  refine pW.turn (b' := ?_) 3 (by decide) (by decide) Try.func77 (by kernel_rfl) rfl (by rfl) rfl (by rfl) (fun W hS hK => ?_) ?_ ?_
  rotate_left
  · with_reducible refine (Rd.long w W gr _ _ hS.2 (ph_mem HX0.out 3)).mono ?_
    rintro e W' ⟨v, rfl, hk, hs, hr⟩
    exact ⟨v, rfl, own_g hS.2 GRB.out hr, hk, hk.blk hS.1 NE.out (by simp), hs⟩
  · intro v
    simp only [Act.put, List.setIfInBounds_toArray, List.set_cons_zero, List.set_cons_succ]
    exact rfl
  intro v8
  refine pW.conv (b' := ?_) (xs := (red l0).a4.1) (by decide) hRl (by rfl) rfl (by rfl) Try.underlying22 Try.underlying5 Try.underlying9 ?_ ?_ ?_ ?_; rotate_left; (focus rfl); (focus (intro k W hS hK; exact Row.of_R (hK.1 (by kernel_rfl)))); (focus (simp only [Act.put, List.setIfInBounds_toArray, List.set_cons_zero, List.set_cons_succ]; try rfl))
  refine pW.just (b' := ?_) (by decide) hRl (Or.inl ⟨by rfl, ?_⟩) ?_ ?_; rotate_left; (focus (intro w'; go_simp; with_reducible rfl)); (focus (simp only [Act.put, List.setIfInBounds_toArray, List.set_cons_zero, List.set_cons_succ]; try rfl))
  refine pW.turn (b' := ?_) 4 (by decide) (by decide) Try.func77 (by kernel_rfl) rfl (by rfl) rfl (by rfl) (fun W hS hK => ?_) ?_ ?_
  rotate_left
  · with_reducible refine (Rd.long w W gr _ _ hS.2 (ph_mem HX0.out 4)).mono ?_
    rintro e W' ⟨v, rfl, hk, hs, hr⟩
    exact ⟨v, rfl, own_g hS.2 GRB.out hr, hk, hk.blk hS.1 NE.out (by simp), hs⟩
  · intro v
    simp only [Act.put, List.setIfInBounds_toArray, List.set_cons_zero, List.set_cons_succ]
    exact rfl
  intro v11
  refine pW.told (b' := ?_) (by decide) ?_ (fun k W hS hK K hKK => ?_) ?_
  rotate_left
  · intro v
    simp only [Act.put, List.setIfInBounds_toArray, List.set_cons_zero, List.set_cons_succ]
    exact rfl
  · have h11 := hK.1 (by kernel_rfl)
    obtain ⟨A, c, e11, hc, hC⟩ := Kd.R_reads h11
    subst e11
    refine step_yield (c := .agg #[.int .i64 (numv (red l0).a1.1), .string (strOfNums (red l0).a3.1), .int .i64 (numv (red l0).a2.1), .string (strOfNums (red l0).a4.1), .slice A (red l0).a5.1.length c]) (by rfl) (by go_simp; try with_reducible rfl) (hKK _ _ ⟨_, rfl, h11⟩ (hRl W) hS)
  intro v12
  refine pW.told (b' := ?_) (by decide) ?_ (fun k W hS hK K hKK => ?_) ?_
  rotate_left
  · intro v
    simp only [Act.put, List.setIfInBounds_toArray, List.set_cons_zero, List.set_cons_succ]
    exact rfl
  · ((refine box_step ?hg (N := 7) ?hd (cs := #[.int .i64 0, .string ⟨#[]⟩, .int .i64 0, .string ⟨#[]⟩, .slice none 0 0]) (t := 24) ?hr ?_); (case hd => rfl); (case hg => rfl); (case hr => first | (go_simp; done) | (go_simp; rfl)); intro g2 hg W2 hbox hb; exact hKK _ _ ⟨g2, rfl, (by rw [hg]; exact hS.2.below.size), hbox, (by have := blk_lt hS.1; omega), (by obtain ⟨_, _, h_, _⟩ := hS.2.blk; have := blk_lt h_; omega)⟩ (KeepBut.of_below hb gr none) ⟨blk_below hS.1 hb, hS.2.next hb⟩)
  intro v13
  intro W hS hA
  obtain ⟨⟨ge, e13, hge, hblk, hne, hner⟩, ⟨u, e12, hu⟩, _⟩ := hA
  subst e13
  subst e12
  obtain ⟨Au, cu, eu, hcu, hCu⟩ := Kd.R_reads hu
  subst eu
  obtain ⟨hSb, Ar, cr, hblr, hcr, hCr⟩ : Below w.heap.size w W ∧ ∃ A c, W.heap[gr]? = some (.cells #[.slice A (red l0).a5.2.1.length c, .bool (red l0).a5.2.2] 95 (0, 0)) ∧ (red l0).a5.2.1.length ≤ c ∧ Kd.C (Kd.int .u8) w A (red l0).a5.2.1.length (red l0).a5.2.1 := ⟨hS.2.below, hS.2.blk⟩
  clear HB BK BR
  have HB := Aside0.mk hSb
  have BK := Aside0.mk hS.1
  have BR := Aside0.mk hblr
  have BE := Aside0.mk hblk
  have HU := Aside0.mk hu
  have HCU := Aside0.mk hCu
  have HDU := Aside0.mk hcu
  have GE2 := Aside0.mk hge
  have NE2 := Aside0.mk hne
  have NE3 := Aside0.mk hner
  have ne1 := NE.out
  have ne2 := NE2.out
  have ne3 := NE3.out
  have ne4 := NE.out.symm
  have ne5 := NE2.out.symm
  have ne6 := NE3.out.symm
  clear hS hge hblk hne hner hu hcu hCu hSb hblr hcr hCr
  have n1_ := Aside0.mk (Kd.R_types (Kd.R_types HU.out BE.out (by decide)) BK.out (by decide))
  clear HU
  have HU := n1_
  clear n1_
  have h := HH.out
  clear HH
  obtain ⟨sh, hsh⟩ : ∃ s, s = (red l0).a5.2.2 := ⟨_, rfl⟩
  rw [← hsh] at h
  rw [← hsh] at BR
  clear hsh
  cases sh
  · rw [if_neg (by decide)] at h
    obtain ⟨q, hmay, h⟩ := Option.bind_eq_some_iff.mp h
    have HMAY := Aside0.mk hmay
    clear hmay
    cases q
    · rw [if_neg (by decide)] at h
      simp only [Option.some.injEq, Prod.mk.injEq] at h
      obtain ⟨rfl, rfl, rfl, rfl, rfl, rfl⟩ := h
      have az0 := (blk_cell BK.out 0).trans rfl
      have af0 := blk_frozen BK.out 0
      have az1 := (blk_cell BK.out 1).trans rfl
      have af1 := blk_frozen BK.out 1
      have az2 := (blk_cell BK.out 2).trans rfl
      have af2 := blk_frozen BK.out 2
      have az3 := (blk_cell BK.out 3).trans rfl
      have af3 := blk_frozen BK.out 3
      have az4 := (blk_cell BK.out 4).trans rfl
      have af4 := blk_frozen BK.out 4
      have bz0 := (blk_cell BE.out 0).trans rfl
      have bf0 := blk_frozen BE.out 0
      have bz1 := (blk_cell BE.out 1).trans rfl
      have bf1 := blk_frozen BE.out 1
      have bz2 := (blk_cell BE.out 2).trans rfl
      have bf2 := blk_frozen BE.out 2
      have bz3 := (blk_cell BE.out 3).trans rfl
      have bf3 := blk_frozen BE.out 3
      have bz4 := (blk_cell BE.out 4).trans rfl
      have bf4 := blk_frozen BE.out 4
      have cz0 := (blk_cell BR.out 0).trans rfl
      have cf0 := blk_frozen BR.out 0
      have cz1 := (blk_cell BR.out 1).trans rfl
      have cf1 := blk_frozen BR.out 1
      go_wp2_with (first | (go_at_call 22; (with_reducible refine (event_May.calls _ _ _ _ _ _ (red l0).a5.1 _ _ ?s1 ?s2 HMAY.out).mono ?_); (case s1 => exact own_C (base := w.heap.size) (ok := fun k => ((w.heap.size ≤ k ∧ k ≠ gr) ∧ k ≠ ge) ∧ k ≠ gb) (c := cu) (by repeat (first | (with_reducible exact HU.out) | (with_reducible refine Kd.R_far (p := ⟨ge, _, none⟩) ?_ (fun k hk => hk.1.2) _)))); (case s2 => exact HDU.out); rintro e w5 ⟨rfl, hb_⟩; have n1_ := Aside0.mk (below_step (by repeat (with_reducible first | exact HB.out | apply pw_below_drewN | refine below_set ?_ GE2.out | refine below_set ?_ GE.out)) hb_); have n2_ := Aside0.mk (blk_below (g := gb) (o := .cells #[.int .i64 0, .string ⟨#[]⟩, .int .i64 0, .string ⟨#[]⟩, .slice none 0 0] 24 (0, 0)) (by refine blk_far ?_ NE2.out _; refine blk_far ?_ NE2.out _; refine blk_far ?_ NE2.out _; refine blk_far ?_ NE2.out _; refine blk_far ?_ NE2.out _; exact BK.out) hb_); have n3_ := Aside0.mk (blk_below (g := ge) (o := .cells #[.int .i64 (numv (red l0).a1.1), .string (strOfNums (red l0).a3.1), .int .i64 (numv (red l0).a2.1), .string (strOfNums (red l0).a4.1), .slice Au (red l0).a5.1.length cu] 24 (0, 0)) (by refine blk_put (cs := #[.int .i64 (numv (red l0).a1.1), .string (strOfNums (red l0).a3.1), .int .i64 (numv (red l0).a2.1), .string (strOfNums (red l0).a4.1), .slice none 0 0]) ?_ 4 _ rfl; refine blk_put (cs := #[.int .i64 (numv (red l0).a1.1), .string (strOfNums (red l0).a3.1), .int .i64 (numv (red l0).a2.1), .string ⟨#[]⟩, .slice none 0 0]) ?_ 3 _ rfl; refine blk_put (cs := #[.int .i64 (numv (red l0).a1.1), .string (strOfNums (red l0).a3.1), .int .i64 0, .string ⟨#[]⟩, .slice none 0 0]) ?_ 2 _ rfl; refine blk_put (cs := #[.int .i64 (numv (red l0).a1.1), .string ⟨#[]⟩, .int .i64 0, .string ⟨#[]⟩, .slice none 0 0]) ?_ 1 _ rfl; refine blk_put (cs := #[.int .i64 0, .string ⟨#[]⟩, .int .i64 0, .string ⟨#[]⟩, .slice none 0 0]) ?_ 0 _ rfl; exact BE.out) hb_); have n4_ := Aside0.mk (Kd.R_below (show Kd.R (Kd.int .u8) 5 _ w.heap.size (fun k => ((w.heap.size ≤ k ∧ k ≠ gr) ∧ k ≠ ge) ∧ k ≠ gb) (.slice Au (red l0).a5.1.length cu) (red l0).a5.1 from (by repeat (first | (with_reducible exact HU.out) | (with_reducible refine Kd.R_far (p := ⟨ge, _, none⟩) ?_ (fun k hk => hk.1.2) _)))) hb_); clear HB BK BE HU; have HB := n1_; have BK := n2_; have BE := n3_; have HU := n4_; clear n1_ n2_ n3_ n4_ hb_; have maz0 := (blk_cell BK.out 0).trans rfl; have maf0 := blk_frozen BK.out 0; have maz1 := (blk_cell BK.out 1).trans rfl; have maf1 := blk_frozen BK.out 1; have maz2 := (blk_cell BK.out 2).trans rfl; have maf2 := blk_frozen BK.out 2; have maz3 := (blk_cell BK.out 3).trans rfl; have maf3 := blk_frozen BK.out 3; have maz4 := (blk_cell BK.out 4).trans rfl; have maf4 := blk_frozen BK.out 4; have mbz0 := (blk_cell BE.out 0).trans rfl; have mbf0 := blk_frozen BE.out 0; have mbz1 := (blk_cell BE.out 1).trans rfl; have mbf1 := blk_frozen BE.out 1; have mbz2 := (blk_cell BE.out 2).trans rfl; have mbf2 := blk_frozen BE.out 2; have mbz3 := (blk_cell BE.out 3).trans rfl; have mbf3 := blk_frozen BE.out 3; have mbz4 := (blk_cell BE.out 4).trans rfl; have mbf4 := blk_frozen BE.out 4))
      refine bodyPost_ret (results_ct rfl _ _ gb 24 #[.int .i64 0, .string ⟨#[]⟩, .int .i64 0, .string ⟨#[]⟩, .slice none 0 0] (0, 0) _ rfl (by refine blk_put (cs := #[.int .i64 0, .string ⟨#[]⟩, .int .i64 0, .string ⟨#[]⟩, .slice none 0 0]) ?_ 4 _ rfl; refine blk_put (cs := #[.int .i64 0, .string ⟨#[]⟩, .int .i64 0, .string ⟨#[]⟩, .slice none 0 0]) ?_ 3 _ rfl; refine blk_put (cs := #[.int .i64 0, .string ⟨#[]⟩, .int .i64 0, .string ⟨#[]⟩, .slice none 0 0]) ?_ 2 _ rfl; refine blk_put (cs := #[.int .i64 0, .string ⟨#[]⟩, .int .i64 0, .string ⟨#[]⟩, .slice none 0 0]) ?_ 1 _ rfl; refine blk_put (cs := #[.int .i64 0, .string ⟨#[]⟩, .int .i64 0, .string ⟨#[]⟩, .slice none 0 0]) ?_ 0 _ rfl; exact BK.out) Try.underlying24 rfl (by kernel_rfl)) rfl ?_
      exact ⟨_, rfl, Kd.R_nil _ _ _ _ _, (by repeat (with_reducible first | exact HB.out | apply pw_below_drewN | refine below_set ?_ GE2.out | refine below_set ?_ GE.out))⟩
    · rw [if_pos rfl] at h
      obtain ⟨b, hput, hn⟩ := Option.bind_eq_some_iff.mp h
      clear h
      obtain ⟨q2, heq, h⟩ := Option.bind_eq_some_iff.mp hn
      clear hn
      have HPUT := Aside0.mk hput
      have HEQ := Aside0.mk heq
      clear hput heq
      cases q2
      · rw [if_neg (by decide)] at h
        simp only [Option.some.injEq, Prod.mk.injEq] at h
        obtain ⟨rfl, rfl, rfl, rfl, rfl, rfl⟩ := h
        have az0 := (blk_cell BK.out 0).trans rfl
        have af0 := blk_frozen BK.out 0
        have az1 := (blk_cell BK.out 1).trans rfl
        have af1 := blk_frozen BK.out 1
        have az2 := (blk_cell BK.out 2).trans rfl
        have af2 := blk_frozen BK.out 2
        have az3 := (blk_cell BK.out 3).trans rfl
        have af3 := blk_frozen BK.out 3
        have az4 := (blk_cell BK.out 4).trans rfl
        have af4 := blk_frozen BK.out 4
        have bz0 := (blk_cell BE.out 0).trans rfl
        have bf0 := blk_frozen BE.out 0
        have bz1 := (blk_cell BE.out 1).trans rfl
        have bf1 := blk_frozen BE.out 1
        have bz2 := (blk_cell BE.out 2).trans rfl
        have bf2 := blk_frozen BE.out 2
        have bz3 := (blk_cell BE.out 3).trans rfl
        have bf3 := blk_frozen BE.out 3
        have bz4 := (blk_cell BE.out 4).trans rfl
        have bf4 := blk_frozen BE.out 4
        have cz0 := (blk_cell BR.out 0).trans rfl
        have cf0 := blk_frozen BR.out 0
        have cz1 := (blk_cell BR.out 1).trans rfl
        have cf1 := blk_frozen BR.out 1
        go_wp2_with (first | (go_at_call 22; (with_reducible refine (event_May.calls _ _ _ _ _ _ (red l0).a5.1 _ _ ?s1 ?s2 HMAY.out).mono ?_); (case s1 => exact own_C (base := w.heap.size) (ok := fun k => ((w.heap.size ≤ k ∧ k ≠ gr) ∧ k ≠ ge) ∧ k ≠ gb) (c := cu) (by repeat (first | (with_reducible exact HU.out) | (with_reducible refine Kd.R_far (p := ⟨ge, _, none⟩) ?_ (fun k hk => hk.1.2) _)))); (case s2 => exact HDU.out); rintro e w5 ⟨rfl, hb_⟩; have n1_ := Aside0.mk (below_step (by repeat (with_reducible first | exact HB.out | apply pw_below_drewN | refine below_set ?_ GE2.out | refine below_set ?_ GE.out)) hb_); have n2_ := Aside0.mk (blk_below (g := gb) (o := .cells #[.int .i64 0, .string ⟨#[]⟩, .int .i64 0, .string ⟨#[]⟩, .slice none 0 0] 24 (0, 0)) (by refine blk_far ?_ NE2.out _; refine blk_far ?_ NE2.out _; refine blk_far ?_ NE2.out _; refine blk_far ?_ NE2.out _; refine blk_far ?_ NE2.out _; exact BK.out) hb_); have n3_ := Aside0.mk (blk_below (g := ge) (o := .cells #[.int .i64 (numv (red l0).a1.1), .string (strOfNums (red l0).a3.1), .int .i64 (numv (red l0).a2.1), .string (strOfNums (red l0).a4.1), .slice Au (red l0).a5.1.length cu] 24 (0, 0)) (by refine blk_put (cs := #[.int .i64 (numv (red l0).a1.1), .string (strOfNums (red l0).a3.1), .int .i64 (numv (red l0).a2.1), .string (strOfNums (red l0).a4.1), .slice none 0 0]) ?_ 4 _ rfl; refine blk_put (cs := #[.int .i64 (numv (red l0).a1.1), .string (strOfNums (red l0).a3.1), .int .i64 (numv (red l0).a2.1), .string ⟨#[]⟩, .slice none 0 0]) ?_ 3 _ rfl; refine blk_put (cs := #[.int .i64 (numv (red l0).a1.1), .string (strOfNums (red l0).a3.1), .int .i64 0, .string ⟨#[]⟩, .slice none 0 0]) ?_ 2 _ rfl; refine blk_put (cs := #[.int .i64 (numv (red l0).a1.1), .string ⟨#[]⟩, .int .i64 0, .string ⟨#[]⟩, .slice none 0 0]) ?_ 1 _ rfl; refine blk_put (cs := #[.int .i64 0, .string ⟨#[]⟩, .int .i64 0, .string ⟨#[]⟩, .slice none 0 0]) ?_ 0 _ rfl; exact BE.out) hb_); have n4_ := Aside0.mk (Kd.R_below (show Kd.R (Kd.int .u8) 5 _ w.heap.size (fun k => ((w.heap.size ≤ k ∧ k ≠ gr) ∧ k ≠ ge) ∧ k ≠ gb) (.slice Au (red l0).a5.1.length cu) (red l0).a5.1 from (by repeat (first | (with_reducible exact HU.out) | (with_reducible refine Kd.R_far (p := ⟨ge, _, none⟩) ?_ (fun k hk => hk.1.2) _)))) hb_); clear HB BK BE HU; have HB := n1_; have BK := n2_; have BE := n3_; have HU := n4_; clear n1_ n2_ n3_ n4_ hb_; have maz0 := (blk_cell BK.out 0).trans rfl; have maf0 := blk_frozen BK.out 0; have maz1 := (blk_cell BK.out 1).trans rfl; have maf1 := blk_frozen BK.out 1; have maz2 := (blk_cell BK.out 2).trans rfl; have maf2 := blk_frozen BK.out 2; have maz3 := (blk_cell BK.out 3).trans rfl; have maf3 := blk_frozen BK.out 3; have maz4 := (blk_cell BK.out 4).trans rfl; have maf4 := blk_frozen BK.out 4; have mbz0 := (blk_cell BE.out 0).trans rfl; have mbf0 := blk_frozen BE.out 0; have mbz1 := (blk_cell BE.out 1).trans rfl; have mbf1 := blk_frozen BE.out 1; have mbz2 := (blk_cell BE.out 2).trans rfl; have mbf2 := blk_frozen BE.out 2; have mbz3 := (blk_cell BE.out 3).trans rfl; have mbf3 := blk_frozen BE.out 3; have mbz4 := (blk_cell BE.out 4).trans rfl; have mbf4 := blk_frozen BE.out 4) | (go_at_call 24; (with_reducible refine (event_Put.calls k _ _ _ _ _ _ (red l0).a5.1 _ _ ?s1 ?s2 HPUT.out).mono ?_); (case s1 => exact (Kd.R_reads' HU.out).2.2); (case s2 => exact HDU.out); rintro e w6 ⟨v5, rfl, ho_, hb_⟩; have n1_ := Aside0.mk (below_step HB.out hb_); have n2_ := Aside0.mk (blk_below BK.out hb_); have n3_ := Aside0.mk (blk_below BE.out hb_); have n4_ := Aside0.mk (Kd.R_below HU.out hb_); clear HB BK BE HU; have HB := n1_; have BK := n2_; have BE := n3_; have HU := n4_; clear n1_ n2_ n3_ n4_ hb_; obtain ⟨A9, c9, e9, hc9, hC9⟩ := Kd.R_reads ho_; subst e9; have HC9 := Aside0.mk hC9; have HD9 := Aside0.mk hc9; clear ho_ hC9 hc9; have paz0 := (blk_cell BK.out 0).trans rfl; have paf0 := blk_frozen BK.out 0; have paz1 := (blk_cell BK.out 1).trans rfl; have paf1 := blk_frozen BK.out 1; have paz2 := (blk_cell BK.out 2).trans rfl; have paf2 := blk_frozen BK.out 2; have paz3 := (blk_cell BK.out 3).trans rfl; have paf3 := blk_frozen BK.out 3; have paz4 := (blk_cell BK.out 4).trans rfl; have paf4 := blk_frozen BK.out 4; have pbz0 := (blk_cell BE.out 0).trans rfl; have pbf0 := blk_frozen BE.out 0; have pbz1 := (blk_cell BE.out 1).trans rfl; have pbf1 := blk_frozen BE.out 1; have pbz2 := (blk_cell BE.out 2).trans rfl; have pbf2 := blk_frozen BE.out 2; have pbz3 := (blk_cell BE.out 3).trans rfl; have pbf3 := blk_frozen BE.out 3; have pbz4 := (blk_cell BE.out 4).trans rfl; have pbf4 := blk_frozen BE.out 4) | (go_at_call 78; (with_reducible refine (bytes_Equal.calls _ _ _ _ _ l0 _ _ ?side1 ?side2 ?side3 ?side4 HEQ.out).mono ?_); (case side1 => exact HC9.out); (case side2 => exact HD9.out); (case side3 => exact Kd.C_below HR0.out HB.out); (case side4 => exact HC0.out); rintro e w7 ⟨rfl, ⟨nd, rfl⟩⟩))
        refine bodyPost_ret (results_ct rfl _ _ gb 24 #[.int .i64 0, .string ⟨#[]⟩, .int .i64 0, .string ⟨#[]⟩, .slice none 0 0] (0, 0) _ rfl (by refine blk_put (cs := #[.int .i64 0, .string ⟨#[]⟩, .int .i64 0, .string ⟨#[]⟩, .slice none 0 0]) ?_ 4 _ rfl; refine blk_put (cs := #[.int .i64 0, .string ⟨#[]⟩, .int .i64 0, .string ⟨#[]⟩, .slice none 0 0]) ?_ 3 _ rfl; refine blk_put (cs := #[.int .i64 0, .string ⟨#[]⟩, .int .i64 0, .string ⟨#[]⟩, .slice none 0 0]) ?_ 2 _ rfl; refine blk_put (cs := #[.int .i64 0, .string ⟨#[]⟩, .int .i64 0, .string ⟨#[]⟩, .slice none 0 0]) ?_ 1 _ rfl; refine blk_put (cs := #[.int .i64 0, .string ⟨#[]⟩, .int .i64 0, .string ⟨#[]⟩, .slice none 0 0]) ?_ 0 _ rfl; exact blk_drewN BK.out _) Try.underlying24 rfl (by kernel_rfl)) rfl ?_
        exact ⟨_, rfl, Kd.R_nil _ _ _ _ _, (by repeat (with_reducible first | exact HB.out | apply pw_below_drewN | refine below_set ?_ GE2.out | refine below_set ?_ GE.out))⟩
      · rw [if_pos rfl] at h
        simp only [Option.some.injEq, Prod.mk.injEq] at h
        obtain ⟨rfl, rfl, rfl, rfl, rfl, rfl⟩ := h
        have az0 := (blk_cell BK.out 0).trans rfl
        have af0 := blk_frozen BK.out 0
        have az1 := (blk_cell BK.out 1).trans rfl
        have af1 := blk_frozen BK.out 1
        have az2 := (blk_cell BK.out 2).trans rfl
        have af2 := blk_frozen BK.out 2
        have az3 := (blk_cell BK.out 3).trans rfl
        have af3 := blk_frozen BK.out 3
        have az4 := (blk_cell BK.out 4).trans rfl
        have af4 := blk_frozen BK.out 4
        have bz0 := (blk_cell BE.out 0).trans rfl
        have bf0 := blk_frozen BE.out 0
        have bz1 := (blk_cell BE.out 1).trans rfl
        have bf1 := blk_frozen BE.out 1
        have bz2 := (blk_cell BE.out 2).trans rfl
        have bf2 := blk_frozen BE.out 2
        have bz3 := (blk_cell BE.out 3).trans rfl
        have bf3 := blk_frozen BE.out 3
        have bz4 := (blk_cell BE.out 4).trans rfl
        have bf4 := blk_frozen BE.out 4
        have cz0 := (blk_cell BR.out 0).trans rfl
        have cf0 := blk_frozen BR.out 0
        have cz1 := (blk_cell BR.out 1).trans rfl
        have cf1 := blk_frozen BR.out 1
        go_wp2_with (first | (go_at_call 22; (with_reducible refine (event_May.calls _ _ _ _ _ _ (red l0).a5.1 _ _ ?s1 ?s2 HMAY.out).mono ?_); (case s1 => exact own_C (base := w.heap.size) (ok := fun k => ((w.heap.size ≤ k ∧ k ≠ gr) ∧ k ≠ ge) ∧ k ≠ gb) (c := cu) (by repeat (first | (with_reducible exact HU.out) | (with_reducible refine Kd.R_far (p := ⟨ge, _, none⟩) ?_ (fun k hk => hk.1.2) _)))); (case s2 => exact HDU.out); rintro e w5 ⟨rfl, hb_⟩; have n1_ := Aside0.mk (below_step (by repeat (with_reducible first | exact HB.out | apply pw_below_drewN | refine below_set ?_ GE2.out | refine below_set ?_ GE.out)) hb_); have n2_ := Aside0.mk (blk_below (g := gb) (o := .cells #[.int .i64 0, .string ⟨#[]⟩, .int .i64 0, .string ⟨#[]⟩, .slice none 0 0] 24 (0, 0)) (by refine blk_far ?_ NE2.out _; refine blk_far ?_ NE2.out _; refine blk_far ?_ NE2.out _; refine blk_far ?_ NE2.out _; refine blk_far ?_ NE2.out _; exact BK.out) hb_); have n3_ := Aside0.mk (blk_below (g := ge) (o := .cells #[.int .i64 (numv (red l0).a1.1), .string (strOfNums (red l0).a3.1), .int .i64 (numv (red l0).a2.1), .string (strOfNums (red l0).a4.1), .slice Au (red l0).a5.1.length cu] 24 (0, 0)) (by refine blk_put (cs := #[.int .i64 (numv (red l0).a1.1), .string (strOfNums (red l0).a3.1), .int .i64 (numv (red l0).a2.1), .string (strOfNums (red l0).a4.1), .slice none 0 0]) ?_ 4 _ rfl; refine blk_put (cs := #[.int .i64 (numv (red l0).a1.1), .string (strOfNums (red l0).a3.1), .int .i64 (numv (red l0).a2.1), .string ⟨#[]⟩, .slice none 0 0]) ?_ 3 _ rfl; refine blk_put (cs := #[.int .i64 (numv (red l0).a1.1), .string (strOfNums (red l0).a3.1), .int .i64 0, .string ⟨#[]⟩, .slice none 0 0]) ?_ 2 _ rfl; refine blk_put (cs := #[.int .i64 (numv (red l0).a1.1), .string ⟨#[]⟩, .int .i64 0, .string ⟨#[]⟩, .slice none 0 0]) ?_ 1 _ rfl; refine blk_put (cs := #[.int .i64 0, .string ⟨#[]⟩, .int .i64 0, .string ⟨#[]⟩, .slice none 0 0]) ?_ 0 _ rfl; exact BE.out) hb_); have n4_ := Aside0.mk (Kd.R_below (show Kd.R (Kd.int .u8) 5 _ w.heap.size (fun k => ((w.heap.size ≤ k ∧ k ≠ gr) ∧ k ≠ ge) ∧ k ≠ gb) (.slice Au (red l0).a5.1.length cu) (red l0).a5.1 from (by repeat (first | (with_reducible exact HU.out) | (with_reducible refine Kd.R_far (p := ⟨ge, _, none⟩) ?_ (fun k hk => hk.1.2) _)))) hb_); clear HB BK BE HU; have HB := n1_; have BK := n2_; have BE := n3_; have HU := n4_; clear n1_ n2_ n3_ n4_ hb_; have maz0 := (blk_cell BK.out 0).trans rfl; have maf0 := blk_frozen BK.out 0; have maz1 := (blk_cell BK.out 1).trans rfl; have maf1 := blk_frozen BK.out 1; have maz2 := (blk_cell BK.out 2).trans rfl; have maf2 := blk_frozen BK.out 2; have maz3 := (blk_cell BK.out 3).trans rfl; have maf3 := blk_frozen BK.out 3; have maz4 := (blk_cell BK.out 4).trans rfl; have maf4 := blk_frozen BK.out 4; have mbz0 := (blk_cell BE.out 0).trans rfl; have mbf0 := blk_frozen BE.out 0; have mbz1 := (blk_cell BE.out 1).trans rfl; have mbf1 := blk_frozen BE.out 1; have mbz2 := (blk_cell BE.out 2).trans rfl; have mbf2 := blk_frozen BE.out 2; have mbz3 := (blk_cell BE.out 3).trans rfl; have mbf3 := blk_frozen BE.out 3; have mbz4 := (blk_cell BE.out 4).trans rfl; have mbf4 := blk_frozen BE.out 4) | (go_at_call 24; (with_reducible refine (event_Put.calls k _ _ _ _ _ _ (red l0).a5.1 _ _ ?s1 ?s2 HPUT.out).mono ?_); (case s1 => exact (Kd.R_reads' HU.out).2.2); (case s2 => exact HDU.out); rintro e w6 ⟨v5, rfl, ho_, hb_⟩; have n1_ := Aside0.mk (below_step HB.out hb_); have n2_ := Aside0.mk (blk_below BK.out hb_); have n3_ := Aside0.mk (blk_below BE.out hb_); have n4_ := Aside0.mk (Kd.R_below HU.out hb_); clear HB BK BE HU; have HB := n1_; have BK := n2_; have BE := n3_; have HU := n4_; clear n1_ n2_ n3_ n4_ hb_; obtain ⟨A9, c9, e9, hc9, hC9⟩ := Kd.R_reads ho_; subst e9; have HC9 := Aside0.mk hC9; have HD9 := Aside0.mk hc9; clear ho_ hC9 hc9; have paz0 := (blk_cell BK.out 0).trans rfl; have paf0 := blk_frozen BK.out 0; have paz1 := (blk_cell BK.out 1).trans rfl; have paf1 := blk_frozen BK.out 1; have paz2 := (blk_cell BK.out 2).trans rfl; have paf2 := blk_frozen BK.out 2; have paz3 := (blk_cell BK.out 3).trans rfl; have paf3 := blk_frozen BK.out 3; have paz4 := (blk_cell BK.out 4).trans rfl; have paf4 := blk_frozen BK.out 4; have pbz0 := (blk_cell BE.out 0).trans rfl; have pbf0 := blk_frozen BE.out 0; have pbz1 := (blk_cell BE.out 1).trans rfl; have pbf1 := blk_frozen BE.out 1; have pbz2 := (blk_cell BE.out 2).trans rfl; have pbf2 := blk_frozen BE.out 2; have pbz3 := (blk_cell BE.out 3).trans rfl; have pbf3 := blk_frozen BE.out 3; have pbz4 := (blk_cell BE.out 4).trans rfl; have pbf4 := blk_frozen BE.out 4) | (go_at_call 78; (with_reducible refine (bytes_Equal.calls _ _ _ _ _ l0 _ _ ?side1 ?side2 ?side3 ?side4 HEQ.out).mono ?_); (case side1 => exact HC9.out); (case side2 => exact HD9.out); (case side3 => exact Kd.C_below HR0.out HB.out); (case side4 => exact HC0.out); rintro e w7 ⟨rfl, ⟨nd, rfl⟩⟩))
        refine bodyPost_ret (results_ct rfl _ _ gb 24 #[.int .i64 (numv (red l0).a1.1), .string (strOfNums (red l0).a3.1), .int .i64 (numv (red l0).a2.1), .string (strOfNums (red l0).a4.1), .slice Au (red l0).a5.1.length cu] (0, 0) _ rfl (by refine blk_put (cs := #[.int .i64 (numv (red l0).a1.1), .string (strOfNums (red l0).a3.1), .int .i64 (numv (red l0).a2.1), .string (strOfNums (red l0).a4.1), .slice none 0 0]) ?_ 4 _ rfl; refine blk_put (cs := #[.int .i64 (numv (red l0).a1.1), .string (strOfNums (red l0).a3.1), .int .i64 (numv (red l0).a2.1), .string ⟨#[]⟩, .slice none 0 0]) ?_ 3 _ rfl; refine blk_put (cs := #[.int .i64 (numv (red l0).a1.1), .string (strOfNums (red l0).a3.1), .int .i64 0, .string ⟨#[]⟩, .slice none 0 0]) ?_ 2 _ rfl; refine blk_put (cs := #[.int .i64 (numv (red l0).a1.1), .string ⟨#[]⟩, .int .i64 0, .string ⟨#[]⟩, .slice none 0 0]) ?_ 1 _ rfl; refine blk_put (cs := #[.int .i64 0, .string ⟨#[]⟩, .int .i64 0, .string ⟨#[]⟩, .slice none 0 0]) ?_ 0 _ rfl; exact blk_drewN BK.out _) Try.underlying24 rfl (by kernel_rfl)) rfl ?_
        exact ⟨_, rfl, Kd.R_mono (show Kd.R (Kd.int .u8) 5 _ w.heap.size (fun k => ((w.heap.size ≤ k ∧ k ≠ gr) ∧ k ≠ ge) ∧ k ≠ gb) (.slice Au (red l0).a5.1.length cu) (red l0).a5.1 from (by repeat (first | (with_reducible exact HU.out) | (with_reducible refine Kd.R_drewN ?_ _) | (with_reducible refine Kd.R_far (p := ⟨gb, _, none⟩) ?_ (fun k hk => hk.2) _)))) (fun k hk => hk.1.1.1), (by repeat (with_reducible first | exact HB.out | apply pw_below_drewN | refine below_set ?_ GE2.out | refine below_set ?_ GE.out))⟩
  · rw [if_pos rfl] at h
    simp only [Option.some.injEq, Prod.mk.injEq] at h
    obtain ⟨rfl, rfl, rfl, rfl, rfl, rfl⟩ := h
    have az0 := (blk_cell BK.out 0).trans rfl
    have af0 := blk_frozen BK.out 0
    have az1 := (blk_cell BK.out 1).trans rfl
    have af1 := blk_frozen BK.out 1
    have az2 := (blk_cell BK.out 2).trans rfl
    have af2 := blk_frozen BK.out 2
    have az3 := (blk_cell BK.out 3).trans rfl
    have af3 := blk_frozen BK.out 3
    have az4 := (blk_cell BK.out 4).trans rfl
    have af4 := blk_frozen BK.out 4
    have bz0 := (blk_cell BE.out 0).trans rfl
    have bf0 := blk_frozen BE.out 0
    have bz1 := (blk_cell BE.out 1).trans rfl
    have bf1 := blk_frozen BE.out 1
    have bz2 := (blk_cell BE.out 2).trans rfl
    have bf2 := blk_frozen BE.out 2
    have bz3 := (blk_cell BE.out 3).trans rfl
    have bf3 := blk_frozen BE.out 3
    have bz4 := (blk_cell BE.out 4).trans rfl
    have bf4 := blk_frozen BE.out 4
    have cz0 := (blk_cell BR.out 0).trans rfl
    have cf0 := blk_frozen BR.out 0
    have cz1 := (blk_cell BR.out 1).trans rfl
    have cf1 := blk_frozen BR.out 1
    go_wp2_with (fail)
    refine bodyPost_ret (results_ct rfl _ _ gb 24 #[.int .i64 0, .string ⟨#[]⟩, .int .i64 0, .string ⟨#[]⟩, .slice none 0 0] (0, 0) _ rfl (by refine blk_put (cs := #[.int .i64 0, .string ⟨#[]⟩, .int .i64 0, .string ⟨#[]⟩, .slice none 0 0]) ?_ 4 _ rfl; refine blk_put (cs := #[.int .i64 0, .string ⟨#[]⟩, .int .i64 0, .string ⟨#[]⟩, .slice none 0 0]) ?_ 3 _ rfl; refine blk_put (cs := #[.int .i64 0, .string ⟨#[]⟩, .int .i64 0, .string ⟨#[]⟩, .slice none 0 0]) ?_ 2 _ rfl; refine blk_put (cs := #[.int .i64 0, .string ⟨#[]⟩, .int .i64 0, .string ⟨#[]⟩, .slice none 0 0]) ?_ 1 _ rfl; refine blk_put (cs := #[.int .i64 0, .string ⟨#[]⟩, .int .i64 0, .string ⟨#[]⟩, .slice none 0 0]) ?_ 0 _ rfl; refine blk_far ?_ NE2.out _; refine blk_far ?_ NE2.out _; refine blk_far ?_ NE2.out _; refine blk_far ?_ NE2.out _; refine blk_far ?_ NE2.out _; exact BK.out) Try.underlying24 rfl (by kernel_rfl)) rfl ?_
    exact ⟨_, rfl, Kd.R_nil _ _ _ _ _, (by repeat (with_reducible first | exact HB.out | apply pw_below_drewN | refine below_set ?_ GE2.out | refine below_set ?_ GE.out))⟩
end Go.Proofs.Ytfgeffmlfbeodaa.PEventAll
