/- node.Take: which bytes are a node. Bound to this program. -/
import Derived.Test.YtfgeffmlfbeodaaRn
import Derived.Test.YtfgeffmlfbeodaaPNodeBackx3
namespace Go.Proofs.Ytfgeffmlfbeodaa.PNodeBack
open Go Go.RowKit Go.Proofs Go.Proofs.Ytfgeffmlfbeodaa.RG Go.Proofs.Ytfgeffmlfbeodaa.RP Go.Proofs.Ytfgeffmlfbeodaa.Rn Go.Proofs.YtfgeffmlfbeodaaW.PrintWords Go.Proofs.YtfgeffmlfbeodaaW.PrintLast Go.Proofs.YtfgeffmlfbeodaaW.PrintMore
set_option linter.unusedVariables false
set_option linter.unusedSimpArgs false
section
variable {P : Program} {ops : Array Oper} {Q : Exit → Act → World → Prop} {md : Region.Mode} {Rl : World → World → Prop} {ch : List Nat} {S : Nat → World → Prop}
/-- Any operation that turns the state on, by its own step. -/
theorem pW_turng {G : Value → World → Prop} {o : Oper} {rest : List Oper} {sp : List Sp} {i : Nat} {b : Act} {b' : Value → Act} {fs : List (Nat × (World → Prop))} (k0 : Nat) (hnd : ch.Nodup) (h0 : ch[k0]? = some i) (hb : ∀ v, b.put o.dst v = b' v)
    (h1 : ∀ w, S k0 w → Known md o fs w → ∀ K : Act → World → Prop, (∀ v w', G v w' → Rl w w' → S (k0 + 1) w' → K (b.put o.dst v) w') → if Region.wanted o (yielded ops b.tmps) = true then Oper.wp P o b w K NoQ else K (b.put o.dst undef) w)
    (h : ∀ v, pW P md ops ch S Rl Q rest sp (i + 1) (b' v) ((i, G v) :: fs)) : pW P md ops ch S Rl Q (o :: rest) (.ex G :: sp) i b fs := by
  refine ⟨⟨fun k hk' w hS hK K hKK => ?_, fun hn => absurd (List.mem_of_getElem? h0) hn⟩, fun v => by rw [hb v]; exact h v⟩
  have e : k0 = k := (List.getElem?_inj (List.getElem?_eq_some_iff.1 h0).1 hnd).1 (h0.trans hk'.symm)
  subst e
  exact h1 w hS hK K (fun v w' hg hr hs => hKK v w' ⟨hg, hr, hs⟩)
end
/-- What is read of a leaf; of an inner node: so many of them. -/
def tkL : Nat → List Int → Bool → List S87 → List Int × Bool × List S87
  | 0, xs, s, I => (xs, s, I)
  | n + 1, xs, s, I => if s = true then (xs, s, I) else tkL n (lng (lng xs s).2.1 (lng xs s).2.2).2.1 (lng (lng xs s).2.1 (lng xs s).2.2).2.2 (I ++ [⟨(lng xs s).1, (lng (lng xs s).2.1 (lng xs s).2.2).1⟩])
def tkN : Nat → List Int → Bool → List (List Int) → List S90 → List Int × Bool × List (List Int) × List S90
  | 0, xs, s, K, R => (xs, s, K, R)
  | n + 1, xs, s, K, R => if s = true then (xs, s, K, R) else tkN n (txt (txt (lng xs s).2.1 (lng xs s).2.2 8).2.1 (txt (lng xs s).2.1 (lng xs s).2.2 8).2.2 8).2.1 (txt (txt (lng xs s).2.1 (lng xs s).2.2 8).2.1 (txt (lng xs s).2.1 (lng xs s).2.2 8).2.2 8).2.2 (K ++ [(lng xs s).1]) (R ++ [⟨wrap64 (numu (txt (lng xs s).2.1 (lng xs s).2.2 8).1), numu (txt (txt (lng xs s).2.1 (lng xs s).2.2 8).2.1 (txt (lng xs s).2.1 (lng xs s).2.2 8).2.2 8).1⟩])
theorem txt_mem' {xs : List Int} {s : Bool} {n c : Int} (h : c ∈ (txt xs s n).2.1) : c ∈ xs := by
  unfold txt at h
  split at h
  · cases h
  · exact List.mem_of_mem_drop h
theorem num1 {xs : List Int} {s : Bool} (h : ∀ c ∈ xs, 0 ≤ c ∧ c ≤ 255) : 0 ≤ wrap64 (numu (txt xs s 1).1) ∧ wrap64 (numu (txt xs s 1).1) ≤ 255 := by
  have z : wrap64 (numu ([] : List Int)) = 0 := by show wrap64 0 = 0; unfold wrap64; omega
  unfold txt
  split
  · show 0 ≤ wrap64 (numu ([] : List Int)) ∧ wrap64 (numu ([] : List Int)) ≤ 255
    rw [z]; omega
  · cases xs with
    | nil =>
      show 0 ≤ wrap64 (numu ([] : List Int)) ∧ wrap64 (numu ([] : List Int)) ≤ 255
      rw [z]; omega
    | cons c r =>
      have hc := h c (by simp)
      have e : numu ((c :: r).take (1 : Int).toNat) = c := by
        show ustep 0 c = c
        unfold ustep
        rw [Go.IntKind.wrap_u64, Go.IntKind.wrap_u64, Int.emod_eq_of_lt hc.1 (by omega)]
        have := Go.bits_join .u64 64 (by decide) (fun n h0 h1 => by rw [Go.IntKind.wrap_u64]; omega) 8 (0 * 256) c (by omega) (by omega) (by omega) hc.1 (by omega) (by omega)
        simpa using this
      simp only [e]
      unfold wrap64
      omega
theorem txt_mem2 {xs : List Int} {s : Bool} {n : Int} (h : ∀ c ∈ xs, 0 ≤ c ∧ c ≤ 255) : ∀ c ∈ (txt xs s n).2.1, 0 ≤ c ∧ c ≤ 255 := fun c hc => h c (txt_mem' hc)
theorem lng_mem {xs : List Int} {s : Bool} (h : ∀ c ∈ xs, 0 ≤ c ∧ c ≤ 255) : ∀ c ∈ (lng xs s).2.1, 0 ≤ c ∧ c ≤ 255 := txt_mem2 (txt_mem2 h)
theorem R_st {α : Type} {d : Kd α} {e base gr : Nat} {W W' : World} {v : Value} {xs : List α} {w0 : World} {ys : List Int} {sy : Bool} (h : Kd.R d e W base (fun _ => True) v xs) (hS : St w0 gr ys sy W) (ht : ∀ q, q ∈ e :: d.E → q ≠ 125) (hk : KeepBut W W' gr none) : Kd.R d e W' base (fun _ => True) v xs := by
  obtain ⟨A, c, hb, _⟩ := hS.blk
  exact Kd.R_mono (Kd.R_keep (Kd.R_types h hb ht) hk (fun k hk => hk.2)) (fun _ _ => trivial)
theorem St_grown {w0 W W1 : World} {gr : Nat} {ys : List Int} {sy : Bool} {row : Option Nat} (h : St w0 gr ys sy W) (hb : Below w0.heap.size w0 W1) (hg : W.grownBy W1 row) (hne : ∀ {cells : Array Value}, W.heap[gr]? = some (.cells cells 125 (0, 0)) → some gr ≠ row) : St w0 gr ys sy W1 := by
  obtain ⟨h1, h2, A, c, h3, h4⟩ := h
  exact ⟨hb, h2, A, c, blk_grown h3 hg (hne h3), h4⟩
theorem Kd.OwnRow_of {α : Type} {d : Kd α} {e base : Nat} {ok : Nat → Prop} {W : World} {v : Value} {xs : List α} (h : Kd.R d e W base ok v xs) : ∃ A c, v = .slice A xs.length c ∧ xs.length ≤ c ∧ ReadsRow (d.M W base (fun k => ok k ∧ some k ≠ v.ownBlock)) d.sz W A xs.length xs := OwnRow.reads h.2
theorem St_set {w0 w : World} {g g8 : Nat} {xs : List Int} {s : Bool} (h : St w0 g xs s w) (hne : g ≠ g8) (hg : w0.heap.size ≤ g8) (o : Nat) (v : Value) : St w0 g xs s (w.setCell ⟨g8, o, none⟩ v) := by
  obtain ⟨h1, h2, A, c, h3, h4⟩ := h
  exact ⟨below_set h1 hg, h2, A, c, blk_far h3 hne _, h4⟩

/-- How far a leaf's item is read. -/
def phL (ys : List Int) : Nat → List Int × Bool
  | 0 => (ys, false)
  | 1 => (lng ys false).2
  | _ => (lng (lng ys false).2.1 (lng ys false).2.2).2
theorem ph0 {w W : World} {g : Nat} {ys : List Int} (h : St w g (phL ys 0).1 (phL ys 0).2 W) : St w g ys false W := h
theorem ph1 {w W : World} {g : Nat} {ys : List Int} (h : St w g (phL ys 1).1 (phL ys 1).2 W) : St w g (lng ys false).2.1 (lng ys false).2.2 W := h
set_option maxHeartbeats 4000000 in
set_option maxRecDepth 100000 in
theorem node_Take.leaf (k : Nat) (A0 : Option Addr) (c0 : Nat) (l0 : List Int) (w : World) (hr0 : Kd.C (Kd.int .u8) w A0 l0.length l0) (hc0 : l0.length ≤ c0) (kind cnt : Int)
    (x1 : List Int) (s1 : Bool) (x2 : List Int) (s2 : Bool) (hk : numu (txt l0 false 1).1 = kind) (h1 : (txt l0 false 1).2 = (x1, s1)) (hn : wrap64 (numu (txt x1 s1 1).1) = cnt) (h2 : (txt x1 s1 1).2 = (x2, s2)) (hcnt : 0 ≤ cnt ∧ cnt ≤ 255) (hlf : (kind == 76) = true)
    (xs : List Int) (s : Bool) (I : List S87) (ht : tkL cnt.toNat x2 s2 [] = (xs, s, I)) (hb0 : ∀ c ∈ l0, 0 ≤ c ∧ c ≤ 255) (ok : Bool) (hres : (s = true ∧ ok = false) ∨ (s = false ∧ ∃ q, node_May.f k true I [] [] = some q ∧ ((q = false ∧ ok = false) ∨ (q = true ∧ ∃ b, node_Put.f k true I [] [] = some b ∧ bytes_Equal.f b l0 = some ok)))) :
    Calls Try.prog 72 #[.slice A0 l0.length c0] w fun e w' => ∃ v1 v2 v3 : Value, e = .returned (.tuple (if ok = true then #[.agg #[.bool true, v1, v2, v3], .int .i64 0] else #[.agg #[.bool false, .slice none 0 0, .slice none 0 0, .slice none 0 0], .int .i64 2])) ∧ (ok = true → Kd.R k87 87 w' w.heap.size (fun _ => True) v1 I ∧ Kd.R (Kd.slice 5 (Kd.int .u8)) 22 w' w.heap.size (fun _ => True) v2 [] ∧ Kd.R k90 90 w' w.heap.size (fun _ => True) v3 []) ∧ Below w.heap.size w w' := by
  have hu79 := Try.underlying79
  have hu125 := Try.underlying125
  have HB := Aside0.mk (Below.refl w.heap.size w)
  have HR0 := Aside0.mk hr0
  have HC0 := Aside0.mk hc0
  have HK := Aside0.mk hk
  have H1 := Aside0.mk h1
  have HN := Aside0.mk hn
  have H2 := Aside0.mk h2
  have HT := Aside0.mk ht
  have HCN := Aside0.mk hcnt
  have HB0 := Aside0.mk hb0
  have HRES := Aside0.mk hres
  clear hr0 hc0 hk h1 hn h2 ht hcnt hb0 hres
  go_enter Try.func72, Try.ntmps72
  go_upto_region 3 with (first | ((with_reducible refine gate_dst (N := 2) rfl ?_); (try (refine gate_guard (by rfl) ?_; dsimp only)); refine box_event ?hg (N := 2) ?hd (cs := #[.bool false, .slice none 0 0, .slice none 0 0, .slice none 0 0]) (t := 79) ?hr ?_; (case hd => rfl); (case hg => rfl); (case hr => first | (go_simp; done) | (go_simp; rfl)); intro g2 hg w1 hbox hb; have B2 := Aside0.mk hbox; have G2 := Aside0.mk (show w.heap.size ≤ g2 by rw [hg]; exact HB.out.size); have nb_ := Aside0.mk (below_step HB.out hb); clear HB ; have HB := nb_; clear nb_ ; clear hg hbox hb) | ((with_reducible refine gate_dst (N := 12) rfl ?_); (try (refine gate_guard (by rfl) ?_; dsimp only)); refine box_event ?hg (N := 12) ?hd (cs := #[.slice A0 l0.length c0, .bool false]) (t := 125) ?hr ?_; (case hd => rfl); (case hg => rfl); (case hr => first | (go_simp; done) | (go_simp; rfl)); intro gr hg w2 hbox hb; have Br := Aside0.mk hbox; have Gr := Aside0.mk (show w.heap.size ≤ gr by rw [hg]; exact HB.out.size); have N2r := Aside0.mk (show g2 ≠ gr by rw [hg]; exact Nat.ne_of_lt (blk_lt B2.out)); have nb_ := Aside0.mk (below_step HB.out hb); have n0_ := Aside0.mk (blk_below B2.out hb); clear HB B2; have HB := nb_; have B2 := n0_; clear nb_ n0_; clear hg hbox hb))
  have NR2 := Aside0.mk N2r.out.symm
  have HS : Aside0 (St w gr l0 false w2) := ⟨⟨HB.out, Gr.out, A0, c0, Br.out, HC0.out, HR0.out⟩⟩
  clear HB Br
  go_upto_region 5 with (first | (go_at_call 106; (with_reducible refine (Rn.num w _ gr l0 false 1 HS.out (by decide) (by decide)).mono ?_); rintro e w3 ⟨rfl, hk, hs⟩; rw [HK.out]; rw [H1.out] at hs; have n0_ := Aside0.mk (hk.blk B2.out N2r.out (by simp)); have ns_ := Aside0.mk hs; clear HS B2; have HS := ns_; have B2 := n0_; clear ns_ n0_ hk hs) | (go_at_call 106; (with_reducible refine (Rn.num w _ gr x1 s1 1 HS.out (by decide) (by decide)).mono ?_); rintro e w4 ⟨rfl, hk, hs⟩; rw [H2.out] at hs; obtain ⟨nn, hnn⟩ : ∃ n, numu (txt x1 s1 1).1 = n := ⟨_, rfl⟩; have HN2 := Aside0.mk (show wrap64 nn = cnt by rw [← hnn]; exact HN.out); rw [hnn]; have hnv := HN2.out; clear hnn; have n0_ := Aside0.mk (hk.blk B2.out N2r.out (by simp)); have ns_ := Aside0.mk hs; clear HS B2; have HS := ns_; have B2 := n0_; clear ns_ n0_ hk hs; have kz0 := (blk_cell B2.out 0).trans rfl; have kf0 := blk_frozen B2.out 0; have kz1 := (blk_cell B2.out 1).trans rfl; have kf1 := blk_frozen B2.out 1; have kz2 := (blk_cell B2.out 2).trans rfl; have kf2 := blk_frozen B2.out 2; have kz3 := (blk_cell B2.out 3).trans rfl; have kf3 := blk_frozen B2.out 3))
  rw [HN2.out]
  clear kz0 kf0 kz1 kf1 kz2 kf2 kz3 kf3 hnv
  have n0_ := Aside0.mk (show (w4.setCell ⟨g2, 0, none⟩ (.bool true)).heap[g2]? = some (.cells #[.bool true, .slice none 0 0, .slice none 0 0, .slice none 0 0] 79 (0, 0)) from blk_put B2.out 0 _ rfl)
  have n1_ := Aside0.mk (show St w gr x2 s2 (w4.setCell ⟨g2, 0, none⟩ (.bool true)) from St_set HS.out NR2.out G2.out _ _)
  clear HS B2
  have B2 := n0_
  have HS := n1_
  clear n0_ n1_
  have HX2 := Aside0.mk (show ∀ c ∈ x2, 0 ≤ c ∧ c ≤ 255 from by have e1 := H1.out; have e2 := H2.out; intro c hc; rw [show x2 = (txt x1 s1 1).2.1 by rw [e2]] at hc; have h1 := txt_mem' hc; rw [show x1 = (txt l0 false 1).2.1 by rw [e1]] at h1; exact HB0.out _ (txt_mem' h1))
  go_wp2_with (fail)
  go_loopg [9] (cnt.toNat + 1) (fun kq v9 w' => ∃ (i : Int) (v1 : Value) (ys : List Int) (sy : Bool) (J : List S87), v9 = .int .i64 i ∧ Aside0 (0 ≤ i ∧ i ≤ cnt ∧ i + kq = cnt + 1) ∧ Aside0 (tkL (cnt - i).toNat ys sy J = (xs, s, I)) ∧ Aside0 (St w gr ys sy w') ∧ Aside0 (w'.heap[g2]? = some (.cells #[.bool true, v1, .slice none 0 0, .slice none 0 0] 79 (0, 0))) ∧ Aside0 (Kd.R k87 87 w' w.heap.size (fun _ => True) v1 J) ∧ Aside0 (J.length ≤ i) ∧ Aside0 (∀ c ∈ ys, 0 ≤ c ∧ c ≤ 255))
  case atStart => exact ⟨0, .slice none 0 0, x2, s2, [], rfl, ⟨by have := HCN.out; exact ⟨by omega, by omega, by omega⟩⟩, ⟨by rw [Int.sub_zero]; exact HT.out⟩, HS, B2, ⟨Kd.R_nil _ _ _ _ _⟩, ⟨by simp⟩, HX2⟩
  case round =>
    clear HS B2 HX2
    obtain ⟨i, v1, ys, sy, J, rfl, HI, HTK, HS, B2, HO, HJ, HYS⟩ := hrel
    have hI := HI.out
    cases gk with
    | zero => exact absurd hI.2.2 (by omega)
    | succ k1 =>
      obtain ⟨Ay, cy, hbr, hcy, hCy⟩ := HS.out.blk
      have Br := Aside0.mk hbr
      clear hbr hcy hCy
      by_cases c7 : i < cnt
      · have c7b := decide_eq_true c7
        cases sy
        · skip
          have hlt : ∀ k, k = gr ∨ some k = v1.ownBlock → k < wr.heap.size := by
            rintro k (rfl | hk)
            · exact blk_lt Br.out
            · exact Kd.R_lt HO.out k hk.symm
          have HLT := Aside0.mk hlt
          have hRl : ∀ W : World, Kept W W (fun k => k = gr ∨ some k = v1.ownBlock) := fun W => Kept.refl W _
          have hfar : ∀ k, wr.heap.size ≤ k → ¬ (k = gr ∨ some k = v1.ownBlock) := fun k hk h => by have := HLT.out k h; omega
          clear hlt
          have kz0 := (blk_cell B2.out 0).trans rfl
          have kf0 := blk_frozen B2.out 0
          have kz1 := (blk_cell B2.out 1).trans rfl
          have kf1 := blk_frozen B2.out 1
          have kz2 := (blk_cell B2.out 2).trans rfl
          have kf2 := blk_frozen B2.out 2
          have kz3 := (blk_cell B2.out 3).trans rfl
          have kf3 := blk_frozen B2.out 3
          have kr0 := (blk_cell Br.out 0).trans rfl
          have kr1 := (blk_cell Br.out 1).trans rfl
          go_upto_region 9 with (fail)
          clear kz0 kf0 kz1 kf1 kz2 kf2 kz3 kf3
          clear kr0 kr1
          have hgr : gr < wr.heap.size := blk_lt Br.out
          have HGR := Aside0.mk hgr
          clear hgr
          have u0_ := Aside0.mk (HS.out.next (below_drew (Below.refl _ _)))
          have u1_ := Aside0.mk (blk_drew B2.out)
          have u2_ := Aside0.mk (Kd.R_drew HO.out)
          have u3_ := Aside0.mk (show wr.heap.size ≤ wr.drew.heap.size from Nat.le_refl _)
          clear HS B2 HO
          have HS := u0_
          have B2 := u1_
          have HO := u2_
          have SZ := u3_
          clear u0_ u1_ u2_ u3_
          refine start_ (n := 11) (S := fun w' => w'.cell? ⟨g2, 1, none⟩ = some v1) (ds := [10]) #[false, false, false, false, false, false, false, false, false, false, false] (by kernel_rfl) rfl rfl ((blk_cell B2.out 1).trans rfl) (fun hHeld => ?_)
          refine pure_ (i := 0) (N := some 39) (v := ?_) (a' := ?_) #[true, false, false, false, false, false, false, false, false, false, false] rfl rfl (by kernel_rfl) (fun _ _ _ h => h) (Or.inl ⟨by rfl, ?_⟩) ?_ ?_
          rotate_left
          · intro w'
            go_simp
            with_reducible rfl
          rotate_left
          · simp only [Act.put, List.setIfInBounds_toArray, List.set_cons_zero, List.set_cons_succ]
            rfl
          refine take_ (i := 1) (N := some 40) (v := ?_) (a' := ?_) #[true, true, false, false, false, false, false, false, false, false, false] rfl rfl (by kernel_rfl) (fun _ _ _ h => h) (Or.inl ⟨by rfl, ?_⟩) hHeld ?_ ?_
          rotate_left
          · rintro w' s0
            go_simp
            with_reducible rfl
          rotate_left
          · simp only [Act.put, List.setIfInBounds_toArray, List.set_cons_zero, List.set_cons_succ]
            rfl
          refine pure_ (i := 2) (N := some 41) (v := ?_) (a' := ?_) #[true, true, true, false, false, false, false, false, false, false, false] rfl rfl (by kernel_rfl) (fun _ _ _ h => h) (Or.inl ⟨by rfl, ?_⟩) ?_ ?_
          rotate_left
          · intro w'
            go_simp
            with_reducible rfl
          rotate_left
          · simp only [Act.put, List.setIfInBounds_toArray, List.set_cons_zero, List.set_cons_succ]
            rfl
          refine pure_ (i := 4) (N := some 43) (v := ?_) (a' := ?_) #[true, true, true, false, true, false, false, false, false, false, false] rfl rfl (by kernel_rfl) (fun _ _ _ h => h) (Or.inl ⟨by rfl, ?_⟩) ?_ ?_
          rotate_left
          · intro w'
            go_simp
            with_reducible rfl
          rotate_left
          · simp only [Act.put, List.setIfInBounds_toArray, List.set_cons_zero, List.set_cons_succ]
            rfl
          refine one_ (i := 3) (N := some 42) #[true, true, true, true, true, false, false, false, false, false, false] rfl rfl (by kernel_rfl) (by decide) (fun K hK => ?_)
          refine goesV_ Try.func107 (by kernel_rfl) rfl (by rfl) rfl rfl (by rfl) ?_
          with_reducible refine (Rn.long w _ gr ys false HS.out (num1 HYS.out).1 (num1 HYS.out).2).mono ?_
          rintro e w6 ⟨v42, rfl, hk, hs, hr⟩
          refine ⟨_, rfl, ?_⟩
          have u0_ := Aside0.mk (R_st HO.out HS.out (by decide) hk)
          have u1_ := Aside0.mk (hk.blk B2.out N2r.out (by simp))
          have u2_ := Aside0.mk (Kd.R_lower (Kd.R_mono (ok' := fun k => wr.heap.size ≤ k) hr (fun k hk_ => Nat.le_trans SZ.out hk_)) HS.out.below.size)
          have u3_ := Aside0.mk (hs)
          have u4_ := Aside0.mk (Nat.le_trans SZ.out hk.1)
          clear HO B2 HS SZ
          have HO := u0_
          have B2 := u1_
          have HV3 := u2_
          have HS := u3_
          have SZ := u4_
          clear u0_ u1_ u2_ u3_ u4_
          obtain ⟨A42, c42, e_, hc_, hC_⟩ := Kd.R_reads HV3.out
          subst e_
          clear hk hs hr hc_ hC_
          refine hK.out _ _ ((blk_cell B2.out 1).trans rfl) (fun hHeld => ?_)
          clear hK K
          refine norm_ (a' := ?_) ?_ ?_
          rotate_left
          · show Act.put _ (some 42) _ = _
            simp only [Act.put, List.setIfInBounds_toArray, List.set_cons_zero, List.set_cons_succ]
            rfl
          refine one_ (i := 5) (N := some 44) #[true, true, true, true, true, true, false, false, false, false, false] rfl rfl (by kernel_rfl) (by decide) (fun K hK => ?_)
          refine goesV_ Try.func107 (by kernel_rfl) rfl (by rfl) rfl rfl (by rfl) ?_
          with_reducible refine (Rn.long w _ gr (lng ys false).2.1 (lng ys false).2.2 HS.out (num1 (lng_mem HYS.out)).1 (num1 (lng_mem HYS.out)).2).mono ?_
          rintro e w7 ⟨v44, rfl, hk, hs, hr⟩
          refine ⟨_, rfl, ?_⟩
          have u0_ := Aside0.mk (R_st HO.out HS.out (by decide) hk)
          have u1_ := Aside0.mk (hk.blk B2.out N2r.out (by simp))
          have u2_ := Aside0.mk (Kd.R_keep HV3.out hk (fun k hk_ => Nat.ne_of_gt (Nat.lt_of_lt_of_le HGR.out hk_)))
          have u3_ := Aside0.mk (Kd.R_lower (Kd.R_mono (ok' := fun k => wr.heap.size ≤ k) hr (fun k hk_ => Nat.le_trans SZ.out hk_)) HS.out.below.size)
          have u4_ := Aside0.mk (hs)
          have u5_ := Aside0.mk (Nat.le_trans SZ.out hk.1)
          clear HO B2 HV3 HS SZ
          have HO := u0_
          have B2 := u1_
          have HV3 := u2_
          have HV5 := u3_
          have HS := u4_
          have SZ := u5_
          clear u0_ u1_ u2_ u3_ u4_ u5_
          obtain ⟨A44, c44, e_, hc_, hC_⟩ := Kd.R_reads HV5.out
          subst e_
          clear hk hs hr hc_ hC_
          refine hK.out _ _ ((blk_cell B2.out 1).trans rfl) (fun hHeld => ?_)
          clear hK K
          refine norm_ (a' := ?_) ?_ ?_
          rotate_left
          · show Act.put _ (some 44) _ = _
            simp only [Act.put, List.setIfInBounds_toArray, List.set_cons_zero, List.set_cons_succ]
            rfl
          refine pure_ (i := 6) (N := some 45) (v := ?_) (a' := ?_) #[true, true, true, true, true, true, true, false, false, false, false] rfl rfl (by kernel_rfl) (fun _ _ _ h => h) (Or.inl ⟨by rfl, ?_⟩) ?_ ?_
          rotate_left
          · intro w'
            go_simp
            with_reducible rfl
          rotate_left
          · simp only [Act.put, List.setIfInBounds_toArray, List.set_cons_zero, List.set_cons_succ]
            rfl
          refine one_ (i := 7) (N := some 46) #[true, true, true, true, true, true, true, true, false, false, false] rfl rfl (by kernel_rfl) (by decide) (fun K hK => ?_)
          refine Kd.R_lit_step k87 (w0 := w) w.heap.size 87 ?hg (N := 46) ?hd (xs := [(⟨(lng ys false).1, (lng (lng ys false).2.1 (lng ys false).2.2).1⟩ : S87)]) (inner := [.slice A42 (lng ys false).1.length c42, .slice A44 (lng (lng ys false).2.1 (lng ys false).2.2).1.length c44]) (ok := fun k => wr.heap.size ≤ k) (okp := fun k => wr.heap.size ≤ k) ?hr ?hp (fun _ hk => hk) SZ.out HS.out.below HS.out.below.size (by simp) ?_; (case hd => rfl); (case hg => rfl); (case hr => first | (go_simp; done) | (go_simp; rfl)); (case hp => exact (Reps.none _ _).snoc (k87_mkM _ w.heap.size _ _ HV3.out HV5.out) rfl)
          intro v46 w8 ho hb_ hg_ hnew_
          have hbw := pw_below_grown (Below.refl _ _) none (Nat.le_refl _) hg_ (by simp)
          have u0_ := Aside0.mk (Kd.R_below HO.out hbw)
          have u1_ := Aside0.mk (blk_below B2.out hbw)
          have u2_ := Aside0.mk (ho)
          have u3_ := Aside0.mk (HS.out.next hbw)
          have u4_ := Aside0.mk (Nat.le_trans SZ.out hbw.size)
          clear HO B2 HS SZ
          have HO := u0_
          have B2 := u1_
          have HV7 := u2_
          have HS := u3_
          have SZ := u4_
          clear u0_ u1_ u2_ u3_ u4_
          obtain ⟨A46, c46, e_, hc_, hR7⟩ := Kd.OwnRow_of HV7.out
          subst e_
          have HR7 := Aside0.mk hR7
          clear ho hb_ hg_ hnew_ hbw hc_ hR7 HV3 HV5
          refine hK.out _ _ ((blk_cell B2.out 1).trans rfl) (fun hHeld => ?_)
          clear hK K
          refine norm_ (a' := ?_) ?_ ?_
          rotate_left
          · show Act.put _ (some 46) _ = _
            simp only [Act.put, List.setIfInBounds_toArray, List.set_cons_zero, List.set_cons_succ]
            rfl
          refine one_ (i := 8) (N := some 47) #[true, true, true, true, true, true, true, true, true, false, false] rfl rfl (by kernel_rfl) (by decide) (fun K hK => ?_)
          refine Kd.R_append_rows_step k87 (w0 := w) w.heap.size (by rfl) (.tmp 40) (.tmp 46) 75 87 (.agg #[.slice none 0 0, .slice none 0 0]) 48 rfl Try.underlying75 info87 rfl (by decide) (by omega) v1 J [(⟨(lng ys false).1, (lng (lng ys false).2.1 (lng ys false).2.2).1⟩ : S87)] A46 _ c46 (fun _ => True) (fun k => wr.heap.size ≤ k) rfl rfl HO.out HR7.out (fun _ _ h => k87.M_mono (fun k hk => hk.1) h) (fun k hk => ⟨trivial, fun e => hfar k hk (.inr e)⟩) (fun _ _ => trivial) HS.out.below HS.out.below.size (by have := HJ.out; have := HI.out; have := HCN.out; simp only [List.length_cons, List.length_nil]; omega) ?_
          intro v47 w9 ho hb_ hg_ hat_
          have u0_ := Aside0.mk (blk_grown B2.out hg_ (Kd.R_ne HO.out B2.out (by decide)))
          have u1_ := Aside0.mk (St_grown HS.out hb_ hg_ (fun {cells} hb' => Kd.R_ne HO.out hb' (by decide)))
          have u2_ := Aside0.mk (ho)
          have u3_ := Aside0.mk (Nat.le_trans SZ.out hg_.size)
          clear B2 HS HO SZ
          have B2 := u0_
          have HS := u1_
          have HO := u2_
          have SZ := u3_
          clear u0_ u1_ u2_ u3_
          obtain ⟨A47, c47, e_, hc_, hC_⟩ := Kd.R_reads HO.out
          obtain ⟨n47, hn47⟩ : ∃ n, n = (J ++ [(⟨(lng ys false).1, (lng (lng ys false).2.1 (lng ys false).2.2).1⟩ : S87)]).length := ⟨_, rfl⟩
          rw [← hn47] at e_
          subst e_
          clear hn47
          clear ho hb_ hg_ hat_ HR7 HV7 hc_ hC_
          refine hK.out _ _ ((blk_cell B2.out 1).trans rfl) (fun hHeld => ?_)
          clear hK K
          refine norm_ (a' := ?_) ?_ ?_
          rotate_left
          · show Act.put _ (some 47) _ = _
            simp only [Act.put, List.setIfInBounds_toArray, List.set_cons_zero, List.set_cons_succ]
            rfl
          refine pure_ (i := 9) (N := some 48) (v := ?_) (a' := ?_) #[true, true, true, true, true, true, true, true, true, true, false] rfl rfl (by kernel_rfl) (fun _ _ _ h => h) (Or.inl ⟨by rfl, ?_⟩) ?_ ?_
          rotate_left
          · intro w'
            go_simp
            with_reducible rfl
          rotate_left
          · simp only [Act.put, List.setIfInBounds_toArray, List.set_cons_zero, List.set_cons_succ]
            rfl
          refine last_ (i := 10) (N := none) #[true, true, true, true, true, true, true, true, true, true, true] rfl rfl (by kernel_rfl) (by decide) (fun K hK => ?_)
          have kz0 := (blk_cell B2.out 0).trans rfl
          have kf0 := blk_frozen B2.out 0
          have kz1 := (blk_cell B2.out 1).trans rfl
          have kf1 := blk_frozen B2.out 1
          have kz2 := (blk_cell B2.out 2).trans rfl
          have kf2 := blk_frozen B2.out 2
          have kz3 := (blk_cell B2.out 3).trans rfl
          have kf3 := blk_frozen B2.out 3
          refine skip_ (w1 := ?_) (by rfl) rfl ?_ ?_
          rotate_left
          · go_simp
            rfl
          refine hK.out _ _ ?_
          clear hK K
          refine done_ (by kernel_rfl) ?_
          clear kz0 kf0 kz1 kf1 kz2 kf2 kz3 kf3
          have B2o := B2
          have u0_ := Aside0.mk (show (w9.setCell ⟨g2, 1, none⟩ (.slice A47 n47 c47)).heap[g2]? = some (.cells #[.bool true, (.slice A47 n47 c47), .slice none 0 0, .slice none 0 0] 79 (0, 0)) from blk_put B2.out 1 _ rfl)
          have u1_ := Aside0.mk (show St w gr _ _ (w9.setCell ⟨g2, 1, none⟩ (.slice A47 n47 c47)) from St_set HS.out NR2.out G2.out _ _)
          have u2_ := Aside0.mk (show Kd.R k87 87 (w9.setCell ⟨g2, 1, none⟩ (.slice A47 n47 c47)) w.heap.size (fun _ => True) (.slice A47 n47 c47) _ from Kd.R_mono (Kd.R_far (p := ⟨g2, 1, none⟩) (Kd.R_types HO.out B2o.out (by decide)) (fun k hk => hk.2) _) (fun _ _ => trivial))
          clear B2 HS HO
          have B2 := u0_
          have HS := u1_
          have HO := u2_
          clear u0_ u1_ u2_
          clear B2o
          have HWI := Aside0.mk (show wrap64 (i + 1) = i + 1 by have := HI.out; have := HCN.out; unfold wrap64; omega)
          go_wp2_with (fail)
          go_roundg k1
          case measure => omega
          case rel => exact ⟨i + 1, _, _, _, J ++ [⟨(lng ys false).1, (lng (lng ys false).2.1 (lng ys false).2.2).1⟩], (by rw [HWI.out]), ⟨by have := HI.out; have := of_decide_eq_true c7b; exact ⟨by omega, by omega, by omega⟩⟩, ⟨by have h1 := HTK.out; rw [show (cnt - i).toNat = (cnt - (i + 1)).toNat + 1 by have := of_decide_eq_true c7b; omega, tkL, if_neg (by decide)] at h1; exact h1⟩, HS, B2, HO, ⟨by have := HJ.out; simp only [List.length_append, List.length_cons, List.length_nil]; omega⟩, ⟨lng_mem (lng_mem HYS.out)⟩⟩
        · skip
          have e1 : (ys, true, J) = (xs, s, I) := by have h1 := HTK.out; rw [show (cnt - i).toNat = (cnt - i - 1).toNat + 1 by have := of_decide_eq_true c7b; omega, tkL, if_pos rfl] at h1; exact h1
          simp only [Prod.mk.injEq] at e1
          obtain ⟨ea_, eb_, ec_⟩ := e1
          replace ea_ := ea_.symm
          replace eb_ := eb_.symm
          replace ec_ := ec_.symm
          subst ea_ eb_ ec_
          clear hI HI HTK HJ HYS HCN HT
          obtain ⟨A1, c1, e_, hc_, hC_⟩ := Kd.R_reads HO.out
          subst e_
          clear hc_ hC_
          have kz0 := (blk_cell B2.out 0).trans rfl
          have kf0 := blk_frozen B2.out 0
          have kz1 := (blk_cell B2.out 1).trans rfl
          have kf1 := blk_frozen B2.out 1
          have kz2 := (blk_cell B2.out 2).trans rfl
          have kf2 := blk_frozen B2.out 2
          have kz3 := (blk_cell B2.out 3).trans rfl
          have kf3 := blk_frozen B2.out 3
          have kr1 := (blk_cell Br.out 1).trans rfl
          have HB := Aside0.mk HS.out.below
          clear HS
          rcases HRES.out with ⟨hs_, rfl⟩ | ⟨hs_, q, hmay, hq⟩
          · skip
            clear HRES
            go_wp2_with (fail)
            refine bodyPost_ret (results_ct rfl _ _ g2 79 #[.bool false, .slice none 0 0, .slice none 0 0, .slice none 0 0] (0, 0) _ rfl (by refine blk_put (cs := #[.bool false, .slice none 0 0, .slice none 0 0, .slice none 0 0]) ?_ 3 _ rfl; refine blk_put (cs := #[.bool false, .slice none 0 0, .slice none 0 0, .slice none 0 0]) ?_ 2 _ rfl; refine blk_put (cs := #[.bool false, .slice A1 I.length c1, .slice none 0 0, .slice none 0 0]) ?_ 1 _ rfl; refine blk_put (cs := #[.bool true, .slice A1 I.length c1, .slice none 0 0, .slice none 0 0]) ?_ 0 _ rfl; exact B2.out) Try.underlying79 rfl (by kernel_rfl)) rfl ?_
            first | exact ⟨rfl, (by repeat (with_reducible first | exact HB.out | refine below_set ?_ G2.out))⟩ | exact ⟨.slice none 0 0, .slice none 0 0, .slice none 0 0, rfl, fun h_ => by cases h_, (by repeat (with_reducible first | exact HB.out | refine below_set ?_ G2.out))⟩
          · cases hs_
      · have c7b := decide_eq_false c7
        have e1 : (ys, sy, J) = (xs, s, I) := by have h1 := HTK.out; rw [show (cnt - i).toNat = 0 by omega, tkL] at h1; exact h1
        simp only [Prod.mk.injEq] at e1
        obtain ⟨ea_, eb_, ec_⟩ := e1
        replace ea_ := ea_.symm
        replace eb_ := eb_.symm
        replace ec_ := ec_.symm
        subst ea_ eb_ ec_
        clear hI HI HTK HJ HYS HCN HT
        obtain ⟨A1, c1, e_, hc_, hC_⟩ := Kd.R_reads HO.out
        subst e_
        clear hc_ hC_
        have kz0 := (blk_cell B2.out 0).trans rfl
        have kf0 := blk_frozen B2.out 0
        have kz1 := (blk_cell B2.out 1).trans rfl
        have kf1 := blk_frozen B2.out 1
        have kz2 := (blk_cell B2.out 2).trans rfl
        have kf2 := blk_frozen B2.out 2
        have kz3 := (blk_cell B2.out 3).trans rfl
        have kf3 := blk_frozen B2.out 3
        have kr1 := (blk_cell Br.out 1).trans rfl
        have HB := Aside0.mk HS.out.below
        clear HS
        rcases HRES.out with ⟨hs_, rfl⟩ | ⟨hs_, q, hmay, hq⟩
        · subst hs_
          clear HRES
          go_wp2_with (fail)
          refine bodyPost_ret (results_ct rfl _ _ g2 79 #[.bool false, .slice none 0 0, .slice none 0 0, .slice none 0 0] (0, 0) _ rfl (by refine blk_put (cs := #[.bool false, .slice none 0 0, .slice none 0 0, .slice none 0 0]) ?_ 3 _ rfl; refine blk_put (cs := #[.bool false, .slice none 0 0, .slice none 0 0, .slice none 0 0]) ?_ 2 _ rfl; refine blk_put (cs := #[.bool false, .slice A1 I.length c1, .slice none 0 0, .slice none 0 0]) ?_ 1 _ rfl; refine blk_put (cs := #[.bool true, .slice A1 I.length c1, .slice none 0 0, .slice none 0 0]) ?_ 0 _ rfl; exact B2.out) Try.underlying79 rfl (by kernel_rfl)) rfl ?_
          first | exact ⟨rfl, (by repeat (with_reducible first | exact HB.out | refine below_set ?_ G2.out))⟩ | exact ⟨.slice none 0 0, .slice none 0 0, .slice none 0 0, rfl, fun h_ => by cases h_, (by repeat (with_reducible first | exact HB.out | refine below_set ?_ G2.out))⟩
        · subst hs_
          rcases hq with ⟨rfl, rfl⟩ | ⟨rfl, b, hput, heq⟩
          · have HMAY := Aside0.mk hmay
            clear hmay
            go_wp2_with (first | (go_at_call 71; (refine (node_May.calls k true A1 c1 I none 0 ([] : List (List Int)) none 0 ([] : List S90) _ _ ?s1 ?s2 ?s3 ?s4 ?s5 ?s6 HMAY.out).mono ?_); (case s1 => exact (Kd.R_reads' HO.out).2.2); (case s2 => exact (Kd.R_reads' HO.out).2.1); (case s3 => exact Kd.C_nil _ _); (case s4 => exact Nat.le_refl _); (case s5 => exact Kd.C_nil _ _); (case s6 => exact Nat.le_refl _); rintro e w20 ⟨rfl, hb⟩; have u0_ := Aside0.mk (blk_below B2.out hb); have u1_ := Aside0.mk (below_step HB.out hb); have u2_ := Aside0.mk (Kd.R_below HO.out hb); clear B2 HB HO; have B2 := u0_; have HB := u1_; have HO := u2_; clear u0_ u1_ u2_; clear kz0 kf0 kz1 kf1 kz2 kf2 kz3 kf3; have kz0 := (blk_cell B2.out 0).trans rfl; have kf0 := blk_frozen B2.out 0; have kz1 := (blk_cell B2.out 1).trans rfl; have kf1 := blk_frozen B2.out 1; have kz2 := (blk_cell B2.out 2).trans rfl; have kf2 := blk_frozen B2.out 2; have kz3 := (blk_cell B2.out 3).trans rfl; have kf3 := blk_frozen B2.out 3; clear hb))
            refine bodyPost_ret (results_ct rfl _ _ g2 79 #[.bool false, .slice none 0 0, .slice none 0 0, .slice none 0 0] (0, 0) _ rfl (by refine blk_put (cs := #[.bool false, .slice none 0 0, .slice none 0 0, .slice none 0 0]) ?_ 3 _ rfl; refine blk_put (cs := #[.bool false, .slice none 0 0, .slice none 0 0, .slice none 0 0]) ?_ 2 _ rfl; refine blk_put (cs := #[.bool false, .slice A1 I.length c1, .slice none 0 0, .slice none 0 0]) ?_ 1 _ rfl; refine blk_put (cs := #[.bool true, .slice A1 I.length c1, .slice none 0 0, .slice none 0 0]) ?_ 0 _ rfl; exact B2.out) Try.underlying79 rfl (by kernel_rfl)) rfl ?_
            first | exact ⟨rfl, (by repeat (with_reducible first | exact HB.out | refine below_set ?_ G2.out))⟩ | exact ⟨.slice none 0 0, .slice none 0 0, .slice none 0 0, rfl, fun h_ => by cases h_, (by repeat (with_reducible first | exact HB.out | refine below_set ?_ G2.out))⟩
          · have HMAY := Aside0.mk hmay
            have HPUT := Aside0.mk hput
            have HEQ := Aside0.mk heq
            clear hmay hput heq
            cases ok
            · skip
              go_wp2_with (first | (go_at_call 71; (refine (node_May.calls k true A1 c1 I none 0 ([] : List (List Int)) none 0 ([] : List S90) _ _ ?s1 ?s2 ?s3 ?s4 ?s5 ?s6 HMAY.out).mono ?_); (case s1 => exact (Kd.R_reads' HO.out).2.2); (case s2 => exact (Kd.R_reads' HO.out).2.1); (case s3 => exact Kd.C_nil _ _); (case s4 => exact Nat.le_refl _); (case s5 => exact Kd.C_nil _ _); (case s6 => exact Nat.le_refl _); rintro e w20 ⟨rfl, hb⟩; have u0_ := Aside0.mk (blk_below B2.out hb); have u1_ := Aside0.mk (below_step HB.out hb); have u2_ := Aside0.mk (Kd.R_below HO.out hb); clear B2 HB HO; have B2 := u0_; have HB := u1_; have HO := u2_; clear u0_ u1_ u2_; clear kz0 kf0 kz1 kf1 kz2 kf2 kz3 kf3; have kz0 := (blk_cell B2.out 0).trans rfl; have kf0 := blk_frozen B2.out 0; have kz1 := (blk_cell B2.out 1).trans rfl; have kf1 := blk_frozen B2.out 1; have kz2 := (blk_cell B2.out 2).trans rfl; have kf2 := blk_frozen B2.out 2; have kz3 := (blk_cell B2.out 3).trans rfl; have kf3 := blk_frozen B2.out 3; clear hb) | (go_at_call 70; (refine (node_Put.calls k true A1 c1 I none 0 ([] : List (List Int)) none 0 ([] : List S90) _ _ ?s1 ?s2 ?s3 ?s4 ?s5 ?s6 HPUT.out).mono ?_); (case s1 => exact (Kd.R_reads' HO.out).2.2); (case s2 => exact (Kd.R_reads' HO.out).2.1); (case s3 => exact Kd.C_nil _ _); (case s4 => exact Nat.le_refl _); (case s5 => exact Kd.C_nil _ _); (case s6 => exact Nat.le_refl _); rintro e w21 ⟨v21, rfl, ho, hb⟩; have u0_ := Aside0.mk (blk_below B2.out hb); have u1_ := Aside0.mk (below_step HB.out hb); have u2_ := Aside0.mk (Kd.R_below HO.out hb); clear B2 HB HO; have B2 := u0_; have HB := u1_; have HO := u2_; clear u0_ u1_ u2_; clear kz0 kf0 kz1 kf1 kz2 kf2 kz3 kf3; have kz0 := (blk_cell B2.out 0).trans rfl; have kf0 := blk_frozen B2.out 0; have kz1 := (blk_cell B2.out 1).trans rfl; have kf1 := blk_frozen B2.out 1; have kz2 := (blk_cell B2.out 2).trans rfl; have kf2 := blk_frozen B2.out 2; have kz3 := (blk_cell B2.out 3).trans rfl; have kf3 := blk_frozen B2.out 3; obtain ⟨A21, c21, e_, hc_, hC_⟩ := Kd.R_reads ho; subst e_; have HC21 := Aside0.mk hC_; have HD21 := Aside0.mk hc_; clear hb ho hc_ hC_) | (go_at_call 78; (with_reducible refine (bytes_Equal.calls _ _ b _ _ l0 _ _ ?s1 ?s2 ?s3 ?s4 HEQ.out).mono ?_); (case s1 => exact HC21.out); (case s2 => exact HD21.out); (case s3 => exact Kd.C_below HR0.out HB.out); (case s4 => exact HC0.out); rintro e w22 ⟨rfl, hd⟩; have hb := hd.below; have u0_ := Aside0.mk (blk_below B2.out hb); have u1_ := Aside0.mk (below_step HB.out hb); have u2_ := Aside0.mk (Kd.R_below HO.out hb); clear B2 HB HO; have B2 := u0_; have HB := u1_; have HO := u2_; clear u0_ u1_ u2_; clear kz0 kf0 kz1 kf1 kz2 kf2 kz3 kf3; have kz0 := (blk_cell B2.out 0).trans rfl; have kf0 := blk_frozen B2.out 0; have kz1 := (blk_cell B2.out 1).trans rfl; have kf1 := blk_frozen B2.out 1; have kz2 := (blk_cell B2.out 2).trans rfl; have kf2 := blk_frozen B2.out 2; have kz3 := (blk_cell B2.out 3).trans rfl; have kf3 := blk_frozen B2.out 3; clear hb hd))
              refine bodyPost_ret (results_ct rfl _ _ g2 79 #[.bool false, .slice none 0 0, .slice none 0 0, .slice none 0 0] (0, 0) _ rfl (by refine blk_put (cs := #[.bool false, .slice none 0 0, .slice none 0 0, .slice none 0 0]) ?_ 3 _ rfl; refine blk_put (cs := #[.bool false, .slice none 0 0, .slice none 0 0, .slice none 0 0]) ?_ 2 _ rfl; refine blk_put (cs := #[.bool false, .slice A1 I.length c1, .slice none 0 0, .slice none 0 0]) ?_ 1 _ rfl; refine blk_put (cs := #[.bool true, .slice A1 I.length c1, .slice none 0 0, .slice none 0 0]) ?_ 0 _ rfl; exact B2.out) Try.underlying79 rfl (by kernel_rfl)) rfl ?_
              first | exact ⟨rfl, (by repeat (with_reducible first | exact HB.out | refine below_set ?_ G2.out))⟩ | exact ⟨.slice none 0 0, .slice none 0 0, .slice none 0 0, rfl, fun h_ => by cases h_, (by repeat (with_reducible first | exact HB.out | refine below_set ?_ G2.out))⟩
            · skip
              go_wp2_with (first | (go_at_call 71; (refine (node_May.calls k true A1 c1 I none 0 ([] : List (List Int)) none 0 ([] : List S90) _ _ ?s1 ?s2 ?s3 ?s4 ?s5 ?s6 HMAY.out).mono ?_); (case s1 => exact (Kd.R_reads' HO.out).2.2); (case s2 => exact (Kd.R_reads' HO.out).2.1); (case s3 => exact Kd.C_nil _ _); (case s4 => exact Nat.le_refl _); (case s5 => exact Kd.C_nil _ _); (case s6 => exact Nat.le_refl _); rintro e w20 ⟨rfl, hb⟩; have u0_ := Aside0.mk (blk_below B2.out hb); have u1_ := Aside0.mk (below_step HB.out hb); have u2_ := Aside0.mk (Kd.R_below HO.out hb); clear B2 HB HO; have B2 := u0_; have HB := u1_; have HO := u2_; clear u0_ u1_ u2_; clear kz0 kf0 kz1 kf1 kz2 kf2 kz3 kf3; have kz0 := (blk_cell B2.out 0).trans rfl; have kf0 := blk_frozen B2.out 0; have kz1 := (blk_cell B2.out 1).trans rfl; have kf1 := blk_frozen B2.out 1; have kz2 := (blk_cell B2.out 2).trans rfl; have kf2 := blk_frozen B2.out 2; have kz3 := (blk_cell B2.out 3).trans rfl; have kf3 := blk_frozen B2.out 3; clear hb) | (go_at_call 70; (refine (node_Put.calls k true A1 c1 I none 0 ([] : List (List Int)) none 0 ([] : List S90) _ _ ?s1 ?s2 ?s3 ?s4 ?s5 ?s6 HPUT.out).mono ?_); (case s1 => exact (Kd.R_reads' HO.out).2.2); (case s2 => exact (Kd.R_reads' HO.out).2.1); (case s3 => exact Kd.C_nil _ _); (case s4 => exact Nat.le_refl _); (case s5 => exact Kd.C_nil _ _); (case s6 => exact Nat.le_refl _); rintro e w21 ⟨v21, rfl, ho, hb⟩; have u0_ := Aside0.mk (blk_below B2.out hb); have u1_ := Aside0.mk (below_step HB.out hb); have u2_ := Aside0.mk (Kd.R_below HO.out hb); clear B2 HB HO; have B2 := u0_; have HB := u1_; have HO := u2_; clear u0_ u1_ u2_; clear kz0 kf0 kz1 kf1 kz2 kf2 kz3 kf3; have kz0 := (blk_cell B2.out 0).trans rfl; have kf0 := blk_frozen B2.out 0; have kz1 := (blk_cell B2.out 1).trans rfl; have kf1 := blk_frozen B2.out 1; have kz2 := (blk_cell B2.out 2).trans rfl; have kf2 := blk_frozen B2.out 2; have kz3 := (blk_cell B2.out 3).trans rfl; have kf3 := blk_frozen B2.out 3; obtain ⟨A21, c21, e_, hc_, hC_⟩ := Kd.R_reads ho; subst e_; have HC21 := Aside0.mk hC_; have HD21 := Aside0.mk hc_; clear hb ho hc_ hC_) | (go_at_call 78; (with_reducible refine (bytes_Equal.calls _ _ b _ _ l0 _ _ ?s1 ?s2 ?s3 ?s4 HEQ.out).mono ?_); (case s1 => exact HC21.out); (case s2 => exact HD21.out); (case s3 => exact Kd.C_below HR0.out HB.out); (case s4 => exact HC0.out); rintro e w22 ⟨rfl, hd⟩; have hb := hd.below; have u0_ := Aside0.mk (blk_below B2.out hb); have u1_ := Aside0.mk (below_step HB.out hb); have u2_ := Aside0.mk (Kd.R_below HO.out hb); clear B2 HB HO; have B2 := u0_; have HB := u1_; have HO := u2_; clear u0_ u1_ u2_; clear kz0 kf0 kz1 kf1 kz2 kf2 kz3 kf3; have kz0 := (blk_cell B2.out 0).trans rfl; have kf0 := blk_frozen B2.out 0; have kz1 := (blk_cell B2.out 1).trans rfl; have kf1 := blk_frozen B2.out 1; have kz2 := (blk_cell B2.out 2).trans rfl; have kf2 := blk_frozen B2.out 2; have kz3 := (blk_cell B2.out 3).trans rfl; have kf3 := blk_frozen B2.out 3; clear hb hd))
              refine bodyPost_ret (results_ct rfl _ _ g2 79 #[.bool true, .slice A1 I.length c1, .slice none 0 0, .slice none 0 0] (0, 0) _ rfl (by refine blk_put (cs := #[.bool true, .slice A1 I.length c1, .slice none 0 0, .slice none 0 0]) ?_ 3 _ rfl; refine blk_put (cs := #[.bool true, .slice A1 I.length c1, .slice none 0 0, .slice none 0 0]) ?_ 2 _ rfl; refine blk_put (cs := #[.bool true, .slice A1 I.length c1, .slice none 0 0, .slice none 0 0]) ?_ 1 _ rfl; refine blk_put (cs := #[.bool true, .slice A1 I.length c1, .slice none 0 0, .slice none 0 0]) ?_ 0 _ rfl; exact B2.out) Try.underlying79 rfl (by kernel_rfl)) rfl ?_
              exact ⟨_, _, _, rfl, ⟨Kd.R_mono (show Kd.R _ _ _ w.heap.size (fun k => True ∧ k ≠ g2) _ _ from (by repeat (with_reducible first | exact Kd.R_types HO.out B2.out (by decide) | refine Kd.R_far (p := ⟨g2, _, none⟩) ?_ (fun k hk => hk.2) _))) (fun _ _ => trivial), Kd.R_nil _ _ _ _ _, Kd.R_nil _ _ _ _ _⟩, (by repeat (with_reducible first | exact HB.out | refine below_set ?_ G2.out))⟩
end Go.Proofs.Ytfgeffmlfbeodaa.PNodeBack
