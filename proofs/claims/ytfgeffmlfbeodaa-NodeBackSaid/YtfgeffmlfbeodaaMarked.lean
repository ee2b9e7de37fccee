/- Rows of bytes of the call's own that may bear the run-time's mark behind their last cell (what a constant or a string was turned into): appending goes on them as on any row. -/
import Derived.Test.YtfgeffmlfbeodaaWMore
import Derived.Lib.AppendStr
import Derived.Lib.ConvBytes
namespace Go.Proofs.Ytfgeffmlfbeodaa.Marked
open Go.RowKit Go.Proofs.YtfgeffmlfbeodaaW.PrintWords

theorem run_storeMarked {P : Program} (g o : Nat) (t : TypeId) (fr : Nat × Nat) : ∀ (vs : List Value) (i : Nat) (cur : Array Value) (w : World), w.heap[g]? = some (.cells cur t fr) → (fr = (0, 0) ∨ cur.size ≤ fr.1) → o + i + vs.length ≤ cur.size → (∀ v ∈ vs, v.oneCell' = true) →
    (storeCells ⟨g, o, none⟩ vs i).run P w = .ok () (w.setRow g (cur.toList.take (o + i) ++ vs ++ cur.toList.drop (o + i + vs.length)).toArray)
  | [], i, cur, w, hg, _, _, _ => by
    simp only [storeCells, List.append_nil, List.length_nil, Nat.add_zero, List.take_append_drop, Array.toArray_toList]
    rw [setRow_self w g cur t fr hg]
    rfl
  | v :: rest, i, cur, w, hg, hfr, hl, h1 => by
    have hi : o + i < cur.size := by simp at hl; omega
    have hadd : (⟨g, o, none⟩ : Addr).add i = ⟨g, o + i, none⟩ := by unfold Addr.add; split <;> simp_all
    have hcell : w.cell? ⟨g, o + i, none⟩ = some cur[o + i] := by simp [World.cell?, hg, hi]
    have hfro : w.frozen? ⟨g, o + i, none⟩ = false := by
      obtain ⟨lo, hi2⟩ := fr
      have : (decide (lo ≤ o + i) && decide (o + i < hi2)) = false := by
        rcases hfr with h | h
        · injection h with h2 h3
          subst h3; simp
        · have h4 : ¬ lo ≤ o + i := by simp only at h; omega
          simp [h4]
      simp only [World.frozen?, hg]
      exact this
    have hst : (store ((⟨g, o, none⟩ : Addr).add i) v).run P w = .ok () (w.setRow g (cur.setIfInBounds (o + i) v)) := by
      rw [hadd, run_store P w _ v _ (h1 v (by simp)), hcell]
      simp [hfro, setCell_eq_setRow w g (o + i) cur t fr v hg]
    have ih := run_storeMarked (P := P) g o t fr rest (i + 1) (cur.setIfInBounds (o + i) v) (w.setRow g (cur.setIfInBounds (o + i) v)) (setRow_heap w g cur _ t _ hg) (by simpa using hfr) (by simp at hl ⊢; omega) (fun x hx => h1 x (by simp [hx]))
    simp only [storeCells, Sem.run_bind, hst, Result.andThen_ok, ih, setRow_setRow]
    congr 3
    have e := list_seg_step cur.toList (o + i) v rest (by simp at hl ⊢; omega)
    simpa [Array.toList_setIfInBounds, Nat.add_assoc] using e

/-- A row of bytes at the head of a block of the call's own; a mark, if there is one, lies behind its last cell. -/
def M (e : Nat) (W : World) (base : Nat) (v : Value) (xs : List Int) : Prop :=
  ∃ g cap cur fr, v = .slice (some ⟨g, 0, none⟩) xs.length cap ∧ base ≤ g ∧ W.heap[g]? = some (.cells cur e fr) ∧ xs.length ≤ cap ∧ cap ≤ maxLen ∧ cur.size = cap ∧ cur.toList.take xs.length = nums .u8 xs ∧ (fr = (0, 0) ∨ cap ≤ fr.1)
section
variable {e base : Nat} {W W1 : World} {v : Value} {xs : List Int}
theorem M.lt (h : M e W base v xs) : ∀ k, v.ownBlock = some k → base ≤ k ∧ k < W.heap.size := by
  obtain ⟨g, cap, cur, fr, rfl, hb, hg, _⟩ := h
  intro k hk
  have : g = k := by simpa [Value.ownBlock] using hk
  subst this
  exact ⟨hb, (Array.getElem?_eq_some_iff.1 hg).1⟩
theorem M.move (h : M e W base v xs) (hm : ∀ k, v.ownBlock = some k → W1.heap[k]? = W.heap[k]?) : M e W1 base v xs := by
  obtain ⟨g, cap, cur, fr, rfl, hb, hg, r⟩ := h
  exact ⟨g, cap, cur, fr, rfl, hb, (hm g (by simp [Value.ownBlock])).trans hg, r⟩
theorem M.grown (h : M e W base v xs) {row : Option Nat} (hg : W.grownBy W1 row) (hne : v.ownBlock ≠ row) : M e W1 base v xs :=
  h.move (fun k hk => hg.block k (h.lt k hk).2 (hk ▸ hne))
theorem M.below (h : M e W base v xs) (hb : Below W.heap.size W W1) : M e W1 base v xs := h.move (fun k hk => hb.block k (h.lt k hk).2)
theorem M.alloc (h : M e W base v xs) (o : Obj) : M e (W.alloc o) base v xs := h.below (below_alloc (Below.refl _ _) o)
theorem M.drewN (h : M e W base v xs) (n : Nat) : M e (W.drewN n) base v xs := h
theorem M.drew (h : M e W base v xs) : M e W.drew base v xs := h
theorem M.lower {base' : Nat} (h : M e W base v xs) (hb : base' ≤ base) : M e W base' v xs := by
  obtain ⟨g, cap, cur, fr, rfl, hb', r⟩ := h
  exact ⟨g, cap, cur, fr, rfl, Nat.le_trans hb hb', r⟩
theorem M.cells (h : M e W base v xs) : ∃ g c, v = .slice (some ⟨g, 0, none⟩) xs.length c ∧ xs.length ≤ c ∧ ∀ j u, (nums .u8 xs)[j]? = some u → W.cell? ⟨g, j, none⟩ = some u := by
  obtain ⟨g, cap, cur, fr, rfl, hb, hg, hc, _, hs, ht, _⟩ := h
  refine ⟨g, cap, rfl, hc, fun j u hj => ?_⟩
  rw [← ht, List.getElem?_take] at hj
  split at hj
  · simpa [World.cell?, hg] using hj
  · cases hj
theorem C_cells {g n : Nat} (hn : xs.length = n) (hm : n ≤ 9223372036854775807) (hc : ∀ j u, (nums .u8 xs)[j]? = some u → W.cell? ⟨g, j, none⟩ = some u) : Kd.C (Kd.int .u8) W (some ⟨g, 0, none⟩) n xs := by
  refine ⟨hn, hm, fun _ => ⟨_, rfl, fun j p hj => ⟨[.int .u8 p], rfl, rfl, fun i u hu => ?_⟩⟩⟩
  cases i with
  | succ i => simp at hu
  | zero =>
    obtain rfl : Value.int .u8 p = u := by simpa using hu
    have ha : (⟨g, 0, none⟩ : Addr).add (j * 1 + 0) = ⟨g, j, none⟩ := by
      simp only [Addr.add, Nat.mul_one, Nat.add_zero, Nat.zero_add]
      split
      · rename_i h0; subst h0; rfl
      · rfl
    show World.cell? _ ((⟨g, 0, none⟩ : Addr).add (j * 1 + 0)) = _
    rw [ha]
    exact hc j _ (by simp [nums, hj])
theorem M.C (h : M e W base v xs) : ∃ A c, v = .slice A xs.length c ∧ xs.length ≤ c ∧ Kd.C (Kd.int .u8) W A xs.length xs := by
  have hm : xs.length ≤ 9223372036854775807 := by
    obtain ⟨g, cap, cur, fr, _, _, _, hc, hm, _⟩ := h
    simp only [maxLen] at hm
    omega
  obtain ⟨g, c, rfl, hl, hc⟩ := h.cells
  exact ⟨_, c, rfl, hl, C_cells rfl hm hc⟩
theorem M.V {ok : Nat → Prop} (h : M e W base v xs) (hok : ∀ k, v.ownBlock = some k → ok k) : Kd.V (Kd.int .u8) e W base ok v xs := by
  have h' := h
  obtain ⟨A, c, hv, hl, _⟩ := h.C
  subst hv
  refine ⟨A, c, rfl, hl, fun W' hW => ?_⟩
  have h2 : M e W' base (.slice A xs.length c) xs := h'.move (fun k hk => hW k (hok k hk) (h'.lt k hk).2)
  obtain ⟨A2, c2, he, _, hC⟩ := h2.C
  injection he with h3 _ _
  subst h3
  exact hC
theorem M.of_R {ok : Nat → Prop} (h : Kd.R (Kd.int .u8) e W base ok v xs) (hx : xs ≠ []) : M e W base v xs := by
  have hown := Kd.own_of_R h
  rcases hown.2 with ⟨_, h0⟩ | ⟨g, cap, cur, rfl, hb, hg, hn, hc, hs, ht⟩
  · exact absurd (List.eq_nil_of_length_eq_zero h0) hx
  · exact ⟨g, cap, cur, (0, 0), rfl, hb, hg, hn, hc, by simpa using hs, by simpa [nums, encs] using ht, .inl rfl⟩
theorem M.lit (w : World) (C : Array Value) (hC : C.toList = nums .u8 xs) (hm : xs.length ≤ maxLen) (hb : base ≤ w.heap.size) : M e (w.alloc (.cells C e (C.size, C.size + 1))) base (.slice (some ⟨w.heap.size, 0, none⟩) xs.length xs.length) xs := by
  have hs : C.size = xs.length := by
    have := congrArg List.length hC
    simpa [nums] using this
  refine ⟨w.heap.size, xs.length, C, _, rfl, hb, heap_alloc_new w _, Nat.le_refl _, hm, hs, ?_, .inr (by simp [hs])⟩
  rw [hC, ← nums_length .u8 xs, List.take_length]
end
/-- THE LAW. -/
theorem run_append_M {P : Program} (W : World) (base : Nat) (t ty e : TypeId) (i : TypeInfo) (ht : P.underlying t = some (.slice e)) (hi : P.info? e = some i) (hz : i.zero = some (.int .u8 0)) (hsize : i.size = 1) (hby : i.bytes = 1)
    (v : Value) (xs ys : List Int) (h : M e W base v xs) (a : Addr) (c : Nat) (hnews : ∀ j u, (nums .u8 ys)[j]? = some u → W.cell? (a.add j) = some u) (hbytes : xs.length + ys.length ≤ 140737488355328) (hbase : base ≤ W.heap.size) :
    ∃ v' w', (Builtin.append_ #[t, t] ty #[v, .slice (some a) ys.length c]).run P W = .ok v' w' ∧ M e w' base v' (xs ++ ys) ∧ W.grownBy w' v.ownBlock ∧ (v'.ownBlock = v.ownBlock ∨ ∃ b, v'.ownBlock = some b ∧ W.heap.size ≤ b) := by
  have h' := h
  obtain ⟨g, cap, cur, fr, rfl, hb, hg, hn, hc, hs, htake, hfr⟩ := h
  have hone : ∀ u ∈ nums .u8 ys, u.oneCell' = true := by
    intro u hu
    obtain ⟨x, _, rfl⟩ := List.mem_map.1 hu
    rfl
  have hlen : (nums .u8 (xs ++ ys)) = nums .u8 xs ++ nums .u8 ys := nums_append _ _ _
  by_cases hroom : xs.length + ys.length ≤ cap
  · have hf := run_firstCells_some (P := P) W i.size ys.length a ys.length c (nums .u8 ys) (by rw [nums_length, hsize, Nat.mul_one]) hnews
    have hst := run_storeMarked (P := P) g xs.length e fr (nums .u8 ys) 0 cur W hg (by rw [hs]; exact hfr) (by rw [nums_length, hs]; omega) hone
    simp only [Nat.add_zero] at hst
    refine ⟨.slice (some ⟨g, 0, none⟩) (xs.length + ys.length) cap, W.setRow g (cur.toList.take xs.length ++ nums .u8 ys ++ cur.toList.drop (xs.length + (nums .u8 ys).length)).toArray, ?_, ?_, ?_, .inl (by simp [Value.ownBlock])⟩
    · rw [hsize] at hf
      simp [Builtin.append_, run_underlying ht, sizeOf, typeInfo, hi, hsize, Builtin.lenOf, hroom, hf, Addr.add_lit, hst]
    · refine ⟨g, cap, _, fr, by rw [List.length_append], hb, setRow_heap W g cur _ e fr hg, by rw [List.length_append]; exact hroom, hc, ?_, ?_, hfr⟩
      · simp only [List.size_toArray, List.length_append, List.length_take, List.length_drop, Array.length_toList, nums_length, hs]
        omega
      · rw [htake, hlen]
        show (nums .u8 xs ++ nums .u8 ys ++ _).take (xs ++ ys).length = _
        rw [List.take_left' (by rw [List.length_append, nums_length, nums_length, List.length_append])]
    · exact ⟨rfl, rfl, rfl, by simp, fun k _ hk => setRow_other W g k _ (fun e' => hk (by simp [Value.ownBlock, e']))⟩
  · obtain ⟨g2, c2, he, _, hcell⟩ := h'.cells
    injection he with hg2 _ _
    have hg3 : g = g2 := by simpa using hg2
    subst hg3
    have holds : ∀ j u, (nums .u8 xs)[j]? = some u → W.cell? ((⟨g, 0, none⟩ : Addr).add j) = some u := fun j u hj => by
      have ha : (⟨g, 0, none⟩ : Addr).add j = ⟨g, j, none⟩ := by
        simp only [Addr.add, Nat.zero_add]
        split
        · rename_i h0; subst h0; rfl
        · rfl
      rw [ha]; exact hcell j u hj
    have hr := run_append_grow (P := P) W t ty e i (.int .u8 0) ht hi hz ⟨g, 0, none⟩ xs.length cap (nums .u8 xs) (by rw [nums_length, hsize, Nat.mul_one]) holds a ys.length c (nums .u8 ys) (by rw [nums_length, hsize, Nat.mul_one]) hnews (by omega) (by omega) (by rw [hby]; exact growslice_fits (by omega) (by omega))
    have hge := grownCap_ge W (xs.length + ys.length) cap e
    have hcm := grownCap_le_maxLen W (xs.length + ys.length) cap e (by simp only [maxLen]; omega)
    refine ⟨_, _, hr, ⟨W.heap.size, _, _, (0, 0), by rw [List.length_append], hbase, heap_alloc_new W.drew _, by rw [List.length_append]; exact hge, hcm, ?_, ?_, .inl rfl⟩, ⟨rfl, rfl, rfl, by simp, fun k hk _ => heap_alloc_old W.drew _ hk⟩, .inr ⟨_, rfl, Nat.le_refl _⟩⟩
    · have hz1 : (Value.int IntKind.u8 0).cells.size = 1 := rfl
      simp only [Array.size_append, List.size_toArray, size_zeroCells, hz1, nums_length]
      omega
    · simp only [Array.toList_append, List.append_assoc]
      rw [← List.append_assoc, ← hlen, ← nums_length .u8 (xs ++ ys)]
      exact List.take_left
section
variable {P : Program} {ops : Array Oper} {rest : List Oper} {o : Oper} {a : Act} {Q : Exit → Act → World → Prop}
theorem wp_append_M {w0 W : World} (base : Nat) (hgd : o.guard = none) (s x : Operand) (t e : TypeId)
    (ho : o.op = .call { callee := .builtin .append, args := #[s, x], argTypes := #[t, t] })
    (ht : P.underlying t = some (.slice e)) (hinfo : (P.info? e).map (fun i => (i.zero, i.size, i.bytes)) = some (some (.int .u8 0), 1, 1))
    (v : Value) (xs ys : List Int) (ad : Addr) (c : Nat) (hs : a.eval s = v) (hx : a.eval x = .slice (some ad) ys.length c)
    (HM : M e W base v xs) (hnews : ∀ j u, (nums .u8 ys)[j]? = some u → W.cell? (ad.add j) = some u) (HB : Below base w0 W) (hbase : base ≤ W.heap.size) (hl : xs.length + ys.length ≤ 140737488355328)
    (h : ∀ v1 w1, M e w1 base v1 (xs ++ ys) → Below base w0 w1 → W.grownBy w1 v.ownBlock → (v1.ownBlock = v.ownBlock ∨ ∃ b, v1.ownBlock = some b ∧ W.heap.size ≤ b) → wpList P ops Q rest (a.put o.dst v1) w1) :
    wpList P ops Q (o :: rest) a W := by
  obtain ⟨i0, hi, hzz⟩ := Option.map_eq_some_iff.1 hinfo
  simp only [Prod.mk.injEq] at hzz
  obtain ⟨hz0, hz1, hz2⟩ := hzz
  obtain ⟨v1, w1, hr1, h2, hg, hat⟩ := run_append_M (P := P) W base t o.type e i0 ht hi hz0 hz1 hz2 v xs ys HM ad c hnews hl hbase
  refine wpList_plain hgd fun K hK => ?_
  unfold Oper.wp execOp
  simp only [ho, resolve, invoke, builtin, Sem.run_bind, Sem.run_pure, Result.andThen_ok, List.map_toArray, List.map_cons, List.map_nil, hs, hx, hr1]
  exact hK _ _ (h v1 w1 h2 (HB.grown hg hbase (fun k hk => (HM.lt k hk).1)) hg hat)
/-- One byte, out of the literal that the walk has just laid. -/
theorem wp_append_one {w0 W W1 : World} (base : Nat) (hgd : o.guard = none) (s x : Operand) (t e : TypeId) (p : Int)
    (ho : o.op = .call { callee := .builtin .append, args := #[s, x], argTypes := #[t, t] })
    (ht : P.underlying t = some (.slice e)) (hinfo : (P.info? e).map (fun i => (i.zero, i.size, i.bytes)) = some (some (.int .u8 0), 1, 1))
    (v : Value) (xs : List Int) (g : Nat) (hW : W = W1.alloc (.cells #[.int .u8 p] e)) (hs : a.eval s = v) (hx : a.eval x = .slice (some ⟨g, 0, none⟩) 1 1) (hg : g = W1.heap.size)
    (HM : M e W1 base v xs) (HB : Below base w0 W1) (hbase : base ≤ W1.heap.size) (hl : xs.length + 1 ≤ 140737488355328)
    (h : ∀ v1 w1, M e w1 base v1 (xs ++ [p]) → Below base w0 w1 → W1.grownBy w1 v.ownBlock → (v1.ownBlock = v.ownBlock ∨ ∃ b, v1.ownBlock = some b ∧ W1.heap.size ≤ b) → wpList P ops Q rest (a.put o.dst v1) w1) :
    wpList P ops Q (o :: rest) a W := by
  subst hW
  refine wp_append_M (w0 := w0) base hgd s x t e ho ht hinfo v xs [p] ⟨g, 0, none⟩ 1 hs hx (HM.alloc _) ?_ (HB.alloc hbase _) (by simp; omega) hl ?_
  · intro j u hj
    have hj0 : j = 0 := by
      have := (List.getElem?_eq_some_iff.1 hj).1
      simp [nums] at this
      exact this
    subst hj0
    have hu : Value.int .u8 p = u := by simpa [nums] using hj
    subst hu hg
    exact World.cell?_alloc_mark W1 #[.int .u8 p] e (0, 0) 0
  · intro v1 w1 h1 h2 h3 h4
    have h3' : W1.grownBy w1 v.ownBlock := by
      refine ⟨h3.os.trans rfl, h3.tape.trans rfl, h3.output.trans rfl, Nat.le_trans (by simp) h3.size, fun k hk hne => ?_⟩
      have := h3.block k (by simp; omega) hne
      rw [this]
      exact heap_alloc_old W1 _ hk
    refine h v1 w1 h1 h2 h3' ?_
    rcases h4 with h4 | ⟨b, hb, hle⟩
    · exact .inl h4
    · exact .inr ⟨b, hb, Nat.le_trans (by simp) hle⟩
/-- A string turned into bytes. -/
theorem wp_conv {w0 W : World} (base : Nat) (hgd : o.guard = none) (src dst e : TypeId) (x : Operand) (y : ByteArray)
    (ho : o.op = .convert src dst x) (hx : a.eval x = .string y) {u : TypeDesc} (hs : P.underlying src = some u) (hd : P.underlying dst = some (.slice e)) (he : P.underlying e = some (.int .u8))
    (hy : y.size ≤ maxLen) (HB : Below base w0 W) (hbase : base ≤ W.heap.size)
    (h : ∀ v1 w1, M e w1 base v1 (bytesOf y) → Below base w0 w1 → W.grownBy w1 none → (∃ b, v1.ownBlock = some b ∧ W.heap.size ≤ b) → wpList P ops Q rest (a.put o.dst v1) w1) :
    wpList P ops Q (o :: rest) a W := by
  have hr := Go.Lib.run_convert_string_bytes (P := P) W src dst e y hs hd he
  have hg : W.grownBy (Go.Lib.bytesWorld W e y) none := ⟨rfl, rfl, rfl, by rw [Go.Lib.bytesWorld_size]; omega, fun k hk _ => Go.Lib.bytesWorld_at_old W e y k hk⟩
  have hge := grownCap_ge W y.size 0 e
  have hcs : (Go.Lib.bytesCells W e y).size = grownCap W y.size 0 e := by
    simp only [Go.Lib.bytesCells, Array.size_append, Array.size_map, Array.size_replicate]
    show y.size + _ = _
    omega
  have hM : M e (Go.Lib.bytesWorld W e y) base (.slice (some ⟨W.heap.size, 0, none⟩) y.size (grownCap W y.size 0 e)) (bytesOf y) := by
    refine ⟨W.heap.size, _, _, _, by rw [bytesOf_length], hbase, Go.Lib.bytesWorld_at_new W e y, by rw [bytesOf_length]; exact hge, grownCap_le_maxLen W y.size 0 e hy, hcs, ?_, .inr (by simp [hcs])⟩
    have e1 : (Go.Lib.bytesCells W e y).toList = nums .u8 (bytesOf y) ++ List.replicate (grownCap W y.size 0 e - y.size) (.int .u8 0) := by
      simp [Go.Lib.bytesCells, nums, bytesOf]
    rw [e1, ← nums_length .u8 (bytesOf y)]
    exact List.take_left
  refine Kd.event_run hgd (v := .slice (some ⟨W.heap.size, 0, none⟩) y.size (grownCap W y.size 0 e)) (w1 := Go.Lib.bytesWorld W e y) ?_ (h _ _ hM (HB.grown hg hbase (fun k hk => by cases hk)) hg ⟨_, rfl, Nat.le_refl _⟩)
  simp only [execOp, ho, hx, Sem.run_bind, hr, Result.andThen_ok]
  rfl
end
end Go.Proofs.Ytfgeffmlfbeodaa.Marked
