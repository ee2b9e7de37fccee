/- EV, part F: append. No program here. -/
import Derived.Test.YtpjkbjpjhkcofaaEvE
import Derived.Deep.AppendSrc
import Derived.Deep.Upon
namespace Go.Proofs.Ytpjkbjpjhkcofaa.Ev
open Go Go.RowKit
set_option linter.unusedVariables false
set_option linter.unusedSimpArgs false
section
variable {P : Program} {ρ : Rho} {D : Nat → Prop} {G : Nat → Option Blk} {W W' : World} {T : Nat → Prop} {H H' : AH} {R Wr : List Nat} {env : List Value} {a : Act}
/-- What is appended, or copied. -/
theorem items_sound [Th] {sz n : Nat} {x x' : Value} {items : List Value} {rd : List Nat} (hi : aitems H sz n x = some (items, rd)) (hx : VR ρ D x x') (hl : ∃ m, alenOf x = some m ∧ n ≤ m) (hp : Pre ρ D G W T H H' R Wr) (hrd : ∀ id ∈ rd, id ∈ R) :
    ∃ news, VRs ρ D items news ∧ (∀ w : World, (∀ p, w.cell? p = W.cell? p) → (Builtin.firstCells sz n x').run P w = .ok news.toArray w) := by
  obtain ⟨m, hm, hnm⟩ := hl
  unfold aitems at hi
  split at hi
  · rename_i l c
    simp only [Option.some.injEq, Prod.mk.injEq] at hi
    obtain ⟨rfl, rfl⟩ := hi
    rw [VR.flat_eq hx rfl]
    exact ⟨[], .nil, fun w _ => by simp [Builtin.firstCells]⟩
  · rename_i b i l c
    simp only [Option.bind_eq_bind, Option.bind_eq_some_iff] at hi
    obtain ⟨⟨cs, z, sb⟩, hcs, hi⟩ := hi
    simp only at hi
    split at hi
    · rename_i hle
      simp only [Option.some.injEq, Prod.mk.injEq] at hi
      obtain ⟨rfl, rfl⟩ := hi
      obtain ⟨hB, _⟩ := hp.cells (.inl (hrd b (by simp))) hcs
      obtain ⟨news, hnews, hlen, hrng⟩ := hB.range i (n * sz) hle
      simp only [alenOf, Option.some.injEq] at hm
      cases hx with
      | flat hf => simp [Ev.flat] at hf
      | empty hD =>
        have h0 : n * sz = 0 := by have : n = 0 := by omega
                                   rw [this, Nat.zero_mul]
        refine ⟨news, hnews, fun w hw => ?_⟩
        have : news = [] := List.length_eq_zero_iff.1 (by omega)
        subst this
        simp [Builtin.firstCells, h0, loadCells, loadCellsFrom]
      | slice hD h1 h2 h3 =>
        refine ⟨news, hnews, fun w hw => run_firstCells_some w sz n _ _ _ news hlen (fun j v hj => ?_)⟩
        rw [hw, Addr.add_mid]
        exact hrng j v hj
    · cases hi
  · rename_i s
    simp only [Option.some.injEq, Prod.mk.injEq] at hi
    obtain ⟨rfl, rfl⟩ := hi
    rw [VR.flat_eq hx rfl]
    refine ⟨_, VRs.flat fun v hv => ?_, fun w _ => ?_⟩
    · obtain ⟨q, _, rfl⟩ := List.mem_map.1 hv; rfl
    · simp only [Builtin.firstCells, Sem.run_pure]
      congr 1
      apply Array.toList_inj.1
      simp
  · cases hi
theorem growBy_le (n : Nat) : ∀ (r c B : Nat), c ≤ B → n ≤ B → n + (n + 768) / 4 ≤ B → Builtin.growBy n r c ≤ B
  | 0, c, B, h, _, _ => h
  | r + 1, c, B, h, hn, hb => by
    rw [Builtin.growBy]
    split
    · exact h
    · exact growBy_le n r _ B (by omega) hn hb
theorem nextcap_le [Th] (n c : Nat) (h : c < n) : Builtin.nextslicecap n c ≤ 2 * n + 768 := by
  unfold Builtin.nextslicecap
  split
  · omega
  · split
    · omega
    · exact growBy_le n 4 c _ (by omega) (by omega) (by omega)
theorem grown_ge (W : World) (need cap : Nat) (e : TypeId) : need ≤ grownCap W need cap e := by
  unfold grownCap
  simp [Question.cut]
/-- The abstract heap behind an append onto a name. -/
noncomputable def appH (H : AH) (b z i e : Nat) (cs items : List Value) (sb : Option Nat) : AH :=
  ((H.killS sb).put b ⟨.cells cs z, decide (cs.length ≤ e), some H.next⟩).new ⟨.cells ((cs.take e).drop i ++ items) z, true, some b⟩
theorem killS_next (H : AH) (s : Option Nat) : (H.killS s).next = H.next := by
  cases s with
  | none => rfl
  | some m => simp only [AH.killS, AH.kill]; cases H.get m <;> rfl
theorem killS_dead {H : AH} {m : Nat} {b : Blk} (h : (H.killS (some m)).get m = some b) : b.live = false := by
  simp only [AH.killS, AH.kill] at h
  cases hgm : H.get m with
  | none => rw [hgm] at h; rw [hgm] at h; cases h
  | some c =>
    rw [hgm] at h
    rw [AH.get_put, if_pos rfl] at h
    simp only [Option.some.injEq] at h
    rw [← h]
theorem appH_next [Th] (H : AH) (b z i e : Nat) (cs items : List Value) (sb : Option Nat) : (appH H b z i e cs items sb).next = H.next + 1 := by
  simp only [appH, AH.new, AH.put, killS_next]
theorem appH_get [Th] (H : AH) (b z i e : Nat) (cs items : List Value) (sb : Option Nat) (m : Nat) : (appH H b z i e cs items sb).get m =
    if m = H.next then some ⟨.cells ((cs.take e).drop i ++ items) z, true, some b⟩ else if m = b then some ⟨.cells cs z, decide (cs.length ≤ e), some H.next⟩ else (H.killS sb).get m := by
  unfold appH
  rw [AH.get_new]
  have : ((H.killS sb).put b ⟨.cells cs z, decide (cs.length ≤ e), some H.next⟩).next = H.next := by simp only [AH.put, killS_next]
  rw [this, AH.get_put]
theorem wr_mem {n m : Nat} {s : Option Nat} : m ∈ wr n s ↔ m = n ∨ s = some m := by
  cases s with
  | none => simp [wr]
  | some k => simp [wr, eq_comm]
section
variable {b z i e : Nat} {cs items news : List Value} {sb : Option Nat}
theorem app_Dn [Th] (E : Nat → Prop) (H : AH) : Dn E H (appH H b z i e cs items sb) = fun id => E id ∨ id = H.next := by
  funext id
  simp only [Dn, appH_next]
  exact propext ⟨fun h => h.imp_right (fun h => by omega), fun h => h.imp_right (fun h => by omega)⟩
theorem app_Gn [Th] (hbn : b ≠ H.next) (id : Nat) : Gn G H (appH H b z i e cs items sb) (wr b sb) id =
    if id = H.next then some ⟨.cells ((cs.take e).drop i ++ items) z, true, some b⟩ else if id = b then some ⟨.cells cs z, decide (cs.length ≤ e), some H.next⟩ else if sb = some id then (H.killS sb).get id else G id := by
  unfold Gn
  rw [appH_get, appH_next]
  by_cases h1 : id = H.next
  · rw [if_pos (.inr ⟨by omega, by omega⟩), if_pos h1, if_pos h1]
  · by_cases h2 : id = b
    · rw [if_pos (.inl (wr_mem.2 (.inl h2))), if_neg h1, if_pos h2, if_neg h1, if_pos h2]
    · by_cases h3 : sb = some id
      · rw [if_pos (.inl (wr_mem.2 (.inr h3))), if_neg h1, if_neg h2, if_neg h1, if_neg h2, if_pos h3]
      · rw [if_neg (by
          rintro (h | h)
          · rcases wr_mem.1 h with h | h
            · exact h2 h
            · exact h3 h
          · omega), if_neg h1, if_neg h2, if_neg h3]
/-- In place. -/
theorem post_grow [Th] (hcs : H.cells b = some (cs, z, sb)) (hsb : sb ≠ some b) (hbn : b ≠ H.next) (hsn : sb ≠ some H.next) (hv : VRs ρ D items news) (hie : i ≤ e) (hel : e ≤ cs.length) (hx : e + items.length ≤ (ρ b).ext) (hz6 : z < 1000000) (hp : Pre ρ D G W T H (appH H b z i e cs items sb) R (wr b sb)) {v v' : Value}
    (hr : ∀ ρ' : Rho, ρ' H.next = ⟨(ρ b).blk, (ρ b).off + i, (ρ b).ext - i, (ρ b).esz⟩ → VR ρ' (fun id => D id ∨ id = H.next) v v') : Post ρ D G W T H (appH H b z i e cs items sb) (wr b sb) v v' (W.setCells (ρ b).blk ((ρ b).off + e) news) := by
  have hn : ¬ D H.next := hp.fresh _ (Nat.le_refl _) (by rw [appH_next]; omega)
  obtain ⟨hB, hG, hT, hDb⟩ := hp.cells (.inr (wr_mem.2 (.inl rfl))) hcs
  refine ⟨fun k => if k = H.next then ⟨(ρ b).blk, (ρ b).off + i, (ρ b).ext - i, (ρ b).esz⟩ else ρ k, fun id hid => if_neg (fun e : id = H.next => hn (by rw [← e]; exact hid)), by rw [app_Dn]; exact hr _ (if_pos rfl), ?_, below_setCells _ _ _ W⟩
  rw [app_Dn, app_Dn]
  refine hp.hr.grow hT hn hG hv hie hel hx hz6 ?_ ?_ (fun k c hk hTk hkb hc => ?_) (fun j hjb hjn hjs => ?_)
  · rw [app_Gn hbn, if_neg hbn, if_pos rfl]
  · rw [app_Gn hbn, if_pos rfl]
  · subst hk
    rw [app_Gn hbn, if_neg (fun e => hsn (by rw [e])), if_neg hkb, if_pos rfl] at hc
    exact killS_dead hc
  · rw [app_Gn hbn, if_neg hjn, if_neg hjb, if_neg (fun e => hjs e.symm)]
/-- In a new block. -/
theorem post_realloc [Th] (hcs : H.cells b = some (cs, z, sb)) (hsb : sb ≠ some b) (hbn : b ≠ H.next) (hsn : sb ≠ some H.next) {C : Array Value} {t : TypeId} {W0 : World} (hW0 : W0.heap = W.heap) (hbel : Below 0 W W0) (hle : ((cs.take e).drop i ++ items).length ≤ C.size) (hC : VRs ρ D ((cs.take e).drop i ++ items) (C.toList.take ((cs.take e).drop i ++ items).length))
    (hp : Pre ρ D G W T H (appH H b z i e cs items sb) R (wr b sb)) {v v' : Value} (hr : ∀ ρ' : Rho, ρ' H.next = ⟨W.heap.size, 0, C.size, z⟩ → VR ρ' (fun id => D id ∨ id = H.next) v v') : Post ρ D G W T H (appH H b z i e cs items sb) (wr b sb) v v' (W0.alloc (.cells C t)) := by
  have hn : ¬ D H.next := hp.fresh _ (Nat.le_refl _) (by rw [appH_next]; omega)
  obtain ⟨hB, hG, hT, hDb⟩ := hp.cells (.inr (wr_mem.2 (.inl rfl))) hcs
  have hsz : W0.heap.size = W.heap.size := by rw [hW0]
  have h0 : HR ρ D G W0 T := hp.hr.heap hW0
  have hold : ∀ j, T j → j ≠ H.next := fun j hj ej => hn (by rw [← ej]; exact hp.hr.dom j hj)
  refine ⟨fun k => if k = H.next then ⟨W0.heap.size, 0, C.size, z⟩ else ρ k, fun id hid => if_neg (fun e : id = H.next => hn (by rw [← e]; exact hid)), by rw [app_Dn]; exact hr _ (by rw [hsz]; exact if_pos rfl), ?_, below0_trans hbel (below0_alloc W0 _)⟩
  rw [app_Dn, app_Dn]
  have h1 := h0.alloc (G' := fun id => if id = H.next then some ⟨.cells ((cs.take e).drop i ++ items) z, true, none⟩ else G id) hn (o := .cells C t) (b := ⟨.cells ((cs.take e).drop i ++ items) z, true, none⟩) (ob := .cells ((cs.take e).drop i ++ items) z) (esz := z) (ext := C.size) rfl (if_pos rfl) (fun j hj => if_neg hj) (by
    unfold BlkR
    simp only [if_true]
    have hb : (W0.alloc (.cells C t)).heap[W0.heap.size]? = some (.cells C t) := by
      show (W0.heap.push _)[W0.heap.size]? = _
      simp
    refine ⟨⟨trivial, fun _ => trivial⟩, ⟨C, t, (0, 0), hb, by omega, .inl rfl⟩, hle, fun j v0 hj => ?_⟩
    obtain ⟨u, hu, hru⟩ := hC.get j v0 hj
    have hjl : j < ((cs.take e).drop i ++ items).length := (List.getElem?_eq_some_iff.1 hj).1
    rw [List.getElem?_take_of_lt hjl] at hu
    refine ⟨u, ?_, hru.mono (fun k hk => if_neg (fun e : k = H.next => hn (by rw [← e]; exact hk))) (fun _ => .inl)⟩
    have hcell : ∀ j, (W0.alloc (.cells C t)).cell? ⟨W0.heap.size, j, none⟩ = C[j]? := fun j => by unfold World.cell?; simp only [hb]; rfl
    rw [hcell]
    simpa using hu)
  refine h1.resib (fun j c hj hc hl => ?_) (fun j k x y x' y' hj hk hjk hgj hgk hgj' hgk' hl1 hl2 hs1 hs2 => ?_)
  · rw [app_Gn hbn] at hc
    by_cases e1 : j = H.next
    · rw [if_pos e1] at hc
      cases hc
      exact ⟨_, if_pos e1, rfl, rfl⟩
    · rw [if_neg e1] at hc
      by_cases e2 : j = b
      · rw [if_pos e2] at hc
        cases hc
        subst e2
        exact ⟨⟨.cells cs z, true, sb⟩, by show (if j = H.next then _ else G j) = _; rw [if_neg e1]; exact hG, rfl, rfl⟩
      · rw [if_neg e2] at hc
        by_cases e3 : sb = some j
        · rw [if_pos e3] at hc
          subst e3
          rw [killS_dead hc] at hl; cases hl
        · rw [if_neg e3] at hc
          exact ⟨c, by rw [if_neg e1]; exact hc, hl, rfl⟩
  · by_cases e1 : j = H.next
    · rw [if_pos e1] at hgj; cases hgj; cases hs1
    · by_cases e2 : k = H.next
      · rw [if_pos e2] at hgk; cases hgk; cases hs2
      · rw [if_neg e1] at hgj
        rw [if_neg e2] at hgk
        rw [app_Gn hbn, if_neg e1] at hgj'
        rw [app_Gn hbn, if_neg e2] at hgk'
        by_cases e3 : j = b
        · subst e3
          rw [hG] at hgj
          cases hgj
          rw [if_neg (fun e => hjk e.symm), if_pos hs1] at hgk'
          subst hs1
          rw [killS_dead hgk'] at hl2; cases hl2
        · by_cases e4 : k = b
          · subst e4
            rw [hG] at hgk
            cases hgk
            rw [if_neg e3, if_pos hs2] at hgj'
            subst hs2
            rw [killS_dead hgj'] at hl1; cases hl1
          · rw [if_neg e3] at hgj'
            rw [if_neg e4] at hgk'
            by_cases e5 : sb = some j
            · rw [if_pos e5] at hgj'
              subst e5
              rw [killS_dead hgj'] at hl1; cases hl1
            · by_cases e6 : sb = some k
              · rw [if_pos e6] at hgk'
                subst e6
                rw [killS_dead hgk'] at hl2; cases hl2
              · rw [if_neg e5] at hgj'
                rw [if_neg e6] at hgk'
                rw [hgj] at hgj'
                rw [hgk] at hgk'
                cases hgj'
                cases hgk'
                exact ⟨hs1, hs2⟩
end
/-- What an append does of whatever is appended. -/
structure SrcA (P : Program) (i : TypeInfo) (z : Value) (e tx : TypeId) (x : Value) (n : Nat) (news : List Value) (w : World) : Prop where
  newsLen : news.length = n * i.size
  nothing : n = 0 → ∀ (t ty : TypeId) (ht : P.underlying t = some (.slice e)) (base : Option Addr) (sLen sCap : Nat) (hle : sLen ≤ sCap), (Builtin.append_ #[t, tx] ty #[.slice base sLen sCap, x]).run P w = .ok (.slice base sLen sCap) w
  room : ∀ (t ty : TypeId) (ht : P.underlying t = some (.slice e)) (b off sLen sCap : Nat) (hroom : sLen + n ≤ sCap) (hc : ∀ j, j < news.length → (w.cell? ⟨b, off + sLen * i.size + j, none⟩).isSome = true) (hf : ∀ j, j < news.length → w.frozen? ⟨b, off + sLen * i.size + j, none⟩ = false),
    (Builtin.append_ #[t, tx] ty #[.slice (some ⟨b, off, none⟩) sLen sCap, x]).run P w = .ok (.slice (some ⟨b, off, none⟩) (sLen + n) sCap) (w.setCells b (off + sLen * i.size) news)
  grow : ∀ (t ty : TypeId) (ht : P.underlying t = some (.slice e)) (base : Option Addr) (sLen sCap : Nat) (olds : List Value) (hold : (Builtin.firstCells i.size sLen (.slice base sLen sCap)).run P w.drew = .ok olds.toArray w.drew) (hg : sCap < sLen + n) (h63 : ((sLen + n : Nat) : Int) ≤ 9223372036854775807) (hfit : Builtin.nextslicecap (sLen + n) sCap * i.bytes ≤ 281474976710656),
    (Builtin.append_ #[t, tx] ty #[.slice base sLen sCap, x]).run P w =
      .ok (.slice (some ⟨w.heap.size, 0, none⟩) (sLen + n) (grownCap w (sLen + n) sCap e))
        (w.drew.alloc (.cells ((olds ++ news).toArray ++ Builtin.zeroCells z.cells (grownCap w (sLen + n) sCap e - (sLen + n))) e))
theorem SrcA.of {i : TypeInfo} {z : Value} {e tx : TypeId} {x : Value} {n : Nat} {news : List Value} {w : World} (hi : P.info? e = some i) (hz : i.zero = some z) (hs : Src P i.size tx x n news w) : SrcA P i z e tx x n news w := by
  refine ⟨hs.newsLen, fun h0 t ty ht base sLen sCap hle => ?_, fun t ty ht b off sLen sCap hroom hc hf => run_append_room_src w t tx ty e i ht hi b off sLen sCap x n news hs hroom hc hf, fun t ty ht base sLen sCap olds hold hg h63 hfit => run_append_grow_src w t tx ty e i z ht hi hz base sLen sCap olds hold x n news hs hg h63 hfit⟩
  subst h0
  have : news = [] := List.length_eq_zero_iff.1 (by rw [hs.newsLen]; simp)
  subst this
  exact run_append_nothing w t tx ty e i ht hi base sLen sCap hle x hs
theorem zeroCells_one (c : Value) (n : Nat) : Builtin.zeroCells #[c] n = (List.replicate n c).toArray := by
  apply Array.ext
  · simp [Builtin.zeroCells]
  · intro j h1 h2
    simp [Builtin.zeroCells, Nat.mod_one]
theorem SrcA.zeros [Th] {i : TypeInfo} {z : Value} {c : Value} {e tx : TypeId} {k : IntKind} {n : Nat} {w : World} (hi : P.info? e = some i) (hz : i.zero = some z) (hzc : z.cells = #[c]) (hsz : i.size = 1) (hone : c.oneCell' = true) (hk : P.underlying tx = some (.int k)) (hn : n ≤ 2 ^ 20) (hb : i.bytes ≤ 2 ^ 20) :
    SrcA P i z e tx (.int .i64 (n : Int)) n (List.replicate n c) w := by
  have hw : IntKind.i64.wrap (n : Int) = (n : Int) := by
    simp [IntKind.wrap, IntKind.bits, IntKind.signed]
    omega
  have hw0 : IntKind.i64.wrap 0 = 0 := by decide
  have hmul : n * i.bytes ≤ 2 ^ 40 := Nat.le_trans (Nat.mul_le_mul hn hb) (by decide)
  have hlt : ¬ (281474976710656 < (n : Int) * (i.bytes : Int)) := by
    have : ((n * i.bytes : Nat) : Int) ≤ 2 ^ 40 := by exact_mod_cast hmul
    rw [Int.natCast_mul] at this
    omega
  have hneg : ¬ ((n : Int) < 0) := by omega
  refine ⟨by simp [hsz], fun h0 t ty ht base sLen sCap hle => ?_, fun t ty ht b off sLen sCap hroom hc hf => ?_, fun t ty ht base sLen sCap olds hold hg h63 hfit => ?_⟩
  · subst h0
    cases base <;> simp [Builtin.append_, run_underlying ht, run_underlying hk, sizeOf, typeInfo, hi, hle, asInt, asIntOf, hw, hw0, hlt, storeCells]
  · have hst := run_storeCells_cells (P := P) b (off + sLen * i.size) (List.replicate n c) 0 w (by simpa using hc) (by simpa using hf) (fun u hu => by rw [(List.mem_replicate.1 hu).2]; exact hone)
    simp only [Nat.add_zero] at hst
    by_cases h0 : n = 0
    · subst h0
      simp at hst
      simp [Builtin.append_, run_underlying ht, run_underlying hk, sizeOf, typeInfo, hi, asInt, asIntOf, hw, hw0, hlt, hroom, Addr.add_lit, hst, storeCells, World.setCells]
      intro h; omega
    · simp [Builtin.append_, run_underlying ht, run_underlying hk, sizeOf, typeInfo, zeroValue, hi, hz, hzc, hsz, asInt, asIntOf, hw, hw0, hlt, hneg, hroom, Addr.add_lit, h0, zeroCells_one]
      rw [hsz] at hst
      simp only [Nat.mul_one] at hst
      simp [hst]
  · have hn' : ¬ (sLen + n ≤ sCap) := by omega
    have h63' : ¬ (9223372036854775807 < ((sLen : Int) + (n : Int))) := by omega
    have h48' : ¬ (281474976710656 < Builtin.nextslicecap (sLen + n) sCap * i.bytes) := by omega
    rw [hsz] at hold
    by_cases h0 : n = 0
    · subst h0
      have q1 : ¬ (sLen ≤ sCap) := by omega
      have q2 : ¬ (9223372036854775807 < (sLen : Int)) := by omega
      have q3 : ¬ (281474976710656 < Builtin.nextslicecap sLen sCap * i.bytes) := by simpa using h48'
      simp [Builtin.append_, run_underlying ht, run_underlying hk, sizeOf, typeInfo, zeroValue, hi, hz, hzc, hsz, asInt, asIntOf, hw, hw0, hlt, q1, q2, q3, Question.forced, hold, newRow, grownCap]
    · simp [Builtin.append_, run_underlying ht, run_underlying hk, sizeOf, typeInfo, zeroValue, hi, hz, hzc, hsz, asInt, asIntOf, hw, hw0, hlt, hneg, hn', h63', h48', Question.forced, hold, newRow, grownCap, h0, zeroCells_one]
      congr 2
      apply Array.ext'
      simp only [Array.toList_append, Array.toList_replicate, List.toList_toArray, List.append_assoc]
      rw [List.replicate_append_replicate]
set_option maxRecDepth 100000 in
theorem append_sound [Th] {o : Oper} {s x : Operand} {ats : Array TypeId} (ho : o.op = .call { callee := .builtin .append, args := #[s, x], argTypes := ats }) {sv xv v : Value} (hs : aeval env s = some sv) (hx : aeval env x = some xv) (h : aappend P H ats sv xv = some (v, H', R, Wr)) (he : VRs ρ D env a.tmps.toList) (hp : Pre ρ D G W T H H' R Wr) : OpOk P o a ρ D G W T H H' Wr v := by
  unfold aappend at h
  simp only [Option.bind_eq_bind, Option.bind_eq_some_iff] at h
  obtain ⟨t, ht, u, hu, elem, hel, inf, hinf, zero, hzero, ⟨n, items, rd⟩, hsp, h⟩ := h
  simp only at h
  split at h
  case isFalse => cases h
  rename_i hc
  obtain ⟨hats, hclean, hzs, hil, hone⟩ := hc
  have hts : ats = #[t, u] := by
    apply Array.ext_getElem?
    intro j
    match j with
    | 0 => simpa using ht
    | 1 => simpa using hu
    | j + 2 => rw [Array.getElem?_eq_none (by omega), Array.getElem?_eq_none (by simp)]
  have htu := aelem_some hel
  have hxr := aeval_sound he hx
  have hsr := aeval_sound he hs
  have hrun : (execOp a.eval o).run P W = ((Builtin.append_ #[t, u] o.type #[a.eval s, a.eval x]).run P W).andThen fun v w => .ok (.value v) w := by
    unfold execOp
    simp [ho, hts, resolve, invoke, builtin]
  have mkSrc : (∀ id ∈ rd, id ∈ R) → ∃ news, VRs ρ D items news ∧ SrcA P inf zero elem u (a.eval x) n news W := by
    intro hrd
    unfold aspring at hsp
    split at hsp
    · rename_i m hm
      split at hsp
      · rename_i c hcells
        split at hsp
        · rename_i hb
          simp only [Option.some.injEq, Prod.mk.injEq] at hsp
          obtain ⟨rfl, rfl, rfl⟩ := hsp
          unfold azeros at hm
          split at hm
          · rename_i k q h1
            split at hm
            · rename_i h2
              simp only [Option.some.injEq] at hm
              have hxe := VR.flat_eq hxr rfl
              have hzc : zero.cells = #[c] := Array.toList_inj.1 (by simpa using hcells)
              have hs1 : inf.size = 1 := by rw [← hzs, hzc]; rfl
              have hmn : ((q.toNat : Nat) : Int) = q := Int.toNat_of_nonneg h2.1
              subst hm
              refine ⟨List.replicate q.toNat c, VRs.replicate (.flat hb.2) _, ?_⟩
              rw [hxe]
              have := SrcA.zeros (w := W) (e := elem) (n := q.toNat) hinf hzero hzc hs1 (by have := hb.2; cases c <;> simp_all [Value.oneCell', Ev.flat]) h1 (by omega) hb.1
              rwa [hmn] at this
            · cases hm
          · cases hm
        · cases hsp
      · cases hsp
    · simp only [Option.bind_eq_bind, Option.bind_eq_some_iff] at hsp
      obtain ⟨_, hut, n', hlen, ⟨items', rd'⟩, hit, hsp⟩ := hsp
      simp only [Option.some.injEq, Prod.mk.injEq] at hsp
      obtain ⟨rfl, rfl, rfl⟩ := hsp
      obtain ⟨news, hn1, hn2⟩ := items_sound hit hxr ⟨n', hlen, Nat.le_refl _⟩ hp hrd
      have hnl := hn1.length
      refine ⟨news, hn1, SrcA.of hinf hzero ⟨aspread_some hut, fun w' => ?_, hn2 W (fun _ => rfl), hn2 W.drew (fun _ => rfl), by omega, fun q hq => ?_⟩⟩
      · unfold alenOf at hlen
        generalize a.eval x = y at hxr
        split at hlen
        · simp only [Option.some.injEq] at hlen
          subst hlen
          cases hxr with
          | flat hf => rfl
          | empty hD => rfl
          | slice h1 h2 h3 h4 => rfl
        · simp only [Option.some.injEq] at hlen
          subst hlen
          rw [VR.flat_eq hxr rfl]; rfl
        · cases hlen
      · obtain ⟨j, hj⟩ := List.getElem?_of_mem hq
        obtain ⟨q0, hq0, hr⟩ := hn1.get' j q hj
        exact hr.oneCell (List.all_eq_true.1 hone q0 (List.mem_of_getElem? hq0))
  split at h
  · -- nothing is appended
    rename_i hn0
    subst hn0
    have nothing : ∀ (rd' : List Nat), (∀ id ∈ rd, id ∈ R) → (∃ base l c, a.eval s = .slice base l c ∧ l ≤ c) → (execOp a.eval o).run P W = .ok (.value (a.eval s)) W := by
      intro _ hrd ⟨base, l, c, e1, hlc⟩
      obtain ⟨news, hn1, hsrc⟩ := mkSrc hrd
      rw [hrun, e1, hsrc.nothing rfl t o.type htu base l c hlc]
      rfl
    split at h
    · simp only [Option.some.injEq, Prod.mk.injEq] at h
      obtain ⟨rfl, rfl, rfl, rfl⟩ := h
      have e1 := VR.flat_eq hsr rfl
      exact ⟨a.eval s, W, .inl (nothing rd (fun _ h => h) ⟨none, 0, 0, e1, Nat.le_refl _⟩), post_same hp.hr hsr⟩
    · simp only [Option.some.injEq, Prod.mk.injEq] at h
      obtain ⟨rfl, rfl, rfl, rfl⟩ := h
      refine ⟨a.eval s, W, .inl (nothing rd (fun _ h => h) ?_), post_same hp.hr hsr⟩
      generalize a.eval s = y at hsr
      cases hsr with
      | flat hf => simp [Ev.flat] at hf
      | empty hD => exact ⟨_, _, _, rfl, Nat.le_refl _⟩
      | slice h1 h2 h3 h4 => exact ⟨_, _, _, rfl, by omega⟩
    · cases h
  · rename_i hn0
    split at h
    · cases h
    · rename_i hsz0
      have hb1 : inf.bytes ≤ inf.bytes + 1 := Nat.le_succ _
      split at h
      · -- onto nil
        split at h
        case isFalse => cases h
        rename_i hcap
        simp only [Option.some.injEq, Prod.mk.injEq] at h
        obtain ⟨rfl, rfl, rfl, rfl⟩ := h
        obtain ⟨news, hn1, hsrc⟩ := mkSrc (fun _ h => h)
        have e1 := VR.flat_eq hsr rfl
        have hcapN := nextcap_le n 0 (by omega)
        have hmul : Builtin.nextslicecap n 0 * inf.bytes ≤ (2 * n + 768) * (inf.bytes + 1) := Nat.mul_le_mul hcapN hb1
        have hnn : n ≤ (2 * n + 768) * (inf.bytes + 1) := Nat.le_trans (by omega) (Nat.le_mul_of_pos_right _ (Nat.succ_pos _))
        have hg := hsrc.grow t o.type htu none 0 0 [] (by simp [Builtin.firstCells]) (by omega) (by simp only [Nat.zero_add]; omega) (by rw [Nat.zero_add]; omega)
        rw [Nat.zero_add] at hg
        rw [e1, hg] at hrun
        have hnl := hn1.length
        have hge := grown_ge W n 0 elem
        refine ⟨_, _, .inl hrun, ?_⟩
        have hCs : ((([] ++ news).toArray ++ Builtin.zeroCells zero.cells (grownCap W n 0 elem - n))).size = grownCap W n 0 elem * inf.size := by
          simp [Builtin.zeroCells, hnl, hil, hzs, ← Nat.add_mul]
          rw [show n + (grownCap W n 0 elem - n) = grownCap W n 0 elem by omega]
        obtain ⟨ρ', h1, h2, h3, h4⟩ := post_alloc (esz := inf.size) (W := W.drew) (t := elem) (fr := (0, 0)) (l := items) (H := H) (G := G) (C := ([] ++ news).toArray ++ Builtin.zeroCells zero.cells (grownCap W n 0 elem - n)) ⟨hp.hr.heap rfl, hp.tr, hp.g, hp.fresh⟩ (by rw [hCs, hil]; exact Nat.mul_le_mul_right _ hge) (by simp [← hnl]; exact hn1) (.inl rfl)
          (v := .slice (some ⟨H.next, 0, none⟩) n n) (v' := .slice (some ⟨W.heap.size, 0, none⟩) n (grownCap W n 0 elem)) (fun ρ' e => by
            have := VR.slice (ρ := ρ') (D := fun id => D id ∨ id = H.next) (b := H.next) (i := 0) (l := n) (c := n) (c' := grownCap W n 0 elem) (.inr rfl) (Nat.le_refl _) hge (by rw [e, hCs]; simp)
            rw [e] at this
            exact this)
        exact ⟨ρ', h1, h2, h3, below0_trans (w1 := W) (w2 := W.drew) ⟨rfl, rfl, rfl, Nat.le_refl _, fun k hk => by omega⟩ h4⟩
      · -- onto a name
        rename_i b i l c
        simp only [Option.bind_eq_bind, Option.bind_eq_some_iff] at h
        obtain ⟨⟨cs, z, sb⟩, hcs, h⟩ := h
        simp only at h
        split at h
        case isFalse => cases h
        rename_i hc2
        obtain ⟨q1, q2, q3, q4, q5, q7, q6⟩ := hc2
        simp only [Option.some.injEq, Prod.mk.injEq] at h
        obtain ⟨rfl, hH, rfl, rfl⟩ := h
        have hH' : H' = appH H b z i (i + l * inf.size) cs items sb := hH.symm
        subst hH'
        subst q5
        obtain ⟨news, hn1, hsrc⟩ := mkSrc (fun _ h => by simp [h])
        have hnl := hn1.length
        obtain ⟨hB, hG, hT, hDb⟩ := hp.cells (.inr (wr_mem.2 (.inl rfl))) hcs
        have hnn : 2 * (l + n) + 768 ≤ (2 * (l + n) + 768) * (inf.bytes + 1) := Nat.le_mul_of_pos_right _ (Nat.succ_pos _)
        have grow : ∀ (base : Option Addr) (c' : Nat), a.eval s = .slice base l c' → c' < l + n → (∃ olds, VRs ρ D ((cs.take (i + l * inf.size)).drop i) olds ∧ olds.length = l * inf.size ∧ (Builtin.firstCells inf.size l (.slice base l c')).run P W.drew = .ok olds.toArray W.drew) →
            OpOk P o a ρ D G W T H (appH H b inf.size i (i + l * inf.size) cs items sb) (wr b sb) (.slice (some ⟨H.next, 0, none⟩) (l + n) (l + n)) := by
          intro base c' e1 hlt ⟨olds, ho1, ho2, ho3⟩
          have hcapN := nextcap_le (l + n) c' hlt
          have hmul : Builtin.nextslicecap (l + n) c' * inf.bytes ≤ (2 * (l + n) + 768) * (inf.bytes + 1) := Nat.mul_le_mul hcapN hb1
          have hg := hsrc.grow t o.type htu base l c' olds ho3 hlt (by omega) (by omega)
          rw [e1, hg] at hrun
          have hge := grown_ge W (l + n) c' elem
          have hCs : ((olds ++ news).toArray ++ Builtin.zeroCells zero.cells (grownCap W (l + n) c' elem - (l + n))).size = grownCap W (l + n) c' elem * inf.size := by
            simp [Builtin.zeroCells, hnl, hil, hzs, ho2, ← Nat.add_mul]
            rw [show l + n + (grownCap W (l + n) c' elem - (l + n)) = grownCap W (l + n) c' elem by omega]
          have hll := (ho1.append hn1).length
          refine ⟨_, _, .inl hrun, post_realloc (W := W) hcs q2 q3 q4 (W0 := W.drew) rfl ⟨rfl, rfl, rfl, Nat.le_refl _, fun k hk => by omega⟩ ?_ ?_ hp (fun ρ' e => ?_)⟩
          · rw [hCs, ← hll, List.length_append, ho2, hnl, hil, ← Nat.add_mul]; exact Nat.mul_le_mul_right _ hge
          · rw [← hll]
            simp only [Array.toList_append, List.take_left', List.take_append_of_le_length (Nat.le_refl _), List.take_length]
            exact ho1.append hn1
          · have := VR.slice (ρ := ρ') (D := fun id => D id ∨ id = H.next) (b := H.next) (i := 0) (l := l + n) (c := l + n) (c' := grownCap W (l + n) c' elem) (.inr rfl) (Nat.le_refl _) hge (by rw [e, hCs]; simp)
            rw [e] at this
            exact this
        generalize hy : a.eval s = y at hsr
        cases hsr with
        | flat hf => simp [Ev.flat] at hf
        | empty hD =>
          refine grow _ 0 hy (by omega) ⟨[], ?_, by simp, by simp [Builtin.firstCells, loadCells, loadCellsFrom]⟩
          simp only [Nat.zero_mul, Nat.add_zero]
          rw [List.drop_of_length_le (by simp [List.length_take]; omega)]
          exact .nil
        | slice hD h1 h2 h3 =>
          rename_i c'
          have hz := hB.1.1
          rw [hz] at h3
          by_cases hlt : c' < l + n
          · obtain ⟨olds, ho1, ho2, ho3⟩ := hB.range i (l * inf.size) (by omega)
            refine grow _ c' hy hlt ⟨olds, ?_, ho2, run_firstCells_some W.drew inf.size l _ _ _ olds ho2 (fun j v hj => by rw [Addr.add_mid]; exact ho3 j v hj)⟩
            rw [List.drop_take, show i + l * inf.size - i = l * inf.size by omega]
            exact ho1
          · have hmul : (l + n) * inf.size ≤ c' * inf.size := Nat.mul_le_mul_right _ (by omega)
            rw [Nat.add_mul] at hmul
            have hx2 : i + l * inf.size + items.length ≤ (ρ b).ext := by rw [hil]; omega
            have hth := hB.there (i + l * inf.size) news.length (by rw [hnl]; exact hx2)
            have hr := hsrc.room t o.type htu (ρ b).blk ((ρ b).off + i) l c' (by omega) (fun j hj => by rw [Nat.add_assoc (ρ b).off]; exact (hth j hj).1) (fun j hj => by rw [Nat.add_assoc (ρ b).off]; exact (hth j hj).2)
            rw [hy, hr, Nat.add_assoc (ρ b).off] at hrun
            refine ⟨_, _, .inl hrun, post_grow hcs q2 q3 q4 hn1 (by omega) q1 hx2 q7 hp (fun ρ' e => ?_)⟩
            have := VR.slice (ρ := ρ') (D := fun id => D id ∨ id = H.next) (b := H.next) (i := 0) (l := l + n) (c := l + n) (c' := c') (.inr rfl) (Nat.le_refl _) (by omega) (by rw [e]; simp only; rw [hz]; omega)
            rw [e] at this
            exact this
      · cases h
end
end Go.Proofs.Ytpjkbjpjhkcofaa.Ev
