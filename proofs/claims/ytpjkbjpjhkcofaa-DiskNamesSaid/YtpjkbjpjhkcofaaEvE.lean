/- EV, part E: operations, one by one, further ones. No program here. -/
import Derived.Test.YtpjkbjpjhkcofaaEvD
namespace Go.Proofs.Ytpjkbjpjhkcofaa.Ev
open Go Go.RowKit
set_option linter.unusedVariables false
set_option linter.unusedSimpArgs false
section
variable {P : Program} {ρ : Rho} {D : Nat → Prop} {G : Nat → Option Blk} {W W' : World} {T : Nat → Prop} {H H' : AH} {R Wr : List Nat} {env : List Value} {a : Act}
theorem indexAddr_array_sound [Th] {o : Oper} {t : TypeId} {x ix : Operand} (ho : o.op = .indexAddr t x ix) {e : TypeId} {iv : Value} {i n j len sz : Nat} (hu : P.underlying t = some (.array len e)) (hix : aeval env ix = some iv) (hi : asNat iv = some i) (hx : aeval env x = some (.pointer (some ⟨n, j, none⟩))) (hsz : szOf P e = some sz) (hlt : i < len) (he : VRs ρ D env a.tmps.toList) (hp : Pre ρ D G W T H H [] []) :
    OpOk P o a ρ D G W T H H [] (.pointer (some ⟨n, j + i * sz, none⟩)) := by
  obtain ⟨k, rfl⟩ := asNat_int hi
  have hiv := VR.flat_eq (aeval_sound he hix) rfl
  obtain ⟨hy, hD⟩ := ptr_form (aeval_sound he hx) rfl
  refine ⟨.pointer (some ⟨(ρ n).blk, (ρ n).off + (j + i * sz), none⟩), W, .inl ?_, post_same hp.hr (.ptr hD)⟩
  unfold execOp
  have hadd := Addr.add_mid (ρ n).blk ((ρ n).off + j) (i * sz)
  rw [Nat.add_assoc] at hadd
  have h0 : (0 : Int) ≤ (i : Int) ∧ (i : Int) < (len : Int) := by omega
  simp [ho, hy, hiv, Instr.indexAt, asIntOf, underlying_of hu, h0, hadd, run_sizeOf' hsz, Instr.sureAddr]
  intro h; omega
theorem agg_form [Th] {x x' : Value} {cs : Array Value} (h : VR ρ D x x') (hx : x = .agg cs) : ∃ cs' : Array Value, x' = .agg cs' ∧ VRs ρ D cs.toList cs'.toList := by
  subst hx
  cases cs with
  | mk l =>
    cases h with
    | flat hf => simp [Ev.flat] at hf
    | agg h => exact ⟨⟨_⟩, rfl, h⟩
theorem part_sound [Th] {t : TypeId} {cs cs' : Array Value} (h : VRs ρ D cs.toList cs'.toList) {off sz : Nat} {b : Bool} (hb : isAggB P t = some b) (hsz : szOf P t = some sz) {v : Value} (hv : (if b then some (.agg (cs.extract off (off + sz))) else cs[off]?) = some v) (W : World) : ∃ v', (part t cs' off).run P W = .ok v' W ∧ VR ρ D v v' := by
  unfold part
  cases b with
  | true =>
    simp only [if_true, Option.some.injEq] at hv
    subst hv
    refine ⟨.agg (cs'.extract off (off + sz)), ?_, ?_⟩
    · rw [Sem.run_bind, run_isAgg' hb]; simp [run_sizeOf' hsz]
    · have e : ∀ c : Array Value, c.extract off (off + sz) = ⟨(c.toList.drop off).take sz⟩ := fun c => by
        apply Array.toList_inj.1
        simp [Array.toList_extract, List.extract_eq_take_drop]
      rw [e, e]
      exact .agg ((h.drop off).take sz)
  | false =>
    simp only [Bool.false_eq_true, if_false] at hv
    obtain ⟨v', hv', hr⟩ := h.get off v (by simpa using hv)
    refine ⟨v', ?_, hr⟩
    rw [Sem.run_bind, run_isAgg' hb]
    have : cs'[off]? = some v' := by simpa using hv'
    simp [this]
theorem index_array_sound [Th] {o : Oper} {t : TypeId} {x ix : Operand} (ho : o.op = .index t x ix) {e : TypeId} {cs : Array Value} {iv v : Value} {i len sz : Nat} {b : Bool} (hu : P.underlying t = some (.array len e)) (hix : aeval env ix = some iv) (hi : asNat iv = some i) (hx : aeval env x = some (.agg cs)) (hsz : szOf P e = some sz) (hb : isAggB P e = some b) (hlt : i < len)
    (hv : (if b then some (.agg (cs.extract (i * sz) (i * sz + sz))) else cs[i * sz]?) = some v) (he : VRs ρ D env a.tmps.toList) (hp : Pre ρ D G W T H H [] []) : OpOk P o a ρ D G W T H H [] v := by
  obtain ⟨k, rfl⟩ := asNat_int hi
  have hiv := VR.flat_eq (aeval_sound he hix) rfl
  obtain ⟨cs', hy, hl⟩ := agg_form (aeval_sound he hx) rfl
  obtain ⟨v', hrun, hr⟩ := part_sound (P := P) hl hb hsz hv W
  refine ⟨v', W, .inl ?_, post_same hp.hr hr⟩
  unfold execOp
  have h0 : (0 : Int) ≤ (i : Int) ∧ (i : Int) < (len : Int) := by omega
  simp [ho, hy, hiv, Instr.index, asIntOf, underlying_of hu, h0, run_sizeOf' hsz, hrun]
  intro h; omega
theorem field_sound [Th] {o : Oper} {t : TypeId} {x : Operand} {f : Nat} (ho : o.op = .field t x f) {fs : Array Field} {fd : Field} {cs : Array Value} {v : Value} {sz : Nat} {b : Bool} (hu : P.underlying t = some (.struct fs)) (hfd : fs[f]? = some fd) (hsz : szOf P fd.type = some sz) (hb : isAggB P fd.type = some b) (hx : aeval env x = some (.agg cs))
    (hv : (if b then some (.agg (cs.extract fd.offset (fd.offset + sz))) else cs[fd.offset]?) = some v) (he : VRs ρ D env a.tmps.toList) (hp : Pre ρ D G W T H H [] []) : OpOk P o a ρ D G W T H H [] v := by
  obtain ⟨cs', hy, hl⟩ := agg_form (aeval_sound he hx) rfl
  obtain ⟨v', hrun, hr⟩ := part_sound (P := P) hl hb hsz hv W
  refine ⟨v', W, .inl ?_, post_same hp.hr hr⟩
  unfold execOp
  simp [ho, hy, Instr.field, underlying_of hu, hfd, asAgg, hrun]
/-- A store. -/
theorem post_write [Th] {n z : Nat} {l vs vs' : List Value} {s : Option Nat} {i : Nat} {H' : AH} (hl : H.cells n = some (l, z, s)) (hsn : s ≠ some n) (hv : VRs ρ D vs vs') (hle : i + vs.length ≤ l.length)
    (hH : H' = (H.killS s).put n ⟨.cells (l.take i ++ vs ++ l.drop (i + vs.length)) z, true, none⟩) (hp : Pre ρ D G W T H H' R (wr n s)) {v v' : Value} (hr : VR ρ D v v') : Post ρ D G W T H H' (wr n s) v v' (W.setCells (ρ n).blk ((ρ n).off + i) vs') := by
  have hkn : ∀ s : Option Nat, (H.killS s).next = H.next := fun s => by
    cases s with
    | none => rfl
    | some m => simp only [AH.killS, AH.kill]; cases H.get m <;> rfl
  have hnext : H'.next = H.next := by rw [hH]; simp only [AH.put]; exact hkn s
  have hD : ∀ E : Nat → Prop, Dn E H H' = E := fun E => by funext id; simp [Dn, hnext]; omega
  obtain ⟨hB, hG, hT, hDn⟩ := hp.cells (.inr (by cases s <;> simp [wr])) hl
  refine ⟨ρ, fun _ _ => rfl, by rw [hD]; exact hr, ?_, below_setCells _ _ _ W⟩
  rw [hD, hD]
  have hg1 : ∀ id, id ∈ wr n s → Gn G H H' (wr n s) id = H'.get id := fun id hid => by unfold Gn; rw [if_pos (.inl hid)]
  refine hp.hr.write hT hG hv hle ?_ (fun m b hm hTm hmn hb => ?_) (fun j hj hjs => ?_)
  · rw [hg1 n (by cases s <;> simp [wr]), hH, AH.get_put, if_pos rfl]
  · subst hm
    rw [hg1 m (by simp [wr]), hH, AH.get_put, if_neg hmn] at hb
    simp only [AH.killS, AH.kill] at hb
    cases hgm : H.get m with
    | none => rw [hgm] at hb; rw [hgm] at hb; cases hb
    | some c =>
      rw [hgm] at hb
      rw [AH.get_put, if_pos rfl] at hb
      simp only [Option.some.injEq] at hb
      rw [← hb]
  · unfold Gn
    rw [if_neg]
    rintro (h | ⟨h1, h2⟩)
    · cases s with
      | none => simp [wr] at h; exact hj h
      | some m =>
        simp [wr] at h
        rcases h with h | h
        · exact hj h
        · exact hjs (by rw [h])
    · rw [hnext] at h2; omega
theorem BlkR.there [Th] {n z : Nat} {l : List Value} (h : BlkR ρ D n W (.cells l z)) (i k : Nat) (hk : i + k ≤ (ρ n).ext) : W.there (ρ n).blk ((ρ n).off + i) k := by
  intro j hj
  have := h.2.1.cell (i + j) (by omega)
  rwa [← Nat.add_assoc] at this
theorem store_sound [Th] {o : Oper} {t : TypeId} {x y : Operand} (ho : o.op = .store t x y) {xv yv v : Value} (hx : aeval env x = some xv) (hy : aeval env y = some yv) (h : astore P H t xv yv = some (v, H', R, Wr)) (he : VRs ρ D env a.tmps.toList) (hp : Pre ρ D G W T H H' R Wr) : OpOk P o a ρ D G W T H H' Wr v := by
  unfold astore at h
  split at h
  · rename_i n i
    simp only [Option.bind_eq_bind, Option.bind_eq_some_iff] at h
    obtain ⟨⟨l, z, s⟩, hl, sz, hsz, h⟩ := h
    simp only at h
    split at h
    · rename_i hc
      obtain ⟨h1, h2, h3, h4⟩ := hc
      simp only [Option.some.injEq, Prod.mk.injEq] at h
      obtain ⟨rfl, rfl, rfl, rfl⟩ := h
      obtain ⟨hpx, hD⟩ := ptr_form (aeval_sound he hx) rfl
      have hry := aeval_sound he hy
      have hvs := cells_VRs hry h3
      have hlen := hvs.length
      obtain ⟨hB, hG, hT, hDn⟩ := hp.cells (.inr (by cases s <;> simp [wr])) hl
      have hone : (a.eval y).cells.toList.all (·.oneCell') = true := by
        rw [List.all_eq_true]
        intro u hu
        obtain ⟨q, hq⟩ := List.getElem?_of_mem hu
        obtain ⟨u0, hu0, hru⟩ := hvs.get' q u hq
        exact hru.oneCell (List.all_eq_true.1 h3 u0 (List.mem_of_getElem? hu0))
      refine ⟨undef, W.setCells (ρ n).blk ((ρ n).off + i) (a.eval y).cells.toList, .inr ⟨?_, rfl⟩, post_write hl h4 hvs h2 rfl hp (.tuple .nil)⟩
      unfold execOp
      have hext : i + (a.eval y).cells.toList.length ≤ (ρ n).ext := by have := hB.2.2.1; omega
      have hth := hB.there i (a.eval y).cells.toList.length hext
      have hst := run_storeCells_cells (P := P) (ρ n).blk ((ρ n).off + i) (a.eval y).cells.toList 0 W (fun j hj => by simpa using (hth j hj).1) (fun j hj => by simpa using (hth j hj).2) (fun u hu => List.all_eq_true.1 hone u hu)
      simp only [Nat.add_zero] at hst
      have hsz' : (a.eval y).cells.size = sz := by rw [← h1, ← hlen]; simp
      simp [ho, hpx, Instr.storeAt, Instr.sureAddr, storeVar, run_sizeOf' hsz, hsz', hst]
    · cases h
  · cases h
end
end Go.Proofs.Ytpjkbjpjhkcofaa.Ev
