/- EV, part I: rows that are made, literals, copies, texts run through, comparisons of bytes. No program here. -/
import Derived.Test.YtpjkbjpjhkcofaaEvH
namespace Go.Proofs.Ytpjkbjpjhkcofaa.Ev
open Go Go.RowKit
set_option linter.unusedVariables false
set_option linter.unusedSimpArgs false
section
variable {P : Program} {ρ : Rho} {D : Nat → Prop} {G G' : Nat → Option Blk} {W W' : World} {T : Nat → Prop} {H H' : AH} {R Wr : List Nat} {env : List Value} {a : Act}
theorem clean_cells {z : Value} (h : clean z = true) (h1 : z.cells.size ≠ 1 ∨ z.oneCell' = true ∨ True) : ∀ v ∈ z.cells.toList, Ev.flat v = true ∨ ∃ cs, v = .tuple cs := by
  intro v hv
  unfold clean at h
  split at h
  · exact .inl (List.all_eq_true.1 h v hv)
  · rename_i cs
    simp [Value.cells] at hv
    exact .inr ⟨cs, hv⟩
  · rename_i q1 q2
    cases z <;> first | exact absurd rfl (q1 _) | exact absurd rfl (q2 _) | (simp [Value.cells] at hv; subst hv; exact .inl h)
theorem clean_VRs [Th] {z : Value} (h : clean z = true) : VRs ρ D z.cells.toList z.cells.toList := by
  unfold clean at h
  split at h
  · exact VRs.flat fun x hx => List.all_eq_true.1 h x hx
  · rename_i cs; exact .cons (.tuple (l := cs.toList) (l' := cs.toList) (VRs.flat fun x hx => List.all_eq_true.1 h x hx)) .nil
  · rename_i h1 h2; cases z <;> first | exact .cons (.flat h) .nil | exact absurd rfl (h1 _) | exact absurd rfl (h2 _)
theorem made_VRs [Th] {z : Value} (h : clean z = true) (n : Nat) (hn : n = 0 ∨ 0 < z.cells.size) : VRs ρ D (madeCells z.cells n).toList (madeCells z.cells n).toList := by
  refine VRs.of_get rfl fun i v hv => ⟨v, hv, ?_⟩
  have hi : i < n := by
    have := (List.getElem?_eq_some_iff.1 hv).1
    simpa [madeCells] using this
  have h0 : 0 < z.cells.size := by omega
  have hm : i % z.cells.size < z.cells.size := Nat.mod_lt _ h0
  have e : v = z.cells[i % z.cells.size]'hm := by
    simp [madeCells, hi] at hv
    rw [← hv]
    exact getElem!_pos z.cells _ hm
  obtain ⟨u, hu, hr⟩ := (clean_VRs (ρ := ρ) (D := D) h).get (i % z.cells.size) v (by simp [e])
  simp [hm] at hu
  rw [← hu, ← e] at hr
  exact hr
theorem made_one {z : Value} (n : Nat) : (madeCells z.cells n).size = n := by simp [madeCells]
theorem makeSlice_sound [Th] {o : Oper} {t : TypeId} {x y : Operand} (ho : o.op = .makeSlice t x y) {e : TypeId} {i : TypeInfo} {z : Value} {xv yv : Value} {l c : Nat} (hu : P.underlying t = some (.slice e)) (hi : P.info? e = some i) (hz : i.zero = some z) (hx : aeval env x = some xv) (hy : aeval env y = some yv) (hl : asNat xv = some l) (hc : asNat yv = some c)
    (hcl : clean z = true) (hlc : l ≤ c) (hb : i.bytes * c ≤ 2 ^ 40) (hc40 : c ≤ 2 ^ 40) (hzs : z.cells.size = i.size) (h0 : c * i.size = 0 ∨ i.size ≠ 0) (he : VRs ρ D env a.tmps.toList) (hp : Pre ρ D G W T H (H.new ⟨.cells (madeCells z.cells (c * i.size)).toList i.size, true, none⟩) [] []) :
    OpOk P o a ρ D G W T H (H.new ⟨.cells (madeCells z.cells (c * i.size)).toList i.size, true, none⟩) [] (.slice (some ⟨H.next, 0, none⟩) l c) := by
  obtain ⟨k1, rfl⟩ := asNat_int hl
  obtain ⟨k2, rfl⟩ := asNat_int hc
  have e1 := VR.flat_eq (aeval_sound he hx) rfl
  have e2 := VR.flat_eq (aeval_sound he hy) rfl
  have hb' : (i.bytes : Int) * (c : Int) ≤ 281474976710656 := by
    have h : ((i.bytes * c : Nat) : Int) ≤ 281474976710656 := by omega
    rwa [Int.natCast_mul] at h
  have hrun := run_make (P := P) W t e i z hu hi hz k1 k2 (l : Int) (c : Int) (by omega) (by omega) hb' (by omega)
  simp only [Int.toNat_natCast] at hrun
  refine ⟨_, _, .inl ?_, post_alloc hp (C := madeCells z.cells (c * i.size)) (t := e) (fr := (0, 0)) (by simp) ?_ (.inl rfl) (v' := .slice (some ⟨W.heap.size, 0, none⟩) l c) (fun ρ' er => ?_)⟩
  · unfold execOp
    simp only [ho, e1, e2]
    rw [Sem.run_bind, hrun]
    rfl
  · rw [List.take_of_length_le (by simp)]
    exact made_VRs hcl _ (by
      rcases h0 with h | h
      · exact .inl h
      · exact .inr (by omega))
  · have := VR.slice (ρ := ρ') (D := fun id => D id ∨ id = H.next) (b := H.next) (i := 0) (l := l) (c := c) (c' := c) (.inr rfl) hlc (Nat.le_refl _) (by rw [er]; simp [made_one])
    rw [er] at this
    exact this
/-! ### literals -/
def PRs [Th] (ρ : Rho) (D : Nat → Prop) : List (Nat × Value) → List (Nat × Value) → Prop
  | [], [] => True
  | (i, v) :: r, (j, v') :: r' => i = j ∧ VR ρ D v v' ∧ PRs ρ D r r'
  | _, _ => False
theorem aparts_sound [Th] (he : VRs ρ D env a.tmps.toList) : ∀ {ps : List (Nat × Operand)} {vs : List (Nat × Value)}, aparts env ps = some vs → PRs ρ D vs (ps.map fun (i, x) => (i, a.eval x))
  | [], vs, h => by simp [aparts] at h; subst h; exact trivial
  | (i, x) :: r, vs, h => by
    simp only [aparts, Option.bind_eq_bind, Option.bind_eq_some_iff, Option.some.injEq] at h
    obtain ⟨v, hv, vs', hvs, rfl⟩ := h
    exact ⟨rfl, aeval_sound he hv, aparts_sound he hvs⟩
theorem VR.cells_size [Th] {v v' : Value} (h : VR ρ D v v') : v'.cells.size = v.cells.size := by
  cases h with
  | agg h => simpa [Value.cells] using h.length
  | hole => rw [cells_one (Th.one _)]; rfl
  | _ => rfl
theorem VR.cells_VRs [Th] {v v' : Value} (h : VR ρ D v v') : VRs ρ D v.cells.toList v'.cells.toList := by
  cases h with
  | agg h => exact h
  | flat hf => cases v <;> first | exact .cons (.flat hf) .nil | simp [Ev.flat] at hf
  | ptr hD => exact .cons (.ptr hD) .nil
  | slice hD hl hc he => exact .cons (.slice hD hl hc he) .nil
  | empty hD => exact .cons (.empty hD) .nil
  | map hD => exact .cons (.map hD) .nil
  | hole => exact hole_cells _
  | tuple h => exact .cons (.tuple h) .nil
  | func h1 h2 => exact .cons (.func h1 h2) .nil
theorem foldl_set [Th] (off : Nat) : ∀ (vs vs' : List Value) (k : Nat) (cs cs' : Array Value), VRs ρ D vs vs' → VRs ρ D cs.toList cs'.toList →
    VRs ρ D ((vs.zipIdx k).foldl (fun cs (c, j) => cs.setIfInBounds (off + j) c) cs).toList ((vs'.zipIdx k).foldl (fun cs (c, j) => cs.setIfInBounds (off + j) c) cs').toList
  | [], _, _, _, _, .nil, hc => hc
  | v :: vs, _, k, cs, cs', .cons h t, hc => by
    simp only [List.zipIdx_cons, List.foldl_cons]
    refine foldl_set off vs _ (k + 1) _ _ t ?_
    simpa using hc.set (off + k) h
theorem foldl_zipIdx (off : Nat) (v : Array Value) (cs : Array Value) : v.zipIdx.foldl (fun cs (c, j) => cs.setIfInBounds (off + j) c) cs = (v.toList.zipIdx).foldl (fun cs (c, j) => cs.setIfInBounds (off + j) c) cs := by
  rw [← Array.foldl_toList]
  simp [Array.toList_zipIdx]
theorem fill_sound [Th] (place : Nat → Option (Nat × Nat)) : ∀ (ps ps' : List (Nat × Value)) (cs cs' r : Array Value), PRs ρ D ps ps' → VRs ρ D cs.toList cs'.toList → Instr.fill place cs ps = some r → ∃ r', Instr.fill place cs' ps' = some r' ∧ VRs ρ D r.toList r'.toList
  | [], [], cs, cs', r, _, hc, h => by simp [Instr.fill] at h; subst h; exact ⟨cs', rfl, hc⟩
  | [], _ :: _, _, _, _, hp, _, _ => hp.elim
  | _ :: _, [], _, _, _, hp, _, _ => by simp [PRs] at hp
  | (i, v) :: ps, (j, v') :: ps', cs, cs', r, hp, hc, h => by
    obtain ⟨rfl, hv, hp⟩ := hp
    have hsz : cs'.size = cs.size := by simpa using hc.length
    have hvz := hv.cells_size
    simp only [Instr.fill] at h ⊢
    cases hpl : place i with
    | none => rw [hpl] at h; cases h
    | some q =>
      obtain ⟨off, size⟩ := q
      rw [hpl] at h
      simp only at h ⊢
      rw [hvz, hsz]
      split at h
      · cases h
      · rename_i hcond
        rw [if_neg hcond]
        refine fill_sound place ps ps' _ _ r hp ?_ h
        rw [foldl_zipIdx, foldl_zipIdx]
        exact foldl_set off _ _ 0 _ _ hv.cells_VRs hc
theorem places_run [Th] : ∀ {fs : List Field} {ns : List (Nat × Nat)}, aplaces P fs = some ns → ∀ W : World, (fs.mapM (fun f => sizeOf f.type >>= fun x => pure (f.offset, x)) : Sem (List (Nat × Nat))).run P W = .ok ns W
  | [], ns, h, W => by simp [aplaces] at h; subst h; rfl
  | f :: r, ns, h, W => by
    simp only [aplaces, Option.bind_eq_bind, Option.bind_eq_some_iff, Option.some.injEq] at h
    obtain ⟨n, hn, ns', hns, rfl⟩ := h
    rw [List.mapM_cons, Sem.run_bind, Sem.run_bind, run_sizeOf' hn]
    simp only [Result.andThen_ok, Sem.run_pure]
    rw [Sem.run_bind, places_run hns]
    rfl
theorem build_struct_sound [Th] {o : Oper} {t : TypeId} {parts : Array (Nat × Operand)} (ho : o.op = .build t parts) {z : Value} {fs : Array Field} {ps : List (Nat × Value)} {ns : List (Nat × Nat)} {cs : Array Value} (hz : zeroOf P t = some z) (hcl : clean z = true) (hu : P.underlying t = some (.struct fs)) (hps : aparts env parts.toList = some ps) (hns : aplaces P fs.toList = some ns)
    (hf : Instr.fill (ns.toArray[·]?) z.cells ps = some cs) (he : VRs ρ D env a.tmps.toList) (hp : Pre ρ D G W T H H [] []) : OpOk P o a ρ D G W T H H [] (.agg cs) := by
  obtain ⟨cs', hf', hr⟩ := fill_sound _ _ _ _ _ _ (aparts_sound he hps) (clean_VRs hcl) hf
  have hpt : (parts.map fun (i, x) => (i, a.eval x)).toList = parts.toList.map fun (i, x) => (i, a.eval x) := by simp
  have hpl : (fs.mapM (fun f => sizeOf f.type >>= fun x => pure (f.offset, x)) : Sem (Array (Nat × Nat))).run P W = .ok ns.toArray W := by
    rw [Array.mapM_eq_mapM_toList, ← bind_pure_comp, Sem.run_bind, places_run hns W]
    rfl
  refine ⟨.agg cs', W, .inl ?_, post_same hp.hr (.agg hr)⟩
  unfold execOp
  simp only [ho]
  unfold Instr.build
  simp only [Sem.run_bind, run_zeroValue' hz, Result.andThen_ok, underlying_of hu, hpl, hpt, hf']
  rfl
end
end Go.Proofs.Ytpjkbjpjhkcofaa.Ev
