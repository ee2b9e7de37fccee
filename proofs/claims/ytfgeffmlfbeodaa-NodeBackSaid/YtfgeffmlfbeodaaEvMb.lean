/- EV, the second half: whole functions, drawn regions, closed runs. No condition. -/
import Derived.Test.YtfgeffmlfbeodaaEvMa
import Derived.Tactics
import Derived.LoopN
import Derived.Orders
import Derived.Test.YtfgeffmlfbeodaaRG
/- EV, part I: rows that are made, literals, copies, texts run through, comparisons of bytes. No program here. -/
namespace Go.Proofs.Ytfgeffmlfbeodaa.Ev
open Go Go.RowKit
set_option linter.unusedVariables false
set_option linter.unusedSimpArgs false
section
variable {P : Program} {ρ : Rho} {D : Nat → Prop} {G G' : Nat → Option Blk} {W W' : World} {T : Nat → Prop} {H H' : AH} {R Wr : List Nat} {env : List Value} {a : Act}
theorem clean_cells {z : Value} (h : clean z = true) (h1 : z.cells.size ≠ 1 ∨ z.oneCell' = true ∨ True) : ∀ v ∈ z.cells.toList, Ev.flat v = true ∨ ∃ cs, v = .tuple cs := by
  intro v hv
  unfold clean at h
  split at h
  · exact .inl (List.all_eq_true.1 h v hv)
  · rename_i cs
    simp [Value.cells] at hv
    exact .inr ⟨cs, hv⟩
  · rename_i q1 q2
    cases z <;> first | exact absurd rfl (q1 _) | exact absurd rfl (q2 _) | (simp [Value.cells] at hv; subst hv; exact .inl h)
theorem clean_VRs {z : Value} (h : clean z = true) : VRs ρ D z.cells.toList z.cells.toList := by
  unfold clean at h
  split at h
  · exact VRs.flat fun x hx => List.all_eq_true.1 h x hx
  · rename_i cs; exact .cons (.tuple (l := cs.toList) (l' := cs.toList) (VRs.flat fun x hx => List.all_eq_true.1 h x hx)) .nil
  · rename_i h1 h2; cases z <;> first | exact .cons (.flat h) .nil | exact absurd rfl (h1 _) | exact absurd rfl (h2 _)
theorem made_VRs {z : Value} (h : clean z = true) (n : Nat) (hn : n = 0 ∨ 0 < z.cells.size) : VRs ρ D (madeCells z.cells n).toList (madeCells z.cells n).toList := by
  refine VRs.of_get rfl fun i v hv => ⟨v, hv, ?_⟩
  have hi : i < n := by
    have := (List.getElem?_eq_some_iff.1 hv).1
    simpa [madeCells] using this
  have h0 : 0 < z.cells.size := by omega
  have hm : i % z.cells.size < z.cells.size := Nat.mod_lt _ h0
  have e : v = z.cells[i % z.cells.size]'hm := by
    simp [madeCells, hi] at hv
    rw [← hv]
    exact getElem!_pos z.cells _ hm
  obtain ⟨u, hu, hr⟩ := (clean_VRs (ρ := ρ) (D := D) h).get (i % z.cells.size) v (by simp [e])
  simp [hm] at hu
  rw [← hu, ← e] at hr
  exact hr
theorem made_one {z : Value} (n : Nat) : (madeCells z.cells n).size = n := by simp [madeCells]
theorem makeSlice_sound {o : Oper} {t : TypeId} {x y : Operand} (ho : o.op = .makeSlice t x y) {e : TypeId} {i : TypeInfo} {z : Value} {xv yv : Value} {l c : Nat} (hu : P.underlying t = some (.slice e)) (hi : P.info? e = some i) (hz : i.zero = some z) (hx : aeval env x = some xv) (hy : aeval env y = some yv) (hl : asNat xv = some l) (hc : asNat yv = some c)
    (hcl : clean z = true) (hlc : l ≤ c) (hb : i.bytes * c ≤ 2 ^ 40) (hc40 : c ≤ 2 ^ 40) (hzs : z.cells.size = i.size) (h0 : c * i.size = 0 ∨ i.size ≠ 0) (he : VRs ρ D env a.tmps.toList) (hp : Pre ρ D G W T H (H.new ⟨.cells (madeCells z.cells (c * i.size)).toList i.size, true, none⟩) [] []) :
    OpOk P o a ρ D G W T H (H.new ⟨.cells (madeCells z.cells (c * i.size)).toList i.size, true, none⟩) [] (.slice (some ⟨H.next, 0, none⟩) l c) := by
  obtain ⟨k1, rfl⟩ := asNat_int hl
  obtain ⟨k2, rfl⟩ := asNat_int hc
  have e1 := VR.flat_eq (aeval_sound he hx) rfl
  have e2 := VR.flat_eq (aeval_sound he hy) rfl
  have hb' : (i.bytes : Int) * (c : Int) ≤ 281474976710656 := by
    have h : ((i.bytes * c : Nat) : Int) ≤ 281474976710656 := by omega
    rwa [Int.natCast_mul] at h
  have hrun := run_make (P := P) W t e i z hu hi hz k1 k2 (l : Int) (c : Int) (by omega) (by omega) hb' (by omega)
  simp only [Int.toNat_natCast] at hrun
  refine ⟨_, _, .inl ?_, post_alloc hp (C := madeCells z.cells (c * i.size)) (t := e) (fr := (0, 0)) (by simp) ?_ (.inl rfl) (v' := .slice (some ⟨W.heap.size, 0, none⟩) l c) (fun ρ' er => ?_)⟩
  · unfold execOp
    simp only [ho, e1, e2]
    rw [Sem.run_bind, hrun]
    rfl
  · rw [List.take_of_length_le (by simp)]
    exact made_VRs hcl _ (by
      rcases h0 with h | h
      · exact .inl h
      · exact .inr (by omega))
  · have := VR.slice (ρ := ρ') (D := fun id => D id ∨ id = H.next) (b := H.next) (i := 0) (l := l) (c := c) (c' := c) (.inr rfl) hlc (Nat.le_refl _) (by rw [er]; simp [made_one])
    rw [er] at this
    exact this
/-! ### literals -/
def PRs (ρ : Rho) (D : Nat → Prop) : List (Nat × Value) → List (Nat × Value) → Prop
  | [], [] => True
  | (i, v) :: r, (j, v') :: r' => i = j ∧ VR ρ D v v' ∧ PRs ρ D r r'
  | _, _ => False
theorem aparts_sound (he : VRs ρ D env a.tmps.toList) : ∀ {ps : List (Nat × Operand)} {vs : List (Nat × Value)}, aparts env ps = some vs → PRs ρ D vs (ps.map fun (i, x) => (i, a.eval x))
  | [], vs, h => by simp [aparts] at h; subst h; exact trivial
  | (i, x) :: r, vs, h => by
    simp only [aparts, Option.bind_eq_bind, Option.bind_eq_some_iff, Option.some.injEq] at h
    obtain ⟨v, hv, vs', hvs, rfl⟩ := h
    exact ⟨rfl, aeval_sound he hv, aparts_sound he hvs⟩
theorem VR.cells_size {v v' : Value} (h : VR ρ D v v') : v'.cells.size = v.cells.size := by
  cases h with
  | agg h => simpa [Value.cells] using h.length
  | _ => rfl
theorem VR.cells_VRs {v v' : Value} (h : VR ρ D v v') : VRs ρ D v.cells.toList v'.cells.toList := by
  cases h with
  | agg h => exact h
  | flat hf => cases v <;> first | exact .cons (.flat hf) .nil | simp [Ev.flat] at hf
  | ptr hD => exact .cons (.ptr hD) .nil
  | slice hD hl hc he => exact .cons (.slice hD hl hc he) .nil
  | empty hD => exact .cons (.empty hD) .nil
  | tuple h => exact .cons (.tuple h) .nil
  | func h1 h2 => exact .cons (.func h1 h2) .nil
theorem foldl_set (off : Nat) : ∀ (vs vs' : List Value) (k : Nat) (cs cs' : Array Value), VRs ρ D vs vs' → VRs ρ D cs.toList cs'.toList →
    VRs ρ D ((vs.zipIdx k).foldl (fun cs (c, j) => cs.setIfInBounds (off + j) c) cs).toList ((vs'.zipIdx k).foldl (fun cs (c, j) => cs.setIfInBounds (off + j) c) cs').toList
  | [], _, _, _, _, .nil, hc => hc
  | v :: vs, _, k, cs, cs', .cons h t, hc => by
    simp only [List.zipIdx_cons, List.foldl_cons]
    refine foldl_set off vs _ (k + 1) _ _ t ?_
    simpa using hc.set (off + k) h
theorem foldl_zipIdx (off : Nat) (v : Array Value) (cs : Array Value) : v.zipIdx.foldl (fun cs (c, j) => cs.setIfInBounds (off + j) c) cs = (v.toList.zipIdx).foldl (fun cs (c, j) => cs.setIfInBounds (off + j) c) cs := by
  rw [← Array.foldl_toList]
  simp [Array.toList_zipIdx]
theorem fill_sound (place : Nat → Option (Nat × Nat)) : ∀ (ps ps' : List (Nat × Value)) (cs cs' r : Array Value), PRs ρ D ps ps' → VRs ρ D cs.toList cs'.toList → Instr.fill place cs ps = some r → ∃ r', Instr.fill place cs' ps' = some r' ∧ VRs ρ D r.toList r'.toList
  | [], [], cs, cs', r, _, hc, h => by simp [Instr.fill] at h; subst h; exact ⟨cs', rfl, hc⟩
  | [], _ :: _, _, _, _, hp, _, _ => hp.elim
  | _ :: _, [], _, _, _, hp, _, _ => by simp [PRs] at hp
  | (i, v) :: ps, (j, v') :: ps', cs, cs', r, hp, hc, h => by
    obtain ⟨rfl, hv, hp⟩ := hp
    have hsz : cs'.size = cs.size := by simpa using hc.length
    have hvz := hv.cells_size
    simp only [Instr.fill] at h ⊢
    cases hpl : place i with
    | none => rw [hpl] at h; cases h
    | some q =>
      obtain ⟨off, size⟩ := q
      rw [hpl] at h
      simp only at h ⊢
      rw [hvz, hsz]
      split at h
      · cases h
      · rename_i hcond
        rw [if_neg hcond]
        refine fill_sound place ps ps' _ _ r hp ?_ h
        rw [foldl_zipIdx, foldl_zipIdx]
        exact foldl_set off _ _ 0 _ _ hv.cells_VRs hc
theorem places_run : ∀ {fs : List Field} {ns : List (Nat × Nat)}, aplaces P fs = some ns → ∀ W : World, (fs.mapM (fun f => sizeOf f.type >>= fun x => pure (f.offset, x)) : Sem (List (Nat × Nat))).run P W = .ok ns W
  | [], ns, h, W => by simp [aplaces] at h; subst h; rfl
  | f :: r, ns, h, W => by
    simp only [aplaces, Option.bind_eq_bind, Option.bind_eq_some_iff, Option.some.injEq] at h
    obtain ⟨n, hn, ns', hns, rfl⟩ := h
    rw [List.mapM_cons, Sem.run_bind, Sem.run_bind, run_sizeOf' hn]
    simp only [Result.andThen_ok, Sem.run_pure]
    rw [Sem.run_bind, places_run hns]
    rfl
theorem build_struct_sound {o : Oper} {t : TypeId} {parts : Array (Nat × Operand)} (ho : o.op = .build t parts) {z : Value} {fs : Array Field} {ps : List (Nat × Value)} {ns : List (Nat × Nat)} {cs : Array Value} (hz : zeroOf P t = some z) (hcl : clean z = true) (hu : P.underlying t = some (.struct fs)) (hps : aparts env parts.toList = some ps) (hns : aplaces P fs.toList = some ns)
    (hf : Instr.fill (ns.toArray[·]?) z.cells ps = some cs) (he : VRs ρ D env a.tmps.toList) (hp : Pre ρ D G W T H H [] []) : OpOk P o a ρ D G W T H H [] (.agg cs) := by
  obtain ⟨cs', hf', hr⟩ := fill_sound _ _ _ _ _ _ (aparts_sound he hps) (clean_VRs hcl) hf
  have hpt : (parts.map fun (i, x) => (i, a.eval x)).toList = parts.toList.map fun (i, x) => (i, a.eval x) := by simp
  have hpl : (fs.mapM (fun f => sizeOf f.type >>= fun x => pure (f.offset, x)) : Sem (Array (Nat × Nat))).run P W = .ok ns.toArray W := by
    rw [Array.mapM_eq_mapM_toList, ← bind_pure_comp, Sem.run_bind, places_run hns W]
    rfl
  refine ⟨.agg cs', W, .inl ?_, post_same hp.hr (.agg hr)⟩
  unfold execOp
  simp only [ho]
  unfold Instr.build
  simp only [Sem.run_bind, run_zeroValue' hz, Result.andThen_ok, underlying_of hu, hpl, hpt, hf']
  rfl
end
end Go.Proofs.Ytfgeffmlfbeodaa.Ev

/- EV, part J: literals of rows, copies, texts run through, comparisons of bytes. No program here. -/
namespace Go.Proofs.Ytfgeffmlfbeodaa.Ev
open Go Go.RowKit
set_option linter.unusedVariables false
set_option linter.unusedSimpArgs false
section
variable {P : Program} {ρ : Rho} {D : Nat → Prop} {G G' : Nat → Option Blk} {W W' : World} {T : Nat → Prop} {H H' : AH} {R Wr : List Nat} {env : List Value} {a : Act}
theorem build_array_sound {o : Oper} {t : TypeId} {parts : Array (Nat × Operand)} (ho : o.op = .build t parts) {z : Value} {n sz : Nat} {elem : TypeId} {ps : List (Nat × Value)} {cs : Array Value} (hz : zeroOf P t = some z) (hcl : clean z = true) (hu : P.underlying t = some (.array n elem)) (hps : aparts env parts.toList = some ps) (hsz : szOf P elem = some sz)
    (hf : Instr.fill (fun i => some (i * sz, sz)) z.cells ps = some cs) (he : VRs ρ D env a.tmps.toList) (hp : Pre ρ D G W T H H [] []) : OpOk P o a ρ D G W T H H [] (.agg cs) := by
  obtain ⟨cs', hf', hr⟩ := fill_sound _ _ _ _ _ _ (aparts_sound he hps) (clean_VRs hcl) hf
  have hpt : (parts.map fun (i, x) => (i, a.eval x)).toList = parts.toList.map fun (i, x) => (i, a.eval x) := by simp
  refine ⟨.agg cs', W, .inl ?_, post_same hp.hr (.agg hr)⟩
  unfold execOp
  simp only [ho]
  unfold Instr.build
  simp only [Sem.run_bind, run_zeroValue' hz, Result.andThen_ok, underlying_of hu, run_sizeOf' hsz, hpt, hf']
  rfl
theorem buildSlice_sound {o : Oper} {t : TypeId} {len : Nat} {parts : Array (Nat × Operand)} (ho : o.op = .buildSlice t len parts) {z : Value} {sz : Nat} {elem : TypeId} {ps : List (Nat × Value)} {cs : Array Value} (hu : P.underlying t = some (.slice elem)) (hsz : szOf P elem = some sz) (hz : zeroOf P elem = some z) (hps : aparts env parts.toList = some ps) (hcl : clean z = true) (h24 : len * sz ≤ 2 ^ 24) (hzs : z.cells.size = sz)
    (hf : Instr.fill (fun i => some (i * sz, sz)) (madeCells z.cells (len * sz)) ps = some cs) (he : VRs ρ D env a.tmps.toList) (hp : Pre ρ D G W T H (H.new ⟨.cells cs.toList sz, true, none⟩) [] []) : OpOk P o a ρ D G W T H (H.new ⟨.cells cs.toList sz, true, none⟩) [] (.slice (some ⟨H.next, 0, none⟩) len len) := by
  have hmade : VRs ρ D (madeCells z.cells (len * sz)).toList (madeCells z.cells (len * sz)).toList := made_VRs hcl _ (by
    by_cases h : sz = 0
    · left; rw [h, Nat.mul_zero]
    · right; omega)
  obtain ⟨cs', hf', hr⟩ := fill_sound _ _ _ _ _ _ (aparts_sound he hps) hmade hf
  have hpt : (parts.map fun (i, x) => (i, a.eval x)).toList = parts.toList.map fun (i, x) => (i, a.eval x) := by simp
  have fsize : ∀ (place : Nat → Option (Nat × Nat)) (ps : List (Nat × Value)) (c r : Array Value), Instr.fill place c ps = some r → r.size = c.size := by
    intro place ps
    induction ps with
    | nil => intro c r h; simp [Instr.fill] at h; rw [h]
    | cons q ps ih =>
      obtain ⟨i, v⟩ := q
      intro c r h
      simp only [Instr.fill] at h
      split at h
      · cases h
      · split at h
        · cases h
        · rw [ih _ _ h, foldl_zipIdx]
          have : ∀ (off : Nat) (l : List (Value × Nat)) (c : Array Value), (l.foldl (fun cs (x : Value × Nat) => cs.setIfInBounds (off + x.2) x.1) c).size = c.size := by
            intro off l
            induction l with
            | nil => intro c; rfl
            | cons y l ih2 => intro c; rw [List.foldl_cons, ih2]; simp
          exact this _ _ _
  have hcsz : cs'.size = len * sz := by rw [fsize _ _ _ _ hf', made_one (z := z)]
  have hlen := hr.length
  have hzero : ∀ W : World, ((if len * sz = 0 then pure #[] else do pure (← zeroValue elem).cells) : Sem (Array Value)).run P W = .ok (if len * sz = 0 then #[] else z.cells) W := fun W => by
    by_cases h : len * sz = 0
    · simp only [if_pos h]; rfl
    · simp only [if_neg h]; rw [Sem.run_bind, run_zeroValue' hz]; rfl
  have hmd : (Array.range (len * sz)).map ((if len * sz = 0 then (#[] : Array Value) else z.cells)[· % (if len * sz = 0 then (#[] : Array Value) else z.cells).size]!) = madeCells z.cells (len * sz) := by
    by_cases h : len * sz = 0
    · rw [h]; simp [madeCells]
    · simp only [if_neg h]; rfl
  refine ⟨.slice (some ⟨W.heap.size, 0, none⟩) len len, W.alloc (.cells cs' elem), .inl ?_, post_alloc hp (by have : cs'.toList.length = cs'.size := Array.length_toList; omega) ?_ (.inl rfl) (fun ρ' er => ?_)⟩
  · unfold execOp
    simp only [ho]
    rw [Sem.run_bind]
    have : (Instr.buildSlice t len (parts.map fun (i, x) => (i, a.eval x))).run P W = .ok (.slice (some ⟨W.heap.size, 0, none⟩) len len) (W.alloc (.cells cs' elem)) := by
      unfold Instr.buildSlice
      rw [Sem.run_bind, underlying_of hu]
      simp only [Result.andThen_ok]
      rw [Sem.run_bind, run_sizeOf' hsz]
      simp only [Result.andThen_ok]
      rw [if_neg (by omega)]
      have step : ∀ (k : Array Value → Sem Value), (((if len * sz = 0 then pure #[] else do pure (← zeroValue elem).cells) : Sem (Array Value)) >>= k).run P W = (k (if len * sz = 0 then #[] else z.cells)).run P W := fun k => by
        rw [Sem.run_bind, hzero]; rfl
      by_cases h : len * sz = 0
      · simp only [if_pos h] at step hmd ⊢
        simp only [pure_bind, hmd, hpt, hf']
        rw [Sem.run_bind, run_newRow']; rfl
      · simp only [if_neg h] at step hmd ⊢
        rw [Sem.run_bind, run_zeroValue' hz]
        simp only [Result.andThen_ok, pure_bind, hmd, hpt, hf']
        rw [Sem.run_bind, run_newRow']; rfl
    rw [this]
    rfl
  · rw [List.take_of_length_le (by have : cs'.toList.length = cs'.size := Array.length_toList; omega)]; exact hr
  · have := VR.slice (ρ := ρ') (D := fun id => D id ∨ id = H.next) (b := H.next) (i := 0) (l := len) (c := len) (c' := len) (.inr rfl) (Nat.le_refl _) (Nat.le_refl _) (by rw [er, hcsz]; simp)
    rw [er] at this
    exact this
theorem lenOf_run {x x' : Value} {m : Nat} (h : alenOf x = some m) (hx : VR ρ D x x') (W : World) : (Builtin.lenOf x').run P W = .ok m W := by
  unfold alenOf at h
  split at h
  · simp only [Option.some.injEq] at h
    subst h
    cases hx with
    | flat hf => rfl
    | empty hD => rfl
    | slice h1 h2 h3 h4 => rfl
  · simp only [Option.some.injEq] at h
    subst h
    rw [VR.flat_eq hx rfl]; rfl
  · cases h
theorem copy_sound {o : Oper} {d x : Operand} {ats : Array TypeId} (ho : o.op = .call { callee := .builtin .copy, args := #[d, x], argTypes := ats }) {dv xv v : Value} (hd : aeval env d = some dv) (hx : aeval env x = some xv) (h : acopy P H ats dv xv = some (v, H', R, Wr)) (he : VRs ρ D env a.tmps.toList) (hp : Pre ρ D G W T H H' R Wr) : OpOk P o a ρ D G W T H H' Wr v := by
  unfold acopy at h
  simp only [Option.bind_eq_bind, Option.bind_eq_some_iff] at h
  obtain ⟨t, ht, elem, hel, sz, hsz, m, hm, h⟩ := h
  have htu := aelem_some hel
  have hxr := aeval_sound he hx
  have hdr := aeval_sound he hd
  have hrun : ∀ (base : Option Addr) (l c : Nat) (cells : Array Value), a.eval d = .slice base l c → (Builtin.firstCells sz (Nat.min m l) (a.eval x)).run P W = .ok cells W → (execOp a.eval o).run P W = (((match base with | some ad => storeCells ad cells.toList | none => pure ()) : Sem Unit).run P W).andThen fun _ w => .ok (.value (.int .i64 (Nat.min m l : Nat))) w := by
    intro base l c cells hb hc
    unfold execOp
    simp only [ho]
    have : (Builtin.copy_ ats o.type #[a.eval d, a.eval x]).run P W = (((match base with | some ad => storeCells ad cells.toList | none => pure ()) : Sem Unit).run P W).andThen fun _ w => .ok (.int .i64 (Nat.min m l : Nat)) w := by
      unfold Builtin.copy_
      simp only [ht, hb, List.getElem?_toArray, List.getElem?_cons_zero, List.getElem?_cons_succ]
      rw [Sem.run_bind, underlying_of htu]
      simp only [Result.andThen_ok]
      rw [Sem.run_bind, lenOf_run hm hxr W]
      simp only [Result.andThen_ok]
      rw [Sem.run_bind, run_sizeOf' hsz]
      simp only [Result.andThen_ok]
      rw [Sem.run_bind, hc]
      simp only [Result.andThen_ok]
      cases base with
      | none => simp [goInt]
      | some ad => rw [Sem.run_bind]; simp [goInt]
    simp only [resolve, List.map_toArray, List.map_cons, List.map_nil, pure_bind, invoke, builtin]
    rw [Sem.run_bind, this]
    cases base with
    | none => rfl
    | some ad => cases (storeCells ad cells.toList).run P W <;> rfl
  have hmin : ∀ l : Nat, ∃ q, alenOf xv = some q ∧ Nat.min m l ≤ q := fun l => ⟨m, hm, Nat.min_le_left _ _⟩
  split at h
  · rename_i l c
    simp only [Option.bind_eq_some_iff] at h
    obtain ⟨⟨items, rd⟩, hit, h⟩ := h
    simp only [Option.some.injEq, Prod.mk.injEq] at h
    obtain ⟨rfl, rfl, rfl, rfl⟩ := h
    obtain ⟨news, hn1, hn2⟩ := items_sound (P := P) hit hxr (hmin l) hp (fun _ h => h)
    have e1 := VR.flat_eq hdr rfl
    refine ⟨.int .i64 (Nat.min m l : Nat), W, .inl ?_, post_same hp.hr (.flat rfl)⟩
    rw [hrun none l c _ e1 (hn2 W (fun _ => rfl))]
    rfl
  · rename_i b i l c
    simp only [Option.bind_eq_some_iff] at h
    obtain ⟨⟨items, rd⟩, hit, ⟨cs, z, sb⟩, hcs, h⟩ := h
    simp only at h
    split at h
    case isFalse => cases h
    rename_i hc
    obtain ⟨q1, q2, q3⟩ := hc
    simp only [Option.some.injEq, Prod.mk.injEq] at h
    obtain ⟨rfl, rfl, rfl, rfl⟩ := h
    obtain ⟨news, hn1, hn2⟩ := items_sound (P := P) hit hxr (hmin l) hp (fun _ h => h)
    have hnl := hn1.length
    obtain ⟨hB, hG, hT, hDb⟩ := hp.cells (.inr (wr_mem.2 (.inl rfl))) hcs
    have hone : ∀ u ∈ news, u.oneCell' = true := fun u hu => by
      obtain ⟨j, hj⟩ := List.getElem?_of_mem hu
      obtain ⟨q0, hq0, hr⟩ := hn1.get' j u hj
      exact hr.oneCell (List.all_eq_true.1 q3 q0 (List.mem_of_getElem? hq0))
    have hext : i + news.length ≤ (ρ b).ext := by have := hB.2.2.1; omega
    have hth := hB.there i news.length hext
    have store : ∀ j, (j = (ρ b).off + i ∨ news = []) → (storeCells ⟨(ρ b).blk, j, none⟩ news).run P W = .ok () (W.setCells (ρ b).blk ((ρ b).off + i) news) := by
      intro j hj
      rcases hj with rfl | rfl
      · have hst := run_storeCells_cells (P := P) (ρ b).blk ((ρ b).off + i) news 0 W (fun j hj => by simpa using (hth j hj).1) (fun j hj => by simpa using (hth j hj).2) hone
        simpa using hst
      · rfl
    have hform : ∃ j c', a.eval d = .slice (some ⟨(ρ b).blk, j, none⟩) l c' ∧ (j = (ρ b).off + i ∨ news = []) := by
      generalize a.eval d = y at hdr
      cases hdr with
      | flat hf => simp [Ev.flat] at hf
      | empty hD =>
        refine ⟨_, _, rfl, .inr ?_⟩
        have : items.length = 0 := by
          unfold aitems at hit
          have h0 : Nat.min m 0 = 0 := Nat.min_zero _
          rw [h0] at hit
          split at hit
          · simp only [Option.some.injEq, Prod.mk.injEq] at hit; rw [← hit.1]; rfl
          · simp only [Option.bind_eq_bind, Option.bind_eq_some_iff] at hit
            obtain ⟨y, _, hit⟩ := hit
            split at hit
            · simp only [Option.some.injEq, Prod.mk.injEq] at hit; rw [← hit.1]; simp
            · cases hit
          · simp only [Option.some.injEq, Prod.mk.injEq] at hit; rw [← hit.1]; simp
          · cases hit
        exact List.length_eq_zero_iff.1 (by omega)
      | slice h1 h2 h3 h4 => exact ⟨_, _, rfl, .inl rfl⟩
    obtain ⟨j, c', hy, hj⟩ := hform
    refine ⟨.int .i64 (Nat.min m l : Nat), W.setCells (ρ b).blk ((ρ b).off + i) news, .inl ?_, post_write hcs q2 hn1 q1 rfl hp (.flat rfl)⟩
    rw [hrun _ l c' _ hy (hn2 W (fun _ => rfl))]
    simp only
    rw [store j hj]
    rfl
  · cases h
/-! ### comparisons of bytes -/
theorem loadBytes_run (b : Nat) : ∀ (ns : List Int) (o : Nat) (acc : ByteArray) (W : World), (∀ n ∈ ns, 0 ≤ n ∧ n < 256) → W.rangeAt b o (ns.map (Value.int .u8)) → (Extern.Bytes.loadBytes ⟨b, o, none⟩ ns.length acc).run P W = .ok ⟨⟨acc.data.toList ++ ns.map (fun n => UInt8.ofNat n.toNat)⟩⟩ W
  | [], o, acc, W, _, _ => by simp [Extern.Bytes.loadBytes]
  | n :: ns, o, acc, W, hn, hr => by
    have h0 : W.cell? ⟨b, o, none⟩ = some (.int .u8 n) := by
      have := hr 0 (.int .u8 n) (by simp)
      simpa using this
    rw [List.length_cons, Extern.Bytes.loadBytes]
    rw [Sem.run_bind, run_load]
    simp only [h0, Result.andThen_ok]
    have hadd := Addr.add_mid b o 1
    rw [hadd, loadBytes_run b ns (o + 1) _ W (fun m hm => hn m (by simp [hm])) (fun j v hj => by
      have := hr (j + 1) v (by simpa using hj)
      rwa [show o + (j + 1) = o + 1 + j by omega] at this)]
    have : (n.toNat).toUInt8 = UInt8.ofNat n.toNat := rfl
    simp [ByteArray.push, this]
theorem bytesOf_sound {x x' : Value} {bs : List UInt8} {rd : List Nat} (h : abytesOf H x = some (bs, rd)) (hx : VR ρ D x x') (hp : Pre ρ D G W T H H' R Wr) (hrd : ∀ id ∈ rd, id ∈ R) : (Extern.Bytes.bytesOf x').run P W = .ok ⟨⟨bs⟩⟩ W := by
  unfold abytesOf at h
  split at h
  · simp only [Option.some.injEq, Prod.mk.injEq] at h; rw [VR.flat_eq hx rfl, ← h.1]; rfl
  · rename_i b i n c
    simp only [Option.bind_eq_bind, Option.bind_eq_some_iff] at h
    obtain ⟨⟨l, z, sb⟩, hl, h⟩ := h
    simp only at h
    split at h
    · rename_i hle
      simp only [Option.bind_eq_some_iff, Option.some.injEq, Prod.mk.injEq] at h
      obtain ⟨bs', hbs, rfl, rfl⟩ := h
      obtain ⟨ns, h1, h2, h3⟩ := abytes_some hbs
      obtain ⟨hB, _⟩ := hp.cells (.inl (hrd b (by simp))) hl
      obtain ⟨news, hn1, hn2, hn3⟩ := hB.range i n hle
      rw [h1] at hn1
      have hnews := hn1.ints
      have hnn : ns.length = n := by have := congrArg List.length hnews; simp at this; omega
      cases hx with
      | flat hf => simp [Ev.flat] at hf
      | empty hD =>
        have : ns = [] := List.length_eq_zero_iff.1 hnn
        subst this
        rw [h2]
        rfl
      | slice q1 q2 q3 q4 =>
        show (Extern.Bytes.loadBytes _ n .empty).run P W = _
        rw [← hnn, loadBytes_run (ρ b).blk ns ((ρ b).off + i) _ W h3 (by rw [← hnews]; exact hn3), h2]
        simp
    · cases h
  · rename_i s
    simp only [Option.some.injEq, Prod.mk.injEq] at h
    rw [VR.flat_eq hx rfl, ← h.1]
    rfl
  · cases h
theorem compare_run {x y x' y' : Value} {v : Value} (h : acompare H [x, y] = some (v, H', R, Wr)) (hx : VR ρ D x x') (hy : VR ρ D y y') (hp : Pre ρ D G W T H H' R Wr) : H' = H ∧ Wr = [] ∧ Ev.flat v = true ∧ (Extern.BytealgCompare.compare #[x', y']).run P W = .ok v W := by
  unfold acompare at h
  simp only [Option.bind_eq_bind, Option.bind_eq_some_iff] at h
  obtain ⟨⟨bx, rx⟩, h1, ⟨by_, ry⟩, h2, h⟩ := h
  simp only [Option.some.injEq, Prod.mk.injEq] at h
  obtain ⟨rfl, rfl, rfl, rfl⟩ := h
  refine ⟨rfl, rfl, rfl, ?_⟩
  have e1 := bytesOf_sound (P := P) h1 hx hp (fun id hid => by simp [hid])
  have e2 := bytesOf_sound (P := P) h2 hy hp (fun id hid => by simp [hid])
  show Sem.run P (do pure (goInt (Extern.BytealgCompare.cmp (← Extern.Bytes.bytesOf x') (← Extern.Bytes.bytesOf y')))) W = _
  rw [Sem.run_bind, e1]
  simp only [Result.andThen_ok]
  rw [Sem.run_bind, e2]
  rfl
end
end Go.Proofs.Ytfgeffmlfbeodaa.Ev

/- EV, part K: what the evaluator says of an operation is so, whichever it is. No program here. -/
namespace Go.Proofs.Ytfgeffmlfbeodaa.Ev
open Go Go.RowKit
set_option linter.unusedVariables false
set_option linter.unusedSimpArgs false
section
variable {P : Program} {ρ : Rho} {D : Nat → Prop} {G G' : Nat → Option Blk} {W W' : World} {T : Nat → Prop} {H H' : AH} {R Wr : List Nat} {env : List Value} {a : Act}
theorem range_sound {o : Oper} {t : TypeId} {x : Operand} (ho : o.op = .range t x) {s : ByteArray} (hu : P.underlying t = some .string) (hx : aeval env x = some (.string s)) (he : VRs ρ D env a.tmps.toList) (hp : Pre ρ D G W T H (H.new ⟨.iter s 0, true, none⟩) [] []) :
    OpOk P o a ρ D G W T H (H.new ⟨.iter s 0, true, none⟩) [] (.pointer (some ⟨H.next, 0, none⟩)) := by
  have e1 := VR.flat_eq (aeval_sound he hx) rfl
  have hn : ¬ D H.next := hp.fresh _ (Nat.le_refl _) (Nat.lt_succ_self _)
  have hD : ∀ E : Nat → Prop, Dn E H (H.new ⟨.iter s 0, true, none⟩) = fun id => E id ∨ id = H.next := fun E => by
    funext id
    simp only [Dn, AH.new]
    exact propext ⟨fun h => h.imp_right (fun h => by omega), fun h => h.imp_right (fun h => by omega)⟩
  refine ⟨.pointer (some ⟨W.heap.size, 0, none⟩), W.alloc (.stringIter s 0), .inl ?_, fun i => if i = H.next then ⟨W.heap.size, 0, 0, 0⟩ else ρ i, fun id hid => if_neg (fun e : id = H.next => hn (by rw [← e]; exact hid)), ?_, ?_, below0_alloc W _⟩
  · unfold execOp
    simp only [ho, e1]
    have : (Instr.range t (.string s)).run P W = .ok (.pointer (some ⟨W.heap.size, 0, none⟩)) (W.alloc (.stringIter s 0)) := by
      unfold Instr.range
      simp only [Sem.run_bind, underlying_of hu, Result.andThen_ok, Sem.run_pure]
      rfl
    rw [Sem.run_bind, this]
    rfl
  · rw [hD]
    have := VR.ptr (ρ := fun i => if i = H.next then (⟨W.heap.size, 0, 0, 0⟩ : Loca) else ρ i) (D := fun id => D id ∨ id = H.next) (b := H.next) (i := 0) (.inr rfl)
    simpa using this
  · rw [hD, hD]
    refine hp.hr.alloc hn (o := .stringIter s 0) (b := ⟨.iter s 0, true, none⟩) (ob := .iter s 0) rfl ?_ (fun i hi => ?_) ?_
    · unfold Gn; rw [if_pos (.inr ⟨Nat.le_refl _, by simp [AH.new]⟩), AH.get_new, if_pos rfl]
    · unfold Gn
      rw [if_neg]
      rintro (h | ⟨h1, h2⟩)
      · simp at h
      · simp only [AH.new] at h2; omega
    · unfold BlkR
      simp only [if_true]
      refine ⟨trivial, ?_⟩
      show (W.heap.push _)[W.heap.size]? = _
      simp
theorem next_sound {o : Oper} {x : Operand} (ho : o.op = .next x true) {n : Nat} {s : ByteArray} {pos : Nat} (hx : aeval env x = some (.pointer (some ⟨n, 0, none⟩))) (hg : H.get n = some ⟨.iter s pos, true, none⟩) (he : VRs ρ D env a.tmps.toList) {v : Value}
    (h : (if pos < s.size then some (Value.tuple #[.bool true, .int .i64 pos, .int .i32 (Utf8.decode s pos).1], H.put n ⟨.iter s (pos + (Utf8.decode s pos).2), true, none⟩, ([] : List Nat), [n]) else some (Value.tuple #[.bool false], H, [n], [])) = some (v, H', R, Wr)) (hp : Pre ρ D G W T H H' R Wr) : OpOk P o a ρ D G W T H H' Wr v := by
  obtain ⟨hy, hDn⟩ := ptr_form (aeval_sound he hx) rfl
  have h0 : (ρ n).off = 0 := by
    have key : n ∈ R ∨ n ∈ Wr := by
      split at h <;> (simp only [Option.some.injEq, Prod.mk.injEq] at h; obtain ⟨_, _, rfl, rfl⟩ := h; simp)
    exact (hp.hr.blk n _ (hp.tr n key) ((hp.g n key).trans hg) rfl).1
  · rw [h0] at hy
    split at h
    · rename_i hlt
      simp only [Option.some.injEq, Prod.mk.injEq] at h
      obtain ⟨rfl, rfl, rfl, rfl⟩ := h
      have hT := hp.tr n (.inr (by simp))
      have hG := (hp.g n (.inr (by simp))).trans hg
      have hB : W.heap[(ρ n).blk]? = some (.stringIter s pos) := (hp.hr.blk n _ hT hG rfl).2
      have hlt2 := (Array.getElem?_eq_some_iff.1 hB).1
      refine ⟨.tuple #[.bool true, .int .i64 pos, .int .i32 (Utf8.decode s pos).1], { W with heap := W.heap.setIfInBounds (ρ n).blk (.stringIter s (pos + (Utf8.decode s pos).2)) }, .inl ?_, ρ, fun _ _ => rfl, ?_, ?_, ?_⟩
      · unfold execOp
        simp only [ho, hy, Nat.add_zero]
        have : (Instr.next (.pointer (some ⟨(ρ n).blk, 0, none⟩)) true o.type).run P W = .ok (.tuple #[.bool true, .int .i64 pos, .int .i32 (Utf8.decode s pos).1]) { W with heap := W.heap.setIfInBounds (ρ n).blk (.stringIter s (pos + (Utf8.decode s pos).2)) } := by
          unfold Instr.next
          simp only [Sem.run_bind]
          simp [getObj, Sem.run, hB, hlt, setObj, goInt]
        rw [Sem.run_bind, this]
        rfl
      · exact .tuple (l := [.bool true, .int .i64 pos, .int .i32 (Utf8.decode s pos).1]) (.cons (.flat rfl) (.cons (.flat rfl) (.cons (.flat rfl) .nil)))
      · have hD : ∀ E : Nat → Prop, Dn E H (H.put n ⟨.iter s (pos + (Utf8.decode s pos).2), true, none⟩) = E := fun E => by funext id; simp [Dn, AH.put]; omega
        rw [hD, hD]
        have g1 : Gn G H (H.put n ⟨.iter s (pos + (Utf8.decode s pos).2), true, none⟩) [n] n = some ⟨.iter s (pos + (Utf8.decode s pos).2), true, none⟩ := by
          unfold Gn; rw [if_pos (.inl (by simp)), AH.get_put, if_pos rfl]
        have g2 : ∀ j, j ≠ n → Gn G H (H.put n ⟨.iter s (pos + (Utf8.decode s pos).2), true, none⟩) [n] j = G j := fun j hj => by
          unfold Gn; rw [if_neg]; rintro (h | ⟨h1, h2⟩)
          · simp at h; exact hj h
          · simp [AH.put] at h2; omega
        refine ⟨hp.hr.dom, fun id b hid hb hl => ?_, fun i j b c hi hj hij hbi hcj hl1 hl2 hs => ?_⟩
        · by_cases e : id = n
          · subst e
            rw [g1] at hb
            cases hb
            refine ⟨h0, ?_⟩
            show (W.heap.setIfInBounds (ρ id).blk _)[(ρ id).blk]? = _
            rw [Array.getElem?_setIfInBounds_self_of_lt hlt2]
          · rw [g2 id e] at hb
            have h1 := hp.hr.blk id b hid hb hl
            have hd := hp.hr.dist id n b _ hid hT e hb hG hl rfl (fun hh => by cases hh.2)
            refine h1.same (fun _ _ => rfl) rfl (fun _ h => h) (by simp) ?_
            show (W.heap.setIfInBounds (ρ n).blk _)[(ρ id).blk]? = _
            rw [Array.getElem?_setIfInBounds_ne (fun e => hd e.symm)]
        · by_cases e1 : i = n
          · subst e1
            rw [g2 j (fun e => hij e.symm)] at hcj
            exact hp.hr.dist i j _ c hi hj hij hG hcj rfl hl2 (fun hh => by cases hh.1)
          · rw [g2 i e1] at hbi
            by_cases e2 : j = n
            · subst e2
              exact hp.hr.dist i j b _ hi hj hij hbi hG hl1 rfl (fun hh => by cases hh.2)
            · rw [g2 j e2] at hcj
              exact hp.hr.dist i j b c hi hj hij hbi hcj hl1 hl2 hs
      · exact ⟨rfl, rfl, rfl, by simp, fun k hk => by omega⟩
    · rename_i hlt
      simp only [Option.some.injEq, Prod.mk.injEq] at h
      obtain ⟨rfl, rfl, rfl, rfl⟩ := h
      have hT := hp.tr n (.inl (by simp))
      have hG := (hp.g n (.inl (by simp))).trans hg
      have hB : W.heap[(ρ n).blk]? = some (.stringIter s pos) := (hp.hr.blk n _ hT hG rfl).2
      refine ⟨.tuple #[.bool false], W, .inl ?_, post_same hp.hr (.tuple (l := [.bool false]) (.cons (.flat rfl) .nil))⟩
      unfold execOp
      simp only [ho, hy, Nat.add_zero]
      have : (Instr.next (.pointer (some ⟨(ρ n).blk, 0, none⟩)) true o.type).run P W = .ok (.tuple #[.bool false]) W := by
        unfold Instr.next
        simp only [Sem.run_bind]
        simp [getObj, Sem.run, hB, hlt]
      rw [Sem.run_bind, this]
      rfl
/-- What is said of calls. -/
def CallOk (P : Program) (call : CallF) : Prop := ∀ (f : FuncId) (args : List Value) (H : AH) (v : Value) (H' : AH) (R Wr : List Nat), call f args H = some (v, H', R, Wr) →
  ∀ (ρ : Rho) (D : Nat → Prop) (G : Nat → Option Blk) (W : World) (T : Nat → Prop) (args' : Array Value), VRs ρ D args args'.toList → Pre ρ D G W T H H' R Wr →
    Calls P f args' W fun e W' => ∃ v', e = .returned v' ∧ Post ρ D G W T H H' Wr v v' W'
/-- The comparison of bytes that has no body. -/
structure CmpOk (P : Program) (xc : Nat) : Prop where
  ok : ∀ fn, P.funcs[xc]? = some fn → (fn.name == "runtime.NumGoroutine") = false ∧ fn.body.isNone = true ∧ Extern.findNext fn = none ∧ Extern.find fn = some Extern.BytealgCompare.compare
theorem callee_form {v v' : Value} {args args' : List Value} {g : FuncId} {l : List Value} (h : acallee v args = some (g, l)) (hv : VR ρ D v v') (ha : VRs ρ D args args') : ∃ p q : List Value, v' = .func (.func g) ⟨p⟩ ⟨q⟩ ∧ VRs ρ D l (p ++ args' ++ q) := by
  unfold acallee at h
  split at h
  · rename_i f first captured
    simp only [Option.some.injEq, Prod.mk.injEq] at h
    obtain ⟨rfl, rfl⟩ := h
    cases hv with
    | flat hf => simp [Ev.flat] at hf
    | func h1 h2 => exact ⟨_, _, rfl, (h1.append ha).append h2⟩
  · cases h
theorem len_slice_sound' {o : Oper} {x : Operand} {args : Array Operand} {ats : Array TypeId} (ho : o.op = .call { callee := .builtin .len, args := args, argTypes := ats }) (hh : args.toList.head? = some x) {t e : TypeId} {s : Option Addr} {n c : Nat} (ht : ats[0]? = some t) (hu : P.underlying t = some (.slice e)) (hx : aeval env x = some (.slice s n c)) (he : VRs ρ D env a.tmps.toList) (hp : Pre ρ D G W T H H [] []) :
    OpOk P o a ρ D G W T H H [] (.int .i64 n) := by
  have hr := aeval_sound he hx
  have hform : ∃ s' c', a.eval x = .slice s' n c' := by
    generalize a.eval x = y at hr
    cases hr with
    | flat hf => exact ⟨_, _, rfl⟩
    | empty hD => exact ⟨_, _, rfl⟩
    | slice q1 q2 q3 q4 => exact ⟨_, _, rfl⟩
  obtain ⟨s', c', hy⟩ := hform
  refine ⟨.int .i64 n, W, .inl ?_, post_same hp.hr (.flat rfl)⟩
  have h0 : args[0]? = some x := by rw [← hh]; simp [List.head?_eq_getElem?]
  unfold execOp
  simp [ho, resolve, invoke, builtin, Builtin.len_, ht, h0, hy, run_underlying hu, goInt]
theorem len_array_sound' {o : Oper} {x : Operand} {args : Array Operand} {ats : Array TypeId} (ho : o.op = .call { callee := .builtin .len, args := args, argTypes := ats }) (hh : args.toList.head? = some x) {t e : TypeId} {n : Nat} (ht : ats[0]? = some t) (hu : P.underlying t = some (.array n e)) (hp : Pre ρ D G W T H H [] []) :
    OpOk P o a ρ D G W T H H [] (.int .i64 n) := by
  refine ⟨.int .i64 n, W, .inl ?_, post_same hp.hr (.flat rfl)⟩
  have h0 : args[0]? = some x := by rw [← hh]; simp [List.head?_eq_getElem?]
  unfold execOp
  simp [ho, resolve, invoke, builtin, Builtin.len_, ht, h0, run_underlying hu, goInt]
theorem aop_sound {xc : Nat} {call : CallF} (hcall : CallOk P call) (hcmp : CmpOk P xc) {o : Oper} {v : Value} (h : aop P xc call env o H = some (v, H', R, Wr)) (he : VRs ρ D env a.tmps.toList) (hp : Pre ρ D G W T H H' R Wr) {K : Act → World → Prop} {Q : Exit → Act → World → Prop}
    (hK : ∀ v' W', Post ρ D G W T H H' Wr v v' W' → K (a.put o.dst v') W') : Oper.wp P o a W K Q := by
  have fin : OpOk P o a ρ D G W T H H' Wr v → Oper.wp P o a W K Q := fun ⟨v', W', hr, hpost⟩ => wp_of_runs hr (hK v' W' hpost)
  have ok_eq : ∀ {u : Value}, some (u, H, ([] : List Nat), ([] : List Nat)) = some (v, H', R, Wr) → u = v ∧ H = H' ∧ [] = R ∧ [] = Wr := fun h => by
    simp only [Option.some.injEq, Prod.mk.injEq] at h; exact h
  unfold aop at h
  cases hop : o.op <;> simp only [hop] at h
  case move x =>
    simp only [Option.bind_eq_bind, Option.bind_eq_some_iff] at h
    obtain ⟨u, hu, h⟩ := h
    obtain ⟨rfl, rfl, rfl, rfl⟩ := ok_eq h
    exact fin (move_sound (.inl hop) hu he hp)
  case assign x =>
    simp only [Option.bind_eq_bind, Option.bind_eq_some_iff] at h
    obtain ⟨u, hu, h⟩ := h
    obtain ⟨rfl, rfl, rfl, rfl⟩ := ok_eq h
    exact fin (move_sound (.inr hop) hu he hp)
  case pick c x y =>
    simp only [Option.bind_eq_bind, Option.bind_eq_some_iff] at h
    obtain ⟨u, hu, h⟩ := h
    split at h
    · simp only [Option.bind_eq_some_iff] at h
      obtain ⟨w, hw, h⟩ := h
      obtain ⟨rfl, rfl, rfl, rfl⟩ := ok_eq h
      exact fin (pick_sound hop (b := true) hu hw he hp)
    · simp only [Option.bind_eq_some_iff] at h
      obtain ⟨w, hw, h⟩ := h
      obtain ⟨rfl, rfl, rfl, rfl⟩ := ok_eq h
      exact fin (pick_sound hop (b := false) hu hw he hp)
    · cases h
  case alloc t =>
    simp only [Option.bind_eq_bind, Option.bind_eq_some_iff] at h
    obtain ⟨z, hz, h⟩ := h
    split at h
    · rename_i hc
      simp only [anew, Option.some.injEq, Prod.mk.injEq] at h
      obtain ⟨rfl, rfl, rfl, rfl⟩ := h
      exact fin (alloc_sound hop hz hc hp)
    · cases h
  case box t x =>
    simp only [Option.bind_eq_bind, Option.bind_eq_some_iff] at h
    obtain ⟨u, hu, h⟩ := h
    split at h
    · rename_i hc
      simp only [anew, Option.some.injEq, Prod.mk.injEq] at h
      obtain ⟨rfl, rfl, rfl, rfl⟩ := h
      exact fin (box_sound hop hu hc he hp)
    · cases h
  case build t parts =>
    simp only [Option.bind_eq_bind, Option.bind_eq_some_iff] at h
    obtain ⟨z, hz, ps, hps, h⟩ := h
    split at h
    · rename_i hc
      split at h
      · rename_i fs hu
        simp only [Option.bind_eq_some_iff] at h
        obtain ⟨ns, hns, cs, hcs, h⟩ := h
        obtain ⟨rfl, rfl, rfl, rfl⟩ := ok_eq h
        exact fin (build_struct_sound hop hz hc hu hps hns hcs he hp)
      · rename_i n e hu
        simp only [Option.bind_eq_some_iff] at h
        obtain ⟨sz, hsz, cs, hcs, h⟩ := h
        obtain ⟨rfl, rfl, rfl, rfl⟩ := ok_eq h
        exact fin (build_array_sound hop hz hc hu hps hsz hcs he hp)
      · cases h
    · cases h
  case buildSlice t len parts =>
    simp only [Option.bind_eq_bind, Option.bind_eq_some_iff] at h
    obtain ⟨e, hel, sz, hsz, z, hz, ps, hps, h⟩ := h
    split at h
    · rename_i hc
      simp only [Option.bind_eq_some_iff] at h
      obtain ⟨cs, hcs, h⟩ := h
      split at h
      · simp only [Option.some.injEq, Prod.mk.injEq] at h
        obtain ⟨rfl, rfl, rfl, rfl⟩ := h
        exact fin (buildSlice_sound hop (aelem_some hel) hsz hz hps hc.1 hc.2.1 hc.2.2 hcs he hp)
      · cases h
    · cases h
  case load t x =>
    simp only [Option.bind_eq_bind, Option.bind_eq_some_iff] at h
    obtain ⟨u, hu, h⟩ := h
    exact fin (load_op_sound hop hu h he hp)
  case store t x y =>
    simp only [Option.bind_eq_bind, Option.bind_eq_some_iff] at h
    obtain ⟨u, hu, w, hw, h⟩ := h
    exact fin (store_sound hop hu hw h he hp)
  case nilCheck x =>
    simp only [Option.bind_eq_bind, Option.bind_eq_some_iff] at h
    obtain ⟨u, hu, h⟩ := h
    split at h
    · obtain ⟨rfl, rfl, rfl, rfl⟩ := ok_eq h
      exact fin (nilCheck_sound hop hu (.inl ⟨_, rfl⟩) he hp)
    · obtain ⟨rfl, rfl, rfl, rfl⟩ := ok_eq h
      exact fin (nilCheck_sound hop hu (.inr ⟨_, _, _, rfl⟩) he hp)
    · cases h
  case extract x i =>
    simp only [Option.bind_eq_bind, Option.bind_eq_some_iff] at h
    obtain ⟨u, hu, h⟩ := h
    split at h
    · simp only [Option.bind_eq_some_iff] at h
      obtain ⟨w, hw, h⟩ := h
      obtain ⟨rfl, rfl, rfl, rfl⟩ := ok_eq h
      exact fin (extract_sound hop hu hw he hp)
    · cases h
  case makeFunc fn first captured =>
    cases fn
    case func f =>
      simp only [Option.bind_eq_bind, Option.bind_eq_some_iff] at h
      obtain ⟨p, hpp, q, hq, h⟩ := h
      obtain ⟨rfl, rfl, rfl, rfl⟩ := ok_eq h
      exact fin (makeFunc_sound hop hpp hq he hp)
    all_goals cases h
  case fieldAddr s x f =>
    simp only [Option.bind_eq_bind, Option.bind_eq_some_iff] at h
    obtain ⟨fs, hfs, fd, hfd, sz, hsz, u, hu, h⟩ := h
    split at h
    · split at h
      · rename_i h0
        obtain ⟨rfl, rfl, rfl, rfl⟩ := ok_eq h
        exact fin (fieldAddr_sound hop (afields_some hfs) hfd hsz hu h0 he hp)
      · cases h
    · cases h
  case indexAddr t x ix =>
    simp only [Option.bind_eq_bind, Option.bind_eq_some_iff] at h
    obtain ⟨iv, hiv, i, hi, u, hu, h⟩ := h
    split at h
    · rename_i hut
      simp only [Option.bind_eq_some_iff] at h
      obtain ⟨sz, hsz, h⟩ := h
      split at h
      · rename_i hlt
        obtain ⟨rfl, rfl, rfl, rfl⟩ := ok_eq h
        exact fin (indexAddr_slice_sound hop hut hiv hi hu hsz hlt he hp)
      · cases h
    · rename_i hut
      simp only [Option.bind_eq_some_iff] at h
      obtain ⟨sz, hsz, h⟩ := h
      split at h
      · rename_i hlt
        obtain ⟨rfl, rfl, rfl, rfl⟩ := ok_eq h
        exact fin (indexAddr_array_sound hop hut hiv hi hu hsz hlt he hp)
      · cases h
    · cases h
  case index t x ix =>
    simp only [Option.bind_eq_bind, Option.bind_eq_some_iff] at h
    obtain ⟨u, hu, h⟩ := h
    split at h
    · rename_i hut
      simp only [Option.bind_eq_some_iff] at h
      obtain ⟨iv, hiv, i, hi, sz, hsz, h⟩ := h
      split at h
      · rename_i hlt
        simp only [Option.bind_eq_some_iff] at h
        obtain ⟨b, hb, h⟩ := h
        cases b with
        | true =>
          simp only [if_true] at h
          obtain ⟨rfl, rfl, rfl, rfl⟩ := ok_eq h
          exact fin (index_array_sound hop hut hiv hi hu hsz hb hlt rfl he hp)
        | false =>
          simp only [Bool.false_eq_true, if_false, Option.bind_eq_some_iff] at h
          obtain ⟨w, hw, h⟩ := h
          obtain ⟨rfl, rfl, rfl, rfl⟩ := ok_eq h
          exact fin (index_array_sound hop hut hiv hi hu hsz hb hlt hw he hp)
      · cases h
    · exact fin (agen_sound h he hp)
  case field t x f =>
    simp only [Option.bind_eq_bind, Option.bind_eq_some_iff] at h
    obtain ⟨fs, hfs, fd, hfd, sz, hsz, u, hu, h⟩ := h
    split at h
    · simp only [Option.bind_eq_some_iff] at h
      obtain ⟨b, hb, h⟩ := h
      cases b with
      | true =>
        simp only [if_true] at h
        obtain ⟨rfl, rfl, rfl, rfl⟩ := ok_eq h
        exact fin (field_sound hop (afields_some hfs) hfd hsz hb hu rfl he hp)
      | false =>
        simp only [Bool.false_eq_true, if_false, Option.bind_eq_some_iff] at h
        obtain ⟨w, hw, h⟩ := h
        obtain ⟨rfl, rfl, rfl, rfl⟩ := ok_eq h
        exact fin (field_sound hop (afields_some hfs) hfd hsz hb hu hw he hp)
    · cases h
  case slice t x lo hi mx =>
    simp only [Option.bind_eq_bind, Option.bind_eq_some_iff] at h
    obtain ⟨l, hl, hh, hhh, m, hm, u, hu, h⟩ := h
    split at h
    · rename_i hut
      simp only [Option.bind_eq_some_iff] at h
      obtain ⟨sz, hsz, ⟨p, q, r⟩, hb, ⟨cs, z, sb⟩, hcs, h⟩ := h
      simp only at h
      split at h
      · rename_i hz
        simp only [Option.some.injEq, Prod.mk.injEq] at h
        obtain ⟨rfl, rfl, rfl, rfl⟩ := h
        exact fin (slice_slice_sound hop hut hl hhh hm hu hsz hb hcs hz he hp)
      · cases h
    · rename_i hut
      simp only [Option.bind_eq_some_iff] at h
      obtain ⟨sz, hsz, ⟨p, q, r⟩, hb, ⟨cs, z, sb⟩, hcs, h⟩ := h
      simp only at h
      split at h
      · rename_i hz
        simp only [Option.some.injEq, Prod.mk.injEq] at h
        obtain ⟨rfl, rfl, rfl, rfl⟩ := h
        exact fin (slice_array_sound hop hut hl hhh hm hu hsz hb hcs hz.1 hz.2 he hp)
      · cases h
    · exact fin (agen_sound h he hp)
  case makeSlice t x y =>
    simp only [Option.bind_eq_bind, Option.bind_eq_some_iff] at h
    obtain ⟨e, hel, i, hi, z, hz, xv, hx, l, hl, yv, hy, c, hc, h⟩ := h
    split at h
    · rename_i hcc
      simp only [Option.some.injEq, Prod.mk.injEq] at h
      obtain ⟨rfl, rfl, rfl, rfl⟩ := h
      exact fin (makeSlice_sound hop (aelem_some hel) hi hz hx hy hl hc hcc.1 hcc.2.1 hcc.2.2.1 hcc.2.2.2.1 hcc.2.2.2.2.1 hcc.2.2.2.2.2 he hp)
    · cases h
  case convert src dst x =>
    simp only [Option.bind_eq_bind, Option.bind_eq_some_iff] at h
    obtain ⟨u, hu, h⟩ := h
    split at h
    · rename_i h1 h2
      split at h
      · rename_i h3
        simp only [Option.bind_eq_some_iff] at h
        obtain ⟨⟨l, z, sb⟩, hl, h⟩ := h
        simp only at h
        split at h
        · rename_i hle
          simp only [Option.bind_eq_some_iff, Option.some.injEq, Prod.mk.injEq] at h
          obtain ⟨bs, hbs, rfl, rfl, rfl, rfl⟩ := h
          exact fin (bytesString_sound hop h1 h2 h3 hu hl hle hbs he hp)
        · cases h
      · cases h
    · rename_i h1 h2
      split at h
      · rename_i h3
        simp only [Option.some.injEq, Prod.mk.injEq] at h
        obtain ⟨rfl, rfl, rfl, rfl⟩ := h
        exact fin (stringBytes_sound hop h1 h2 h3 hu he hp)
      · cases h
    · rename_i h1 h2
      split at h
      · rename_i h3
        simp only [Option.bind_eq_some_iff] at h
        obtain ⟨⟨l, z, sb⟩, hl, h⟩ := h
        simp only at h
        split at h
        · rename_i hc
          obtain ⟨rfl, rfl⟩ := hc
          simp only [Option.some.injEq, Prod.mk.injEq] at h
          obtain ⟨rfl, rfl, rfl, rfl⟩ := h
          exact fin (convSame_sound hop h2 h3 hu hl he hp)
        · cases h
      · cases h
    · exact fin (agen_sound h he hp)
  case binOp op t x y yt =>
    simp only [Option.bind_eq_bind, Option.bind_eq_some_iff] at h
    obtain ⟨u, hu, w, hw, h⟩ := h
    split at h
    · rename_i h1
      obtain ⟨rfl, rfl, rfl, rfl⟩ := ok_eq h
      exact fin (eqNil_sound hop (.inl ⟨rfl, rfl⟩) hu hw (.inl ⟨_, _, _, _, _, _, rfl, rfl, h1⟩) he hp)
    · rename_i h1
      obtain ⟨rfl, rfl, rfl, rfl⟩ := ok_eq h
      exact fin (eqNil_sound hop (.inr ⟨rfl, rfl⟩) hu hw (.inl ⟨_, _, _, _, _, _, rfl, rfl, h1⟩) he hp)
    · rename_i h1
      obtain ⟨rfl, rfl, rfl, rfl⟩ := ok_eq h
      exact fin (eqNil_sound hop (.inl ⟨rfl, rfl⟩) hu hw (.inr (.inl ⟨_, _, rfl, rfl, h1⟩)) he hp)
    · rename_i h1
      obtain ⟨rfl, rfl, rfl, rfl⟩ := ok_eq h
      exact fin (eqNil_sound hop (.inr ⟨rfl, rfl⟩) hu hw (.inr (.inl ⟨_, _, rfl, rfl, h1⟩)) he hp)
    · rename_i h1
      obtain ⟨rfl, rfl, rfl, rfl⟩ := ok_eq h
      exact fin (eqNil_sound hop (.inl ⟨rfl, rfl⟩) hu hw (.inr (.inr ⟨_, _, _, _, _, _, rfl, rfl, h1⟩)) he hp)
    · rename_i h1
      obtain ⟨rfl, rfl, rfl, rfl⟩ := ok_eq h
      exact fin (eqNil_sound hop (.inr ⟨rfl, rfl⟩) hu hw (.inr (.inr ⟨_, _, _, _, _, _, rfl, rfl, h1⟩)) he hp)
    · exact fin (agen_sound h he hp)
  case range t x =>
    simp only [Option.bind_eq_bind, Option.bind_eq_some_iff] at h
    obtain ⟨u, hu, h⟩ := h
    split at h
    · rename_i h1
      simp only [Option.some.injEq, Prod.mk.injEq] at h
      obtain ⟨rfl, rfl, rfl, rfl⟩ := h
      exact fin (range_sound hop h1 hu he hp)
    · cases h
  case next x isS =>
    cases isS
    · cases h
    · simp only [Option.bind_eq_bind, Option.bind_eq_some_iff] at h
      obtain ⟨u, hu, h⟩ := h
      split at h
      · split at h
        · rename_i hg
          exact fin (next_sound hop hu hg he h hp)
        · cases h
      · cases h
  case call c =>
    cases c with
    | mk callee args ats =>
      cases callee
      case builtin b =>
        simp only at h
        have args1 : ∀ {x : Value}, (args.toList.head?.bind (aeval env)) = some x → ∃ y, args.toList.head? = some y ∧ aeval env y = some x := fun h => Option.bind_eq_some_iff.1 h
        cases b
        case len =>
          simp only [Option.bind_eq_bind, Option.bind_eq_some_iff] at h
          obtain ⟨u, ⟨x, hx, hu⟩, h⟩ := h
          split at h
          · rename_i ht
            obtain ⟨rfl, rfl, rfl, rfl⟩ := ok_eq h
            obtain ⟨t, ht1, ht2⟩ := Option.bind_eq_some_iff.1 ht
            exact fin (len_slice_sound' hop hx ht1 ht2 hu he hp)
          · rename_i ht
            obtain ⟨rfl, rfl, rfl, rfl⟩ := ok_eq h
            obtain ⟨t, ht1, ht2⟩ := Option.bind_eq_some_iff.1 ht
            exact fin (len_array_sound' hop hx ht1 ht2 hp)
          · exact fin (agen_sound h he hp)
        case append =>
          simp only at h
          split at h
          · rename_i s x hargs
            have hargs' : args = #[s, x] := Array.toList_inj.1 (by simpa using hargs)
            subst hargs'
            simp only [Option.bind_eq_bind, Option.bind_eq_some_iff] at h
            obtain ⟨u, hu, w, hw, h⟩ := h
            exact fin (append_sound hop hu hw h he hp)
          · cases h
        case copy =>
          simp only at h
          split at h
          · rename_i s x hargs
            have hargs' : args = #[s, x] := Array.toList_inj.1 (by simpa using hargs)
            subst hargs'
            simp only [Option.bind_eq_bind, Option.bind_eq_some_iff] at h
            obtain ⟨u, hu, w, hw, h⟩ := h
            exact fin (copy_sound hop hu hw h he hp)
          · cases h
        case min => simp only at h; exact fin (agen_sound h he hp)
        case max => simp only at h; exact fin (agen_sound h he hp)
        all_goals simp at h
      case value f =>
        simp only [Option.bind_eq_bind, Option.bind_eq_some_iff] at h
        obtain ⟨fv, hf, xs, hxs, ⟨g, l⟩, hgl, h⟩ := h
        simp only [Option.bind_eq_some_iff] at h
        obtain ⟨fn, hfn, h⟩ := h
        obtain ⟨p, q, hfe, hl⟩ := callee_form hgl (aeval_sound he hf) (mapM_sound he hxs)
        have hargs : (args.map a.eval) = ⟨args.toList.map a.eval⟩ := by cases args; simp
        have hexec : execOp a.eval o = callFunc g ⟨p ++ args.toList.map a.eval ++ q⟩ := by
          unfold execOp
          simp only [hop, resolve, hfe, Deferred.ofValue, pure_bind, invoke, hargs]
          congr 1
          simp
        split at h
        · rename_i hg
          subst hg
          have h1 := hfn
          obtain ⟨h2, h3, h4, h5⟩ := hcmp.ok fn hfn
          have hrun := fun args => run_callFunc_extern (P := P) h1 h2 h3 h4 h5 args W
          generalize hL : p ++ args.toList.map a.eval ++ q = L at hl hexec
          match l, L, hl, h with
          | [x, y], [x', y'], .cons hx (.cons hy .nil), h =>
            obtain ⟨rfl, rfl, hfv, hcr⟩ := compare_run (P := P) h hx hy hp
            refine fin ⟨v, W, .inl ?_, post_same hp.hr (.flat hfv)⟩
            rw [hexec, hrun, hcr]; rfl
          | [], _, _, h => cases h
          | [_], _, _, h => cases h
          | _ :: _ :: _ :: _, _, _, h => cases h
        · split at h
          · cases h
          · rename_i hnb
            simp only [Bool.or_eq_true, not_or, Bool.not_eq_true] at hnb
            have hc := hcall g l H v H' R Wr h ρ D G W T ⟨p ++ args.toList.map a.eval ++ q⟩ hl hp
            unfold Oper.wp
            have : (execOp a.eval o).run P W = .ok (.enter g ⟨p ++ args.toList.map a.eval ++ q⟩) W := by
              rw [hexec]
              have hn1 : fn.name ≠ "runtime.NumGoroutine" := by simpa using hnb.1
              have hn2 : fn.body ≠ none := fun e => by rw [e] at hnb; simp at hnb
              simp [callFunc, hfn, hn1, hn2]
            rw [this]
            show Calls P g _ W _
            refine hc.mono fun e W' ⟨v', he', hpost⟩ => ?_
            subst he'
            exact hK v' W' hpost
      all_goals cases h
  case unOp => exact fin (agen_sound h he hp)
  all_goals cases h
end
end Go.Proofs.Ytfgeffmlfbeodaa.Ev

/- EV, part L: what an operation leaves alone. No program here. -/
namespace Go.Proofs.Ytfgeffmlfbeodaa.Ev
open Go Go.RowKit
set_option linter.unusedVariables false
set_option linter.unusedSimpArgs false
/-- What is not written stays. -/
def Fr (H H' : AH) (Wr : List Nat) : Prop := H.next ≤ H'.next ∧ ∀ id, id < H.next → id ∉ Wr → H'.get id = H.get id
theorem Fr.refl (H : AH) (Wr : List Nat) : Fr H H Wr := ⟨Nat.le_refl _, fun _ _ _ => rfl⟩
theorem Fr.new (H : AH) (b : Blk) (Wr : List Nat) : Fr H (H.new b) Wr := ⟨Nat.le_succ _, fun id h _ => by rw [AH.get_new, if_neg (by omega)]⟩
theorem killS_get (H : AH) (s : Option Nat) (id : Nat) (h : s ≠ some id) : (H.killS s).get id = H.get id := by
  cases s with
  | none => rfl
  | some m =>
    simp only [AH.killS, AH.kill]
    cases H.get m with
    | none => rfl
    | some c => simp only; rw [AH.get_put, if_neg (fun e => h (by rw [e]))]
theorem Fr.write (H : AH) (n : Nat) (s : Option Nat) (b : Blk) : Fr H ((H.killS s).put n b) (wr n s) := by
  refine ⟨by simp [AH.put, killS_next], fun id h hn => ?_⟩
  rw [wr_mem, not_or] at hn
  rw [AH.get_put, if_neg hn.1, killS_get _ _ _ hn.2]
theorem Fr.app (H : AH) (b z i e : Nat) (cs items : List Value) (sb : Option Nat) : Fr H (appH H b z i e cs items sb) (wr b sb) := by
  refine ⟨by rw [appH_next]; omega, fun id h hn => ?_⟩
  rw [wr_mem, not_or] at hn
  rw [appH_get, if_neg (by omega), if_neg hn.1, killS_get _ _ _ hn.2]
theorem Fr.put (H : AH) (n : Nat) (b : Blk) : Fr H (H.put n b) [n] := ⟨Nat.le_refl _, fun id _ hn => by rw [AH.get_put, if_neg (by simpa using hn)]⟩
section
variable {P : Program} {H H' : AH} {R Wr : List Nat} {env : List Value}
theorem agen_fr {o : Oper} {v : Value} (h : agen P env o H = some (v, H', R, Wr)) : Fr H H' Wr := by
  unfold agen at h
  split at h
  · split at h
    · split at h
      · simp only [Option.some.injEq, Prod.mk.injEq] at h
        obtain ⟨_, rfl, _, rfl⟩ := h
        exact Fr.refl _ _
      · cases h
    · cases h
  · cases h
theorem aload_fr {t : TypeId} {x v : Value} (h : aload P H t x = some (v, H', R, Wr)) : Fr H H' Wr := by
  unfold aload at h
  split at h
  · simp only [Option.bind_eq_bind, Option.bind_eq_some_iff] at h
    obtain ⟨⟨l, z, s⟩, hl, sz, hsz, b, hb, h⟩ := h
    cases b with
    | true =>
      simp only [if_true] at h
      split at h
      · simp only [Option.some.injEq, Prod.mk.injEq] at h
        obtain ⟨_, rfl, _, rfl⟩ := h
        exact Fr.refl _ _
      · cases h
    | false =>
      simp only [Bool.false_eq_true, if_false, Option.bind_eq_some_iff] at h
      obtain ⟨w, hw, h⟩ := h
      simp only [Option.some.injEq, Prod.mk.injEq] at h
      obtain ⟨_, rfl, _, rfl⟩ := h
      exact Fr.refl _ _
  · cases h
theorem astore_fr {t : TypeId} {x y v : Value} (h : astore P H t x y = some (v, H', R, Wr)) : Fr H H' Wr := by
  unfold astore at h
  split at h
  · simp only [Option.bind_eq_bind, Option.bind_eq_some_iff] at h
    obtain ⟨⟨l, z, s⟩, hl, sz, hsz, h⟩ := h
    simp only at h
    split at h
    · simp only [Option.some.injEq, Prod.mk.injEq] at h
      obtain ⟨_, rfl, _, rfl⟩ := h
      exact Fr.write _ _ _ _
    · cases h
  · cases h
theorem aappend_fr {ats : Array TypeId} {x y v : Value} (h : aappend P H ats x y = some (v, H', R, Wr)) : Fr H H' Wr := by
  unfold aappend at h
  simp only [Option.bind_eq_bind, Option.bind_eq_some_iff] at h
  obtain ⟨t, ht, u, hu, elem, hel, _, hut, inf, hinf, zero, hzero, n, hlen, ⟨items, rd⟩, hit, h⟩ := h
  simp only at h
  split at h
  case isFalse => cases h
  split at h
  · split at h
    · simp only [Option.some.injEq, Prod.mk.injEq] at h
      obtain ⟨_, rfl, _, rfl⟩ := h
      exact Fr.refl _ _
    · simp only [Option.some.injEq, Prod.mk.injEq] at h
      obtain ⟨_, rfl, _, rfl⟩ := h
      exact Fr.refl _ _
    · cases h
  · split at h
    · cases h
    · split at h
      · split at h
        · simp only [Option.some.injEq, Prod.mk.injEq] at h
          obtain ⟨_, rfl, _, rfl⟩ := h
          exact Fr.new _ _ _
        · cases h
      · simp only [Option.bind_eq_some_iff] at h
        obtain ⟨⟨cs, z, sb⟩, hcs, h⟩ := h
        simp only at h
        split at h
        · simp only [Option.some.injEq, Prod.mk.injEq] at h
          obtain ⟨_, rfl, _, rfl⟩ := h
          exact Fr.app _ _ _ _ _ _ _ _
        · cases h
      · cases h
theorem acopy_fr {ats : Array TypeId} {x y v : Value} (h : acopy P H ats x y = some (v, H', R, Wr)) : Fr H H' Wr := by
  unfold acopy at h
  simp only [Option.bind_eq_bind, Option.bind_eq_some_iff] at h
  obtain ⟨t, ht, elem, hel, sz, hsz, m, hm, h⟩ := h
  split at h
  · simp only [Option.bind_eq_some_iff] at h
    obtain ⟨⟨items, rd⟩, hit, h⟩ := h
    simp only [Option.some.injEq, Prod.mk.injEq] at h
    obtain ⟨_, rfl, _, rfl⟩ := h
    exact Fr.refl _ _
  · simp only [Option.bind_eq_some_iff] at h
    obtain ⟨⟨items, rd⟩, hit, ⟨cs, z, sb⟩, hcs, h⟩ := h
    simp only at h
    split at h
    · simp only [Option.some.injEq, Prod.mk.injEq] at h
      obtain ⟨_, rfl, _, rfl⟩ := h
      exact Fr.write _ _ _ _
    · cases h
  · cases h
theorem acompare_fr {l : List Value} {v : Value} (h : acompare H l = some (v, H', R, Wr)) : Fr H H' Wr := by
  unfold acompare at h
  split at h
  · simp only [Option.bind_eq_bind, Option.bind_eq_some_iff] at h
    obtain ⟨⟨bx, rx⟩, h1, ⟨by_, ry⟩, h2, h⟩ := h
    simp only [Option.some.injEq, Prod.mk.injEq] at h
    obtain ⟨_, rfl, _, rfl⟩ := h
    exact Fr.refl _ _
  · cases h
theorem ok_fr {u v : Value} {r : List Nat} (h : some (u, H, r, ([] : List Nat)) = some (v, H', R, Wr)) : Fr H H' Wr := by
  simp only [Option.some.injEq, Prod.mk.injEq] at h
  obtain ⟨_, rfl, _, rfl⟩ := h
  exact Fr.refl _ _
theorem new_fr {u v : Value} {b : Blk} {r : List Nat} (h : some (u, H.new b, r, ([] : List Nat)) = some (v, H', R, Wr)) : Fr H H' Wr := by
  simp only [Option.some.injEq, Prod.mk.injEq] at h
  obtain ⟨_, rfl, _, rfl⟩ := h
  exact Fr.new _ _ _
def CallFr (call : CallF) : Prop := ∀ (f : FuncId) (args : List Value) (H : AH) (v : Value) (H' : AH) (R Wr : List Nat), call f args H = some (v, H', R, Wr) → Fr H H' Wr
theorem aop_fr {xc : Nat} {call : CallF} (hcall : CallFr call) {o : Oper} {v : Value} (h : aop P xc call env o H = some (v, H', R, Wr)) : Fr H H' Wr := by
  have ok_eq : ∀ {u : Value} {r : List Nat}, some (u, H, r, ([] : List Nat)) = some (v, H', R, Wr) → Fr H H' Wr := fun h => by
    simp only [Option.some.injEq, Prod.mk.injEq] at h
    obtain ⟨_, rfl, _, rfl⟩ := h
    exact Fr.refl _ _
  have new_eq : ∀ {u : Value} {b : Blk} {r : List Nat}, some (u, H.new b, r, ([] : List Nat)) = some (v, H', R, Wr) → Fr H H' Wr := fun h => by
    simp only [Option.some.injEq, Prod.mk.injEq] at h
    obtain ⟨_, rfl, _, rfl⟩ := h
    exact Fr.new _ _ _
  unfold aop at h
  cases hop : o.op <;> simp only [hop] at h
  case load t x =>
    simp only [Option.bind_eq_bind, Option.bind_eq_some_iff] at h
    obtain ⟨u, hu, h⟩ := h
    exact aload_fr h
  case store t x y =>
    simp only [Option.bind_eq_bind, Option.bind_eq_some_iff] at h
    obtain ⟨u, hu, w, hw, h⟩ := h
    exact astore_fr h
  case unOp => exact agen_fr h
  case next x isS =>
    cases isS
    · cases h
    · simp only [Option.bind_eq_bind, Option.bind_eq_some_iff] at h
      obtain ⟨u, hu, h⟩ := h
      split at h
      · split at h
        · split at h
          · simp only [Option.some.injEq, Prod.mk.injEq] at h
            obtain ⟨_, rfl, _, rfl⟩ := h
            exact Fr.put _ _ _
          · exact ok_eq h
        · cases h
      · cases h
  case call c =>
    cases c with
    | mk callee args ats =>
      cases callee
      case builtin b =>
        simp only at h
        cases b
        case len =>
          simp only [Option.bind_eq_bind, Option.bind_eq_some_iff] at h
          obtain ⟨u, hu, h⟩ := h
          split at h
          · exact ok_eq h
          · exact ok_eq h
          · exact agen_fr h
        case append =>
          simp only at h
          split at h
          · simp only [Option.bind_eq_bind, Option.bind_eq_some_iff] at h
            obtain ⟨u, hu, w, hw, h⟩ := h
            exact aappend_fr h
          · cases h
        case copy =>
          simp only at h
          split at h
          · simp only [Option.bind_eq_bind, Option.bind_eq_some_iff] at h
            obtain ⟨u, hu, w, hw, h⟩ := h
            exact acopy_fr h
          · cases h
        case min => simp only at h; exact agen_fr h
        case max => simp only at h; exact agen_fr h
        all_goals simp at h
      case value f =>
        simp only [Option.bind_eq_bind, Option.bind_eq_some_iff] at h
        obtain ⟨fv, hf, xs, hxs, ⟨g, l⟩, hgl, h⟩ := h
        simp only [Option.bind_eq_some_iff] at h
        obtain ⟨fn, hfn, h⟩ := h
        split at h
        · exact acompare_fr h
        · split at h
          · cases h
          · exact hcall _ _ _ _ _ _ _ h
      all_goals cases h
  case makeFunc fn first captured =>
    cases fn
    case func f =>
      simp only [Option.bind_eq_bind, Option.bind_eq_some_iff] at h
      obtain ⟨p, hpp, q, hq, h⟩ := h
      exact ok_eq h
    all_goals cases h
  all_goals repeat' (first | exact ok_fr h | exact new_fr h | exact agen_fr h | (cases h; done) | (obtain ⟨_, _, h⟩ := h) | (split at h) | (simp only [Option.bind_eq_bind, Option.bind_eq_some_iff] at h) | (simp only [] at h))
end
end Go.Proofs.Ytfgeffmlfbeodaa.Ev

/- EV, part M: code in the text's order. No program here. -/
namespace Go.Proofs.Ytfgeffmlfbeodaa.Ev
open Go Go.RowKit
set_option linter.unusedVariables false
set_option linter.unusedSimpArgs false
theorem allLt_mem {n : Nat} : ∀ {l : List Nat}, allLt n l = true → ∀ x ∈ l, x < n
  | [], _, x, hx => by cases hx
  | y :: l, h, x, hx => by
    simp only [allLt, Bool.and_eq_true] at h
    rcases List.mem_cons.1 hx with rfl | hx
    · have h1 := h.1
      simp only [Nat.blt, Nat.ble_eq] at h1
      omega
    · exact allLt_mem h.2 x hx
theorem ins_mem {p n x : Nat} {l : List Nat} : x ∈ ins p n l ↔ (x = n ∧ n < p) ∨ x ∈ l := by
  unfold ins
  split
  · rename_i h
    split
    · rename_i hc
      have hc' : n ∈ l := by simpa using hc
      constructor
      · exact .inr
      · rintro (⟨rfl, _⟩ | h)
        · exact hc'
        · exact h
    · simp [h]
  · rename_i h; simp [h]
theorem insAll_mem {p x : Nat} {l : List Nat} : ∀ {a : List Nat}, x ∈ insAll p a l ↔ (x ∈ a ∧ x < p) ∨ x ∈ l
  | [] => by simp [insAll]
  | y :: a => by
    have ih : x ∈ insAll p a l ↔ (x ∈ a ∧ x < p) ∨ x ∈ l := insAll_mem
    have : insAll p (y :: a) l = ins p y (insAll p a l) := rfl
    rw [this, ins_mem, ih, List.mem_cons]
    constructor
    · rintro (⟨rfl, h⟩ | h | h)
      · exact .inl ⟨.inl rfl, h⟩
      · exact .inl ⟨.inr h.1, h.2⟩
      · exact .inr h
    · rintro (⟨rfl | h, h2⟩ | h)
      · exact .inl ⟨rfl, h2⟩
      · exact .inr (.inl ⟨h, h2⟩)
      · exact .inr (.inr h)
/-- What a piece of code leaves alone; it tells only of names older than p. -/
structure FrC (p : Nat) (H H' : AH) (R Wr : List Nat) : Prop where
  le : H.next ≤ H'.next
  r : ∀ id ∈ R, id < p
  w : ∀ id ∈ Wr, id < p
  fr : ∀ id, id < p → id ∉ Wr → H'.get id = H.get id
noncomputable def Gc (p : Nat) (G : Nat → Option Blk) (H' : AH) (Wr : List Nat) : Nat → Option Blk := fun id => if id ∈ Wr ∨ (p ≤ id ∧ id < H'.next) then H'.get id else G id
/-- What is asked ahead of a piece of code. -/
structure PreC (p : Nat) (ρ : Rho) (D : Nat → Prop) (G : Nat → Option Blk) (W : World) (T : Nat → Prop) (H H' : AH) (R Wr : List Nat) : Prop where
  le : p ≤ H.next
  hr : HR ρ D G W T
  tr : ∀ id, id ∈ R ∨ id ∈ Wr ∨ (p ≤ id ∧ id < H.next) → T id ∧ G id = H.get id
  fresh : ∀ id, H.next ≤ id → id < H'.next → ¬ D id
structure PostC (p : Nat) (ρ ρ' : Rho) (D : Nat → Prop) (G : Nat → Option Blk) (W : World) (T : Nat → Prop) (H H' : AH) (Wr : List Nat) (env : List Value) (vs : List Value) (W' : World) : Prop where
  ag : ∀ id, D id → ρ' id = ρ id
  env : VRs ρ' (Dn D H H') env vs
  hr : HR ρ' (Dn D H H') (Gc p G H' Wr) W' (Dn T H H')
  below : Below 0 W W'
section
variable {P : Program} {p : Nat} {ρ ρ' ρ'' : Rho} {D : Nat → Prop} {G G' : Nat → Option Blk} {W W' W1 W2 : World} {T : Nat → Prop} {H H' H1 H2 : AH} {R Wr r1 r2 w1 w2 : List Nat} {env e1 e2 : List Value} {a : Act} {vs : List Value}
theorem HR.congrG (h : HR ρ D G W T) (hg : ∀ id, T id → G' id = G id) : HR ρ D G' W T :=
  ⟨h.dom, fun id b hT hb hl => h.blk id b hT (by rw [← hg id hT]; exact hb) hl, fun i j b c hi hj hij hb hc => h.dist i j b c hi hj hij (by rw [← hg i hi]; exact hb) (by rw [← hg j hj]; exact hc)⟩
theorem FrC.comp (h1 : FrC p H H1 r1 w1) (h2 : FrC p H1 H2 r2 w2) : FrC p H H2 (insAll p r1 r2) (insAll p w1 w2) where
  le := Nat.le_trans h1.le h2.le
  r := fun id hid => by
    rcases insAll_mem.1 hid with h | h
    · exact h.2
    · exact h2.r id h
  w := fun id hid => by
    rcases insAll_mem.1 hid with h | h
    · exact h.2
    · exact h2.w id h
  fr := fun id hp hn => by
    have hn1 : id ∉ w1 := fun h => hn (insAll_mem.2 (.inl ⟨h, hp⟩))
    have hn2 : id ∉ w2 := fun h => hn (insAll_mem.2 (.inr h))
    rw [h2.fr id hp hn2, h1.fr id hp hn1]
theorem FrC.refl (p : Nat) (H : AH) : FrC p H H [] [] := ⟨Nat.le_refl _, fun _ h => (by cases h), fun _ h => (by cases h), fun _ _ _ => rfl⟩
theorem FrC.of_fr (h : Fr H H1 w1) (hp : p ≤ H.next) : FrC p H H1 (insAll p r1 []) (insAll p w1 []) where
  le := h.1
  r := fun id hid => by rcases insAll_mem.1 hid with h | h; exact h.2; cases h
  w := fun id hid => by rcases insAll_mem.1 hid with h | h; exact h.2; cases h
  fr := fun id hlt hn => h.2 id (by omega) fun h => hn (insAll_mem.2 (.inl ⟨h, hlt⟩))
theorem insAll_nil : insAll p (insAll p r1 []) r2 = insAll p (insAll p r1 []) r2 := rfl
theorem Dn_comp (h1 : H.next ≤ H1.next) (h2 : H1.next ≤ H2.next) : Dn (Dn D H H1) H1 H2 = Dn D H H2 := by
  funext id
  simp only [Dn, eq_iff_iff]
  constructor
  · rintro ((h | h) | h)
    · exact .inl h
    · exact .inr (by omega)
    · exact .inr (by omega)
  · rintro (h | h)
    · exact .inl (.inl h)
    · by_cases hh : id < H1.next
      · exact .inl (.inr (by omega))
      · exact .inr (by omega)
theorem Gc_comp (f1 : FrC p H H1 r1 w1) (f2 : FrC p H1 H2 r2 w2) {Wc : List Nat} (hW : ∀ id, id ∈ Wc ↔ (id ∈ w1 ∨ id ∈ w2)) : Gc p (Gc p G H1 w1) H2 w2 = Gc p G H2 Wc := by
  funext id
  unfold Gc
  by_cases h2 : id ∈ w2 ∨ (p ≤ id ∧ id < H2.next)
  · rw [if_pos h2, if_pos (by rcases h2 with h | h; exact .inl ((hW id).2 (.inr h)); exact .inr h)]
  · rw [if_neg h2]
    have h2' : id ∉ w2 ∧ ¬ (p ≤ id ∧ id < H2.next) := not_or.1 h2
    have hle := f2.le
    by_cases h1 : id ∈ w1
    · have hp := f1.w id h1
      rw [if_pos (.inl h1), if_pos (.inl ((hW id).2 (.inl h1))), f2.fr id hp h2'.1]
    · rw [if_neg (by rintro (h | h); exact h1 h; exact h2'.2 (by omega)), if_neg (by rintro (h | h); exact ((hW id).1 h).elim h1 h2'.1; exact h2'.2 h)]
theorem PreC.first (hp : PreC p ρ D G W T H H2 R Wr) (h12 : H1.next ≤ H2.next) (hR : ∀ id ∈ r1, id ∈ R) (hW : ∀ id ∈ w1, id ∈ Wr) : PreC p ρ D G W T H H1 r1 w1 :=
  ⟨hp.le, hp.hr, fun id h => hp.tr id (by rcases h with h | h | h; exact .inl (hR id h); exact .inr (.inl (hW id h)); exact .inr (.inr h)), fun id h1 h2 => hp.fresh id h1 (by omega)⟩
theorem PreC.second (hp : PreC p ρ D G W T H H2 R Wr) (f1 : FrC p H H1 r1 w1) (f2 : FrC p H1 H2 r2 w2) (hR : ∀ id ∈ r2, id ∈ R) (hW : ∀ id ∈ w2, id ∈ Wr)
    (h : PostC p ρ ρ' D G W T H H1 w1 e1 vs W1) : PreC p ρ' (Dn D H H1) (Gc p G H1 w1) W1 (Dn T H H1) H1 H2 r2 w2 where
  le := Nat.le_trans hp.le f1.le
  hr := h.hr
  tr := fun id hid => by
    have hle := hp.le
    have key : id ∈ r2 ∨ id ∈ w2 → Dn T H H1 id ∧ Gc p G H1 w1 id = H1.get id := fun hh => by
      have hlt : id < p := hh.elim (f2.r id) (f2.w id)
      have h3 := hp.tr id (hh.elim (fun h => .inl (hR id h)) fun h => .inr (.inl (hW id h)))
      refine ⟨.inl h3.1, ?_⟩
      unfold Gc
      split
      · rfl
      · rename_i hn
        rw [h3.2, f1.fr id hlt (fun h => hn (.inl h))]
    rcases hid with hh | hh | hh
    · exact key (.inl hh)
    · exact key (.inr hh)
    · refine ⟨?_, by unfold Gc; rw [if_pos (.inr hh)]⟩
      by_cases h1 : id < H.next
      · exact .inl (hp.tr id (.inr (.inr ⟨hh.1, h1⟩))).1
      · exact .inr (by omega)
  fresh := fun id h1 h2 hd => by
    have := f1.le
    rcases hd with hd | hd
    · exact hp.fresh id (by omega) h2 hd
    · omega
theorem PostC.comp (f1 : FrC p H H1 r1 w1) (f2 : FrC p H1 H2 r2 w2) {Wc : List Nat} (hW : ∀ id, id ∈ Wc ↔ (id ∈ w1 ∨ id ∈ w2))
    (h1 : PostC p ρ ρ' D G W T H H1 w1 e1 vs W1) {us : List Value} (h2 : PostC p ρ' ρ'' (Dn D H H1) (Gc p G H1 w1) W1 (Dn T H H1) H1 H2 w2 e2 us W2) : PostC p ρ ρ'' D G W T H H2 Wc e2 us W2 where
  ag := fun id hd => by rw [h2.ag id (.inl hd), h1.ag id hd]
  env := by have := h2.env; rwa [Dn_comp f1.le f2.le] at this
  hr := by have := h2.hr; rwa [Dn_comp f1.le f2.le, Dn_comp f1.le f2.le, Gc_comp f1 f2 hW] at this
  below := h1.below.trans h2.below
theorem PreC.op (hp : PreC p ρ D G W T H H2 R Wr) (h12 : H1.next ≤ H2.next) (hr1 : ∀ x ∈ r1, x < H.next) (hw1 : ∀ x ∈ w1, x < H.next) (hR : ∀ id ∈ r1, id < p → id ∈ R) (hW : ∀ id ∈ w1, id < p → id ∈ Wr) : Pre ρ D G W T H H1 r1 w1 := by
  have key : ∀ id, id ∈ r1 ∨ id ∈ w1 → T id ∧ G id = H.get id := fun id h => by
    by_cases hlt : id < p
    · exact hp.tr id (h.elim (fun h => .inl (hR id h hlt)) fun h => .inr (.inl (hW id h hlt)))
    · exact hp.tr id (.inr (.inr ⟨by omega, h.elim (hr1 id) (hw1 id)⟩))
  exact ⟨hp.hr, fun id h => (key id h).1, fun id h => (key id h).2, fun id h1 h2 => hp.fresh id h1 (by omega)⟩
theorem Gn_Gc (hp : PreC p ρ D G W T H H2 R Wr) (hf : Fr H H1 w1) (hw1 : ∀ x ∈ w1, x < H.next) : Gn G H H1 w1 = Gc p G H1 (insAll p w1 []) := by
  funext id
  have hle := hp.le
  have hle1 := hf.1
  unfold Gn Gc
  by_cases h : id ∈ w1
  · rw [if_pos (.inl h), if_pos]
    by_cases hlt : id < p
    · exact .inl (insAll_mem.2 (.inl ⟨h, hlt⟩))
    · have := hw1 id h; exact .inr (by omega)
  · have hn : id ∉ insAll p w1 [] := fun hh => by rcases insAll_mem.1 hh with hh | hh; exact h hh.1; cases hh
    by_cases h2 : H.next ≤ id ∧ id < H1.next
    · rw [if_pos (.inr h2), if_pos (.inr (by omega))]
    · rw [if_neg (by rintro (hh | hh); exact h hh; exact h2 hh)]
      by_cases h3 : p ≤ id ∧ id < H1.next
      · have h4 : id < H.next := by omega
        rw [if_pos (.inr h3), (hp.tr id (.inr (.inr ⟨h3.1, h4⟩))).2, hf.2 id h4 h]
      · rw [if_neg (by rintro (hh | hh); exact hn hh; exact h3 hh)]
/-- What an operation leaves, as code leaves it. -/
theorem PostC.of_post (hp : PreC p ρ D G W T H H2 R Wr) (hf : Fr H H1 w1) (hw1 : ∀ x ∈ w1, x < H.next) (he : VRs ρ D env a.tmps.toList) {v v' : Value} {d : Option Tmp} (h : Post ρ D G W T H H1 w1 v v' W1) :
    ∃ ρ', PostC p ρ ρ' D G W T H H1 (insAll p w1 []) (aputs env d v) (a.put d v').tmps.toList W1 := by
  obtain ⟨ρ', hag, hv, hhr, hb⟩ := h
  refine ⟨ρ', hag, ?_, by rw [← Gn_Gc hp hf hw1]; exact hhr, hb⟩
  have he' := VRs.mono (ρ' := ρ') (D' := Dn D H H1) hag (fun _ h => .inl h) he
  cases d with
  | none => exact he'
  | some t => simpa [aputs, lset_eq, Act.put] using he'.set t hv
theorem PostC.same (hp : PreC p ρ D G W T H H2 R Wr) (he : VRs ρ D env vs) : PostC p ρ ρ D G W T H H [] env vs W where
  ag := fun _ _ => rfl
  env := by rw [Dn_same]; exact he
  hr := by
    rw [Dn_same, Dn_same]
    refine hp.hr.congrG fun id hT => ?_
    unfold Gc
    split
    · rename_i h
      rcases h with h | h
      · cases h
      · exact (hp.tr id (.inr (.inr h))).2.symm
    · rfl
  below := Below.refl _ _
theorem wanted_eq (he : VRs ρ D env a.tmps.toList) (ops : Array Oper) (o : Oper) : Region.wanted o (yielded ops a.tmps) = Region.wanted o (ayield ops env) := by
  have key : yielded ops a.tmps = ayield ops env := by
    funext j
    unfold yielded ayield
    cases hd : (ops[j]?).bind (·.dst) with
    | none => rfl
    | some t =>
      simp only [Option.bind_some]
      have hlen := he.length
      cases hv : env[t]? with
      | some v =>
        obtain ⟨v', hv', hr⟩ := he.get t _ hv
        have e1 : a.tmps[t]? = some v' := by simpa using hv'
        rw [e1]
        cases hr <;> rfl
      | none =>
        have h1 := List.getElem?_eq_none_iff.1 hv
        have e1 : a.tmps[t]? = none := Array.getElem?_eq_none (by rw [← Array.length_toList, hlen]; exact h1)
        rw [e1]
  rw [key]
end
end Go.Proofs.Ytfgeffmlfbeodaa.Ev

/- EV, part N: code and calls; regions that draw their order are asked for. No program here. -/
namespace Go.Proofs.Ytfgeffmlfbeodaa.Ev
open Go Go.RowKit
set_option linter.unusedVariables false
set_option linter.unusedSimpArgs false
section
variable {P : Program} {xc : Nat} {call : CallF} {p : Nat} {ρ ρ' ρ'' : Rho} {D : Nat → Prop} {G G' : Nat → Option Blk} {W W' W1 W2 : World} {T : Nat → Prop} {H H' H1 H2 : AH} {R Wr r1 r2 w1 w2 : List Nat} {env e1 e2 : List Value} {a : Act} {vs : List Value}
theorem aopB_some {o : Oper} {v : Value} (h : aopB P xc call env o H = some (v, H1, r1, w1)) : aop P xc call env o H = some (v, H1, r1, w1) ∧ (∀ x ∈ r1, x < H.next) ∧ ∀ x ∈ w1, x < H.next := by
  unfold aopB at h
  split at h
  · rename_i v' H' r' w' e
    split at h
    · rename_i hc
      simp only [Option.some.injEq, Prod.mk.injEq] at h
      obtain ⟨rfl, rfl, rfl, rfl⟩ := h
      rw [Bool.and_eq_true] at hc
      exact ⟨e, allLt_mem hc.1, allLt_mem hc.2⟩
    · cases h
  · cases h
theorem FrC.cons (h : Fr H H1 w1) (hp : p ≤ H.next) (h2 : FrC p H1 H2 r2 w2) : FrC p H H2 (insAll p r1 r2) (insAll p w1 w2) where
  le := Nat.le_trans h.1 h2.le
  r := fun id hid => by
    rcases insAll_mem.1 hid with h | h
    · exact h.2
    · exact h2.r id h
  w := fun id hid => by
    rcases insAll_mem.1 hid with h | h
    · exact h.2
    · exact h2.w id h
  fr := fun id hlt hn => by
    have hn1 : id ∉ w1 := fun h => hn (insAll_mem.2 (.inl ⟨h, hlt⟩))
    have hn2 : id ∉ w2 := fun h => hn (insAll_mem.2 (.inr h))
    rw [h2.fr id hlt hn2, h.2 id (by omega) hn1]
theorem aputs_some (env : List Value) (t : Tmp) (v : Value) : aputs env (some t) v = env.set t v := lset_eq v env t
theorem VRs.puts (he : VRs ρ D env a.tmps.toList) {v v' : Value} (hv : VR ρ D v v') (d : Option Tmp) : VRs ρ D (aputs env d v) (a.put d v').tmps.toList := by
  cases d with
  | none => exact he
  | some t => simpa [aputs, lset_eq, Act.put] using he.set t hv
theorem put_defers (a : Act) (x : Option Tmp) (v : Value) : (a.put x v).defers = a.defers := by cases x <;> rfl
theorem aops_fr (hfr : CallFr call) {ops : Array Oper} : ∀ (l : List Oper) (env : List Value) (H : AH) {e2 : List Value} {H2 : AH} {r w : List Nat}, p ≤ H.next → aops P xc call p ops l env H = some (e2, H2, r, w) → FrC p H H2 r w
  | [], env, H, e2, H2, r, w, hp, h => by
    simp only [aops, Option.some.injEq, Prod.mk.injEq] at h
    obtain ⟨_, rfl, rfl, rfl⟩ := h
    exact FrC.refl _ _
  | o :: rest, env, H, e2, H2, r, w, hp, h => by
    unfold aops at h
    split at h
    · simp only [Option.bind_eq_bind, Option.bind_eq_some_iff] at h
      obtain ⟨⟨v, H1, r1, w1⟩, h1, ⟨e3, H3, r2, w2⟩, h2, h⟩ := h
      simp only [Option.some.injEq, Prod.mk.injEq] at h
      obtain ⟨rfl, rfl, rfl, rfl⟩ := h
      have hf := aop_fr hfr (aopB_some h1).1
      exact FrC.cons hf hp (aops_fr hfr rest _ _ (Nat.le_trans hp hf.1) h2)
    · exact aops_fr hfr rest _ _ hp h
theorem aops_sound (hcall : CallOk P call) (hfr : CallFr call) (hcmp : CmpOk P xc) {ops : Array Oper} {Q : Exit → Act → World → Prop} : ∀ (l : List Oper) (env : List Value) (H : AH) {e2 : List Value} {H2 : AH} {r w : List Nat}, aops P xc call p ops l env H = some (e2, H2, r, w) →
    ∀ (ρ : Rho) (D : Nat → Prop) (G : Nat → Option Blk) (W : World) (T : Nat → Prop) (a : Act), VRs ρ D env a.tmps.toList → PreC p ρ D G W T H H2 r w →
      (∀ ρ' a' W', a'.defers = a.defers → PostC p ρ ρ' D G W T H H2 w e2 a'.tmps.toList W' → Q .normal a' W') → wpList P ops Q l a W
  | [], env, H, e2, H2, r, w, h, ρ, D, G, W, T, a, he, hp, hQ => by
    simp only [aops, Option.some.injEq, Prod.mk.injEq] at h
    obtain ⟨rfl, rfl, rfl, rfl⟩ := h
    exact hQ ρ a W rfl (PostC.same hp he)
  | o :: rest, env, H, e2, H2, r, w, h, ρ, D, G, W, T, a, he, hp, hQ => by
    unfold aops at h
    unfold wpList
    rw [wanted_eq he]
    split at h
    · rename_i hw
      rw [if_pos hw]
      simp only [Option.bind_eq_bind, Option.bind_eq_some_iff] at h
      obtain ⟨⟨v, H1, r1, w1⟩, h1, ⟨e3, H3, r2, w2⟩, h2, h⟩ := h
      simp only [Option.some.injEq, Prod.mk.injEq] at h
      obtain ⟨rfl, rfl, rfl, rfl⟩ := h
      obtain ⟨h1, hr1, hw1⟩ := aopB_some h1
      have hf := aop_fr hfr h1
      have hf2 := aops_fr hfr rest _ _ (Nat.le_trans hp.le hf.1) h2
      have hpo : Pre ρ D G W T H H1 r1 w1 := hp.op hf2.le hr1 hw1 (fun id h hlt => insAll_mem.2 (.inl ⟨h, hlt⟩)) (fun id h hlt => insAll_mem.2 (.inl ⟨h, hlt⟩))
      refine .inl (aop_sound hcall hcmp h1 he hpo fun v' W' hpost => ?_)
      obtain ⟨ρ', hpc⟩ := PostC.of_post (d := o.dst) hp hf hw1 he hpost
      have hfc := FrC.of_fr (r1 := r1) hf hp.le
      have hp2 := hp.second hfc hf2 (fun id h => insAll_mem.2 (.inr h)) (fun id h => insAll_mem.2 (.inr h)) hpc
      refine aops_sound hcall hfr hcmp rest _ _ h2 ρ' _ _ W' _ _ hpc.env hp2 fun ρ'' a' W'' hd hpost2 => hQ ρ'' a' W'' (by rw [hd, put_defers]) (hpc.comp hfc hf2 (fun id => ?_) hpost2)
      rw [insAll_mem, insAll_mem]
      simp
    · rename_i hw
      rw [if_neg hw]
      exact aops_sound hcall hfr hcmp rest _ _ h ρ D G W T _ (he.puts (.tuple .nil) o.dst) hp fun ρ' a' W' hd hpost => hQ ρ' a' W' (by rw [hd, put_defers]) hpost
/-- A region that draws its order does what the text's order does. -/
def DrawnOk (P : Program) (xc : Nat) : Prop := ∀ (call : CallF) (p id : Nat) (ops : Array Oper) (env : List Value) (H : AH) (e2 : List Value) (H2 : AH) (r w : List Nat) (fs : List Ent), CallOk P call → CallFr call →
  aopsD P xc call p ops ops.toList env H = some (e2, H2, r, w, fs) → freeOk ops fs = true →
  ∀ (ρ : Rho) (D : Nat → Prop) (G : Nat → Option Blk) (W : World) (T : Nat → Prop) (a : Act) (Q : Exit → Act → World → Prop), VRs ρ D env a.tmps.toList → PreC p ρ D G W T H H2 r w →
    (∀ ρ' a' W', a'.defers = a.defers → PostC p ρ ρ' D G W T H H2 w e2 a'.tmps.toList W' → Q .normal a' W') → (Code.region id ops true).wp P Q a W
theorem aopsD_fr (hfr : CallFr call) {ops : Array Oper} : ∀ (l : List Oper) (env : List Value) (H : AH) {e2 : List Value} {H2 : AH} {r w : List Nat} {fs : List Ent}, p ≤ H.next → aopsD P xc call p ops l env H = some (e2, H2, r, w, fs) → FrC p H H2 r w
  | [], env, H, e2, H2, r, w, fs, hp, h => by
    simp only [aopsD, Option.some.injEq, Prod.mk.injEq] at h
    obtain ⟨_, rfl, rfl, rfl, _⟩ := h
    exact FrC.refl _ _
  | o :: rest, env, H, e2, H2, r, w, fs, hp, h => by
    unfold aopsD at h
    split at h
    · simp only [Option.bind_eq_bind, Option.bind_eq_some_iff] at h
      obtain ⟨⟨v, H1, r1, w1⟩, h1, ⟨e3, H3, r2, w2, fs2⟩, h2, h⟩ := h
      simp only [Option.some.injEq, Prod.mk.injEq] at h
      obtain ⟨rfl, rfl, rfl, rfl, _⟩ := h
      have hf := aop_fr hfr (aopB_some h1).1
      exact FrC.cons hf hp (aopsD_fr hfr rest _ _ (Nat.le_trans hp hf.1) h2)
    · simp only [Option.bind_eq_bind, Option.bind_eq_some_iff] at h
      obtain ⟨⟨e3, H3, r2, w2, fs2⟩, h2, h⟩ := h
      simp only [Option.some.injEq, Prod.mk.injEq] at h
      obtain ⟨rfl, rfl, rfl, rfl, _⟩ := h
      exact aopsD_fr hfr rest _ _ hp h2
theorem acode_fr (hfr : CallFr call) : ∀ (n : Nat) (c : Code) (env : List Value) (H : AH) {x : AX} {e2 : List Value} {H2 : AH} {r w : List Nat}, p ≤ H.next → acode P xc call p n c env H = some (x, e2, H2, r, w) → FrC p H H2 r w
  | 0, c, env, H, x, e2, H2, r, w, hp, h => by cases h
  | n + 1, c, env, H, x, e2, H2, r, w, hp, h => by
    unfold acode at h
    split at h
    · simp only [Option.some.injEq, Prod.mk.injEq] at h
      obtain ⟨_, _, rfl, rfl, rfl⟩ := h
      exact FrC.refl _ _
    · simp only [Option.bind_eq_bind, Option.bind_eq_some_iff] at h
      obtain ⟨⟨e3, H3, r2, w2⟩, h2, h⟩ := h
      simp only [Option.some.injEq, Prod.mk.injEq] at h
      obtain ⟨_, rfl, rfl, rfl, rfl⟩ := h
      exact aops_fr hfr _ _ _ hp h2
    · simp only [Option.bind_eq_bind, Option.bind_eq_some_iff] at h
      obtain ⟨⟨e3, H3, r2, w2, fs⟩, h2, h⟩ := h
      simp only at h
      split at h
      · simp only [Option.some.injEq, Prod.mk.injEq] at h
        obtain ⟨_, rfl, rfl, rfl, rfl⟩ := h
        exact aopsD_fr hfr _ _ _ hp h2
      · cases h
    · simp only [Option.bind_eq_bind, Option.bind_eq_some_iff] at h
      obtain ⟨⟨x1, e1, H1, r1, w1⟩, h1, h⟩ := h
      have f1 := acode_fr hfr n _ _ _ hp h1
      simp only at h
      split at h
      · simp only [Option.bind_eq_bind, Option.bind_eq_some_iff] at h
        obtain ⟨⟨y, e3, H3, r2, w2⟩, h2, h⟩ := h
        simp only [Option.some.injEq, Prod.mk.injEq] at h
        obtain ⟨_, _, rfl, rfl, rfl⟩ := h
        exact f1.comp (acode_fr hfr n _ _ _ (Nat.le_trans hp f1.le) h2)
      · simp only [Option.some.injEq, Prod.mk.injEq] at h
        obtain ⟨_, _, rfl, rfl, rfl⟩ := h
        exact f1
    · simp only [Option.bind_eq_bind, Option.bind_eq_some_iff] at h
      obtain ⟨u, hu, h⟩ := h
      split at h
      · exact acode_fr hfr n _ _ _ hp h
      · exact acode_fr hfr n _ _ _ hp h
      · cases h
    · simp only [Option.bind_eq_bind, Option.bind_eq_some_iff] at h
      obtain ⟨⟨x1, e1, H1, r1, w1⟩, h1, h⟩ := h
      have f1 := acode_fr hfr n _ _ _ hp h1
      simp only at h
      split at h <;> (simp only [Option.some.injEq, Prod.mk.injEq] at h; obtain ⟨_, _, rfl, rfl, rfl⟩ := h; exact f1)
    · simp only [Option.bind_eq_bind, Option.bind_eq_some_iff] at h
      obtain ⟨⟨x1, e1, H1, r1, w1⟩, h1, h⟩ := h
      have f1 := acode_fr hfr n _ _ _ hp h1
      simp only at h
      split at h
      · simp only [Option.bind_eq_bind, Option.bind_eq_some_iff] at h
        obtain ⟨⟨y, e3, H3, r2, w2⟩, h2, h⟩ := h
        simp only [Option.some.injEq, Prod.mk.injEq] at h
        obtain ⟨_, _, rfl, rfl, rfl⟩ := h
        exact f1.comp (acode_fr hfr n _ _ _ (Nat.le_trans hp f1.le) h2)
      · simp only [Option.some.injEq, Prod.mk.injEq] at h
        obtain ⟨_, _, rfl, rfl, rfl⟩ := h
        exact f1
    · simp only [Option.some.injEq, Prod.mk.injEq] at h
      obtain ⟨_, _, rfl, rfl, rfl⟩ := h
      exact FrC.refl _ _
    · simp only [Option.some.injEq, Prod.mk.injEq] at h
      obtain ⟨_, _, rfl, rfl, rfl⟩ := h
      exact FrC.refl _ _
    · cases h
def AX.to : AX → Exit
  | .normal => .normal
  | .exit j => .exit j
  | .ret => .ret
end
end Go.Proofs.Ytfgeffmlfbeodaa.Ev

/- EV, part O: code and calls. No program here. -/
namespace Go.Proofs.Ytfgeffmlfbeodaa.Ev
open Go Go.RowKit
set_option linter.unusedVariables false
set_option linter.unusedSimpArgs false
section
variable {P : Program} {xc : Nat} {call : CallF} {p : Nat}
theorem acode_sound (hcall : CallOk P call) (hfr : CallFr call) (hcmp : CmpOk P xc) (hdr : DrawnOk P xc) : ∀ (n : Nat) (c : Code) (env : List Value) (H : AH) {x : AX} {e2 : List Value} {H2 : AH} {r w : List Nat}, acode P xc call p n c env H = some (x, e2, H2, r, w) →
    ∀ (ρ : Rho) (D : Nat → Prop) (G : Nat → Option Blk) (W : World) (T : Nat → Prop) (a : Act) (Q : Exit → Act → World → Prop), VRs ρ D env a.tmps.toList → PreC p ρ D G W T H H2 r w →
      (∀ ρ' a' W', a'.defers = a.defers → PostC p ρ ρ' D G W T H H2 w e2 a'.tmps.toList W' → Q x.to a' W') → c.wp P Q a W ∧ ∀ b, c = .loop b → Code.rounds P b Q n a W
  | 0, c, env, H, x, e2, H2, r, w, h, ρ, D, G, W, T, a, Q, he, hp, hQ => by cases h
  | n + 1, c, env, H, x, e2, H2, r, w, h, ρ, D, G, W, T, a, Q, he, hp, hQ => by
    unfold acode at h
    split at h
    · simp only [Option.some.injEq, Prod.mk.injEq] at h
      obtain ⟨rfl, rfl, rfl, rfl, rfl⟩ := h
      exact ⟨wp_skip (hQ ρ a W rfl (PostC.same hp he)), fun b hb => (by cases hb)⟩
    · simp only [Option.bind_eq_bind, Option.bind_eq_some_iff] at h
      obtain ⟨⟨e3, H3, r2, w2⟩, h2, h⟩ := h
      simp only [Option.some.injEq, Prod.mk.injEq] at h
      obtain ⟨rfl, rfl, rfl, rfl, rfl⟩ := h
      exact ⟨wp_region_list (aops_sound hcall hfr hcmp _ _ _ h2 ρ D G W T a he hp hQ), fun b hb => (by cases hb)⟩
    · simp only [Option.bind_eq_bind, Option.bind_eq_some_iff] at h
      obtain ⟨⟨e3, H3, r2, w2, fs⟩, h2, h⟩ := h
      simp only at h
      split at h
      · rename_i hfree
        simp only [Option.some.injEq, Prod.mk.injEq] at h
        obtain ⟨rfl, rfl, rfl, rfl, rfl⟩ := h
        exact ⟨hdr call p _ _ _ _ _ _ _ _ _ hcall hfr h2 hfree ρ D G W T a Q he hp hQ, fun b hb => (by cases hb)⟩
      · cases h
    · simp only [Option.bind_eq_bind, Option.bind_eq_some_iff] at h
      obtain ⟨⟨x1, e1, H1, r1, w1⟩, h1, h⟩ := h
      have f1 := acode_fr hfr n _ _ _ hp.le h1
      simp only at h
      split at h
      · simp only [Option.bind_eq_bind, Option.bind_eq_some_iff] at h
        obtain ⟨⟨y, e3, H3, r2, w2⟩, h2, h⟩ := h
        simp only [Option.some.injEq, Prod.mk.injEq] at h
        obtain ⟨rfl, rfl, rfl, rfl, rfl⟩ := h
        have f2 := acode_fr hfr n _ _ _ (Nat.le_trans hp.le f1.le) h2
        refine ⟨wp_seq (acode_sound hcall hfr hcmp hdr n _ _ _ h1 ρ D G W T a _ he (hp.first f2.le (fun id h => insAll_mem.2 (.inl ⟨h, f1.r id h⟩)) fun id h => insAll_mem.2 (.inl ⟨h, f1.w id h⟩)) fun ρ' a' W' hd hpost => ?_).1, fun b hb => (by cases hb)⟩
        refine (acode_sound hcall hfr hcmp hdr n _ _ _ h2 ρ' _ _ W' _ a' Q hpost.env (hp.second f1 f2 (fun id h => insAll_mem.2 (.inr h)) (fun id h => insAll_mem.2 (.inr h)) hpost) fun ρ'' a'' W'' hd2 hpost2 => hQ ρ'' a'' W'' (by rw [hd2, hd]) (hpost.comp f1 f2 (fun id => ?_) hpost2)).1
        rw [insAll_mem]
        constructor
        · rintro (h | h); exact .inl h.1; exact .inr h
        · rintro (h | h); exact .inl ⟨h, f1.w id h⟩; exact .inr h
      · rename_i hx
        simp only [Option.some.injEq, Prod.mk.injEq] at h
        obtain ⟨rfl, rfl, rfl, rfl, rfl⟩ := h
        refine ⟨wp_seq (acode_sound hcall hfr hcmp hdr n _ _ _ h1 ρ D G W T a _ he hp fun ρ' a' W' hd hpost => ?_).1, fun b hb => (by cases hb)⟩
        have := hQ ρ' a' W' hd hpost
        cases x1
        · exact absurd rfl hx
        · exact this
        · exact this
    · simp only [Option.bind_eq_bind, Option.bind_eq_some_iff] at h
      obtain ⟨u, hu, h⟩ := h
      have hv := aeval_sound he hu
      split at h
      · exact ⟨wp_cond_true (VR.flat_eq hv rfl) (acode_sound hcall hfr hcmp hdr n _ _ _ h ρ D G W T a Q he hp hQ).1, fun b hb => (by cases hb)⟩
      · exact ⟨wp_cond_false (VR.flat_eq hv rfl) (acode_sound hcall hfr hcmp hdr n _ _ _ h ρ D G W T a Q he hp hQ).1, fun b hb => (by cases hb)⟩
      · cases h
    · rename_i id b
      simp only [Option.bind_eq_bind, Option.bind_eq_some_iff] at h
      obtain ⟨⟨x1, e1, H1, r1, w1⟩, h1, h⟩ := h
      simp only at h
      split at h
      · rename_i j
        simp only [Option.some.injEq, Prod.mk.injEq] at h
        obtain ⟨rfl, rfl, rfl, rfl, rfl⟩ := h
        refine ⟨wp_block (acode_sound hcall hfr hcmp hdr n _ _ _ h1 ρ D G W T a _ he hp fun ρ' a' W' hd hpost => ?_).1, fun b hb => (by cases hb)⟩
        have := hQ ρ' a' W' hd hpost
        show Exit.inBlock id Q (.exit j) a' W'
        simp only [Exit.inBlock]
        split
        · rename_i hj; rw [if_pos hj] at this; exact this
        · rename_i hj; rw [if_neg hj] at this; exact this
      · rename_i hx
        simp only [Option.some.injEq, Prod.mk.injEq] at h
        obtain ⟨rfl, rfl, rfl, rfl, rfl⟩ := h
        refine ⟨wp_block (acode_sound hcall hfr hcmp hdr n _ _ _ h1 ρ D G W T a _ he hp fun ρ' a' W' hd hpost => ?_).1, fun b hb => (by cases hb)⟩
        have := hQ ρ' a' W' hd hpost
        cases x1
        · exact this
        · exact absurd rfl (hx _)
        · exact this
    · rename_i b
      suffices hr : Code.rounds P b Q (n + 1) a W from ⟨wp_loop_rounds (n + 1) hr, fun b' hb => (by cases hb; exact hr)⟩
      rw [rounds_succ]
      simp only [Option.bind_eq_bind, Option.bind_eq_some_iff] at h
      obtain ⟨⟨x1, e1, H1, r1, w1⟩, h1, h⟩ := h
      have f1 := acode_fr hfr n _ _ _ hp.le h1
      simp only at h
      split at h
      · simp only [Option.bind_eq_bind, Option.bind_eq_some_iff] at h
        obtain ⟨⟨y, e3, H3, r2, w2⟩, h2, h⟩ := h
        simp only [Option.some.injEq, Prod.mk.injEq] at h
        obtain ⟨rfl, rfl, rfl, rfl, rfl⟩ := h
        have f2 := acode_fr hfr n _ _ _ (Nat.le_trans hp.le f1.le) h2
        refine (acode_sound hcall hfr hcmp hdr n _ _ _ h1 ρ D G W T a _ he (hp.first f2.le (fun id h => insAll_mem.2 (.inl ⟨h, f1.r id h⟩)) fun id h => insAll_mem.2 (.inl ⟨h, f1.w id h⟩)) fun ρ' a' W' hd hpost => ?_).1
        refine (acode_sound hcall hfr hcmp hdr n _ _ _ h2 ρ' _ _ W' _ a' Q hpost.env (hp.second f1 f2 (fun id h => insAll_mem.2 (.inr h)) (fun id h => insAll_mem.2 (.inr h)) hpost) fun ρ'' a'' W'' hd2 hpost2 => hQ ρ'' a'' W'' (by rw [hd2, hd]) (hpost.comp f1 f2 (fun id => ?_) hpost2)).2 b rfl
        rw [insAll_mem]
        constructor
        · rintro (h | h); exact .inl h.1; exact .inr h
        · rintro (h | h); exact .inl ⟨h, f1.w id h⟩; exact .inr h
      · rename_i hx
        simp only [Option.some.injEq, Prod.mk.injEq] at h
        obtain ⟨rfl, rfl, rfl, rfl, rfl⟩ := h
        refine (acode_sound hcall hfr hcmp hdr n _ _ _ h1 ρ D G W T a _ he hp fun ρ' a' W' hd hpost => ?_).1
        have := hQ ρ' a' W' hd hpost
        cases x1
        · exact absurd rfl hx
        · exact this
        · exact this
    · simp only [Option.some.injEq, Prod.mk.injEq] at h
      obtain ⟨rfl, rfl, rfl, rfl, rfl⟩ := h
      exact ⟨wp_exit (hQ ρ a W rfl (PostC.same hp he)), fun b hb => (by cases hb)⟩
    · simp only [Option.some.injEq, Prod.mk.injEq] at h
      obtain ⟨rfl, rfl, rfl, rfl, rfl⟩ := h
      exact ⟨wp_ret (hQ ρ a W rfl (PostC.same hp he)), fun b hb => (by cases hb)⟩
    · cases h
end
end Go.Proofs.Ytfgeffmlfbeodaa.Ev

/- EV, part Q: calls. No program here. -/
namespace Go.Proofs.Ytfgeffmlfbeodaa.Ev
open Go Go.RowKit
set_option linter.unusedVariables false
set_option linter.unusedSimpArgs false
section
variable {P : Program} {xc : Nat} {call : CallF} {p : Nat} {ρ ρ' : Rho} {D : Nat → Prop} {G : Nat → Option Blk} {W : World} {T : Nat → Prop} {H H' : AH} {R Wr : List Nat} {env : List Value}
theorem aload_same {t : TypeId} {x v : Value} (h : aload P H t x = some (v, H', R, Wr)) : H' = H ∧ Wr = [] := by
  unfold aload at h
  split at h
  · simp only [Option.bind_eq_bind, Option.bind_eq_some_iff] at h
    obtain ⟨⟨l, z, s⟩, hl, sz, hsz, b, hb, h⟩ := h
    cases b with
    | true =>
      simp only [if_true] at h
      split at h
      · simp only [Option.some.injEq, Prod.mk.injEq] at h
        obtain ⟨_, rfl, _, rfl⟩ := h
        exact ⟨rfl, rfl⟩
      · cases h
    | false =>
      simp only [Bool.false_eq_true, if_false, Option.bind_eq_some_iff] at h
      obtain ⟨w, hw, h⟩ := h
      simp only [Option.some.injEq, Prod.mk.injEq] at h
      obtain ⟨_, rfl, _, rfl⟩ := h
      exact ⟨rfl, rfl⟩
  · cases h
def packR : List Value → Value
  | [v] => v
  | vs => .tuple ⟨vs⟩
def resG (tmps : Array Value) : ResultVar → Sem Value
  | .tmp t => pure (tmps.getD t undef)
  | .cell a t => do loadVar t (← asAddr (tmps.getD a undef))
theorem results_run {fn : Func} {tmps : Array Value} {vs : List Value} (h : (fn.results.toList.mapM (resG tmps)).run P W = .ok vs W) :
    (results fn tmps).run P W = .ok (packR vs) W := by
  have e : results fn tmps = (do let vs ← fn.results.mapM (resG tmps); pure (if h : vs.size = 1 then vs[0] else .tuple vs)) := by
    unfold results
    congr 1
  rw [e, Array.mapM_eq_mapM_toList]
  simp only [Sem.run_bind, Sem.run_map, map_eq_pure_bind, bind_assoc, pure_bind, h, Result.andThen_ok, Sem.run_pure]
  match vs with
  | [] => rfl
  | [v] => rfl
  | _ :: _ :: _ => rfl
theorem aresults_sound {tmps : Array Value} (he : VRs ρ D env tmps.toList) (hr : HR ρ D G W T) : ∀ {l : List ResultVar} {vs : List Value} {rs : List Nat}, aresults P env H l = some (vs, rs) → (∀ id ∈ rs, id < H.next → T id ∧ G id = H.get id) →
    (∀ id ∈ rs, id < H.next) ∧ ∃ vs', VRs ρ D vs vs' ∧ (l.mapM (resG tmps)).run P W = .ok vs' W
  | [], vs, rs, h, hg => by
    simp only [aresults, Option.some.injEq, Prod.mk.injEq] at h
    obtain ⟨rfl, rfl⟩ := h
    exact ⟨fun _ h => (by cases h), [], .nil, rfl⟩
  | x :: l, vs, rs, h, hg => by
    simp only [aresults, Option.bind_eq_bind, Option.bind_eq_some_iff] at h
    obtain ⟨⟨v, r⟩, hv, ⟨us, qs⟩, hus, h⟩ := h
    simp only [Option.some.injEq, Prod.mk.injEq] at h
    obtain ⟨rfl, rfl⟩ := h
    obtain ⟨hlt, us', hus', hrun⟩ := aresults_sound he hr hus fun id hid => hg id (List.mem_append_right _ hid)
    have get : ∀ t : Nat, VR ρ D (env.getD t undef) (tmps.getD t undef) := fun t => by
      have := VRs.getD t he
      simpa [Array.getD_eq_getD_getElem?, List.getD_eq_getElem?_getD] using this
    have key : (∀ id ∈ r, id < H.next) ∧ ∃ v', VR ρ D v v' ∧ (resG tmps x).run P W = .ok v' W := by
      cases x with
      | tmp t =>
        simp only [aresult, Option.some.injEq, Prod.mk.injEq] at hv
        obtain ⟨rfl, rfl⟩ := hv
        exact ⟨fun _ h => (by cases h), _, get t, rfl⟩
      | cell a t =>
        simp only [aresult, Option.bind_eq_bind, Option.bind_eq_some_iff] at hv
        obtain ⟨⟨u, H1, r1, w1⟩, hl, hv⟩ := hv
        simp only at hv
        split at hv
        · rename_i hlt
          simp only [Option.some.injEq, Prod.mk.injEq] at hv
          obtain ⟨rfl, rfl⟩ := hv
          obtain ⟨rfl, rfl⟩ := aload_same hl
          have hlt := allLt_mem hlt
          have hg' : ∀ id ∈ r1, T id ∧ G id = H1.get id := fun id hid => hg id (List.mem_append_left _ hid) (hlt id hid)
          have hp : Pre ρ D G W T H1 H1 r1 [] := ⟨hr, fun id h => h.elim (fun h => (hg' id h).1) fun h => (by cases h), fun id h => h.elim (fun h => (hg' id h).2) fun h => (by cases h), fun id h1 h2 => (by omega)⟩
          obtain ⟨_, _, v', hvr, _, b, i, hptr, hload⟩ := load_sound hl hp (get a)
          refine ⟨hlt, v', hvr, ?_⟩
          simp only [resG, hptr, asAddr, Sem.run_bind, Sem.run_pure, Result.andThen_ok]
          exact hload
        · cases hv
    obtain ⟨hlt1, v', hvr, hrun1⟩ := key
    refine ⟨fun id hid => (List.mem_append.1 hid).elim (hlt1 id) (hlt id), v' :: us', .cons hvr hus', ?_⟩
    simp only [List.mapM_cons, Sem.run_bind, hrun1, hrun, Result.andThen_ok, Sem.run_pure]
theorem acall_ok (hcmp : CmpOk P xc) (hdr : DrawnOk P xc) : ∀ d : Nat, CallOk P (acall P xc d) ∧ CallFr (acall P xc d)
  | 0 => ⟨fun f args H v H' R Wr h => (by simp [acall] at h), fun f args H v H' R Wr h => (by simp [acall] at h)⟩
  | d + 1 => by
    obtain ⟨ihc, ihf⟩ := acall_ok hcmp hdr d
    have form : ∀ (f : FuncId) (args : List Value) (H : AH) (v : Value) (H' : AH) (R Wr : List Nat), acall P xc (d + 1) f args H = some (v, H', R, Wr) →
        ∃ fn c x env r vs rs, P.funcs[f]? = some fn ∧ fn.body = some c ∧ acode P xc (acall P xc d) H.next 100000 c (args ++ List.replicate (fn.ntmps - args.length) undef) H = some (x, env, H', r, Wr) ∧
          (x = .normal ∨ x = .ret) ∧ aresults P env H' fn.results.toList = some (vs, rs) ∧ v = (packR vs) ∧ R = insAll H.next rs r := by
      intro f args H v H' R Wr h
      unfold acall at h
      simp only [Option.bind_eq_bind, Option.bind_eq_some_iff] at h
      obtain ⟨fn, hfn, c, hc, h⟩ := h
      split at h
      · cases h
      · simp only [Option.bind_eq_some_iff] at h
        obtain ⟨⟨x, env, H1, r, w⟩, hcode, h⟩ := h
        simp only at h
        split at h
        · cases h
        · rename_i hx
          simp only [Option.bind_eq_some_iff, Option.some.injEq, Prod.mk.injEq] at h
          obtain ⟨⟨vs, rs⟩, hrs, h1, rfl, rfl, rfl⟩ := h
          refine ⟨fn, c, x, env, r, vs, rs, hfn, hc, hcode, ?_, hrs, ?_, rfl⟩
          · cases x with
            | normal => exact .inl rfl
            | ret => exact .inr rfl
            | exit j => exact absurd rfl (hx j)
          · rw [← h1]; unfold packR; rfl
    constructor
    · intro f args H v H' R Wr h ρ D G W T args' ha hp
      obtain ⟨fn, c, x, env, r, vs, rs, hfn, hc, hcode, hx, hrs, rfl, rfl⟩ := form _ _ _ _ _ _ _ h
      have f1 := acode_fr (p := H.next) ihf _ _ _ _ (Nat.le_refl _) hcode
      refine calls_of_wp hfn hc ?_
      refine (acode_sound (p := H.next) ihc ihf hcmp hdr _ _ _ _ hcode ρ D G W T _ _ ?_ ⟨Nat.le_refl _, hp.hr, fun id h => ?_, hp.fresh⟩ fun ρ' a' W' hd hpost => ?_).1
      · have hl : args'.size = args.length := by rw [← ha.length]; simp
        simp only [Array.toList_append, Array.toList_replicate, hl]
        exact ha.append (VRs.replicate (.tuple .nil) _)
      · rcases h with h | h | h
        · exact ⟨hp.tr id (.inl (insAll_mem.2 (.inr h))), hp.g id (.inl (insAll_mem.2 (.inr h)))⟩
        · exact ⟨hp.tr id (.inr h), hp.g id (.inr h)⟩
        · omega
      · obtain ⟨hlt, vs', hvs, hrun⟩ := aresults_sound (P := P) hpost.env hpost.hr hrs fun id hid hlt => by
          by_cases h1 : id < H.next
          · have hR : id ∈ insAll H.next rs r := insAll_mem.2 (.inl ⟨hid, h1⟩)
            refine ⟨.inl (hp.tr id (.inl hR)), ?_⟩
            unfold Gc
            split
            · rfl
            · rename_i hn
              rw [hp.g id (.inl hR), f1.fr id h1 fun h => hn (.inl h)]
          · exact ⟨.inr (by omega), by unfold Gc; rw [if_pos (.inr (by omega))]⟩
        have hres := results_run hrun
        have hvr : VR ρ' (Dn D H H') (packR vs) (packR vs') := by
          cases hvs with
          | nil => exact .tuple .nil
          | cons h1 h2 =>
            cases h2 with
            | nil => exact h1
            | cons h3 h4 => exact .tuple (.cons h1 (.cons h3 h4))
        have hP : Post ρ D G W T H H' Wr (packR vs) (packR vs') W' := ⟨ρ', hpost.ag, hvr, hpost.hr, hpost.below⟩
        rcases hx with rfl | rfl
        · exact ⟨hd, _, hres, _, rfl, hP⟩
        · exact ⟨hd, _, hres, _, rfl, hP⟩
    · intro f args H v H' R Wr h
      obtain ⟨fn, c, x, env, r, vs, rs, hfn, hc, hcode, hx, hrs, rfl, rfl⟩ := form _ _ _ _ _ _ _ h
      have f1 := acode_fr (p := H.next) ihf _ _ _ _ (Nat.le_refl _) hcode
      exact ⟨f1.le, f1.fr⟩
end
end Go.Proofs.Ytfgeffmlfbeodaa.Ev

/- EV, part R: an operation looks at its own operands alone. No program here. -/
namespace Go.Proofs.Ytfgeffmlfbeodaa.Ev
open Go Go.RowKit
set_option linter.unusedVariables false
set_option linter.unusedSimpArgs false
section
variable {P : Program} {xc : Nat} {call : CallF} {H : AH} {env env' : List Value}
theorem cleanOp_congr {x : Operand} (h : aeval env x = aeval env' x) : cleanOp env x = cleanOp env' x := by
  unfold cleanOp
  rw [h]
theorem agen_congr {o : Oper} (h : ∀ x ∈ o.op.operands.toList, aeval env x = aeval env' x) : agen P env o H = agen P env' o H := by
  unfold agen
  have h1 : o.op.operands.toList.all (cleanOp env) = o.op.operands.toList.all (cleanOp env') := by
    rw [Bool.eq_iff_iff, List.all_eq_true, List.all_eq_true]
    constructor
    · intro hh x hx; rw [← cleanOp_congr (h x hx)]; exact hh x hx
    · intro hh x hx; rw [cleanOp_congr (h x hx)]; exact hh x hx
  rw [h1]
  split
  · rename_i hc
    rw [Bool.and_eq_true] at hc
    have hs : ∀ cs x, o.op ≠ .select cs x := fun cs x e => by rw [e] at hc; exact absurd hc.1 (by simp [notSel])
    rw [execOp_congr o hs (ρ := fun x => (aeval env x).getD undef) (ρ' := fun x => (aeval env' x).getD undef) (fun x hx => by show (aeval env x).getD undef = _; rw [h x (Array.mem_toList_iff.2 hx)])]
  · rfl
theorem aparts_congr : ∀ {ps : List (Nat × Operand)}, (∀ x ∈ ps.map (·.2), aeval env x = aeval env' x) → aparts env ps = aparts env' ps
  | [], _ => rfl
  | (i, x) :: r, h => by
    unfold aparts
    rw [h x (by simp), aparts_congr fun y hy => h y (by simp only [List.map_cons, List.mem_cons]; exact .inr hy)]
theorem mapM_congr' : ∀ {xs : List Operand}, (∀ x ∈ xs, aeval env x = aeval env' x) → xs.mapM (aeval env) = xs.mapM (aeval env')
  | [], _ => rfl
  | x :: xs, h => by
    rw [List.mapM_cons, List.mapM_cons, h x (by simp), mapM_congr' fun y hy => h y (by simp [hy])]
theorem optEval_congr {x : Option Operand} (h : ∀ y ∈ x.toList, aeval env y = aeval env' y) : optEval env x = optEval env' x := by
  cases x with
  | none => rfl
  | some y => show (aeval env y).map some = (aeval env' y).map some; rw [h y (by simp)]
theorem aop_congr {o : Oper} (h : ∀ x ∈ o.op.operands.toList, aeval env x = aeval env' x) : aop P xc call env o H = aop P xc call env' o H := by
  have hg : agen P env o H = agen P env' o H := agen_congr h
  unfold aop
  rw [hg]
  cases hop : o.op <;> rw [hop] at h
  case build t ps => simp only [Op.operands] at h; simp only [aparts_congr h]
  case buildSlice t n ps => simp only [Op.operands] at h; simp only [aparts_congr h]
  case makeFunc fn first captured =>
    simp only [Op.operands, Array.toList_append] at h
    cases fn
    all_goals try rfl
    dsimp only
    rw [mapM_congr' (env := env) (env' := env') fun x hx => h x (List.mem_append_left _ hx), mapM_congr' (env := env) (env' := env') fun x hx => h x (List.mem_append_right _ hx)]
  case slice t x lo hi mx =>
    simp only [Op.operands, Array.toList_append] at h
    simp only [h x (by simp), optEval_congr (env := env) (env' := env') (x := lo) (fun y hy => h y (by cases lo <;> simp_all)), optEval_congr (env := env) (env' := env') (x := hi) (fun y hy => h y (by cases hi <;> simp_all)), optEval_congr (env := env) (env' := env') (x := mx) (fun y hy => h y (by cases mx <;> simp_all))]
  case call c =>
    cases c with
    | mk callee args ats =>
      cases callee
      case builtin b =>
        simp only [Op.operands, Call.operands, Array.empty_append] at h
        have hd : args.toList.head?.bind (aeval env) = args.toList.head?.bind (aeval env') := by
          cases he : args.toList with
          | nil => rfl
          | cons y ys => exact h y (by rw [he]; simp)
        cases b
        case len => dsimp only; rw [hd]
        case append =>
          dsimp only
          split
          · rename_i s x he
            rw [h s (by rw [he]; simp), h x (by rw [he]; simp)]
          · rfl
        case copy =>
          dsimp only
          split
          · rename_i s x he
            rw [h s (by rw [he]; simp), h x (by rw [he]; simp)]
          · rfl
        all_goals rfl
      case value f =>
        simp only [Op.operands, Call.operands, Array.toList_append] at h
        dsimp only
        rw [h f (by simp), mapM_congr' (env := env) (env' := env') fun x hx => h x (List.mem_append_right _ hx)]
      all_goals rfl
  case next x s =>
    cases s
    · rfl
    · simp only [Op.operands] at h
      simp only [h x (by simp)]
  all_goals first
    | rfl
    | (simp only [Op.operands] at h
       first
       | (simp only [h _ (List.mem_singleton.2 rfl)]; done)
       | (simp only [h _ (List.mem_cons.2 (.inl rfl)), h _ (List.mem_cons.2 (.inr (List.mem_cons.2 (.inl rfl))))]; done)
       | (simp only [h _ (List.mem_cons.2 (.inl rfl)), h _ (List.mem_cons.2 (.inr (List.mem_cons.2 (.inl rfl)))), h _ (List.mem_cons.2 (.inr (List.mem_cons.2 (.inr (List.mem_cons.2 (.inl rfl))))))]; done)
       | skip)
end
end Go.Proofs.Ytfgeffmlfbeodaa.Ev

/- EV, part S: a region in any order, by an invariant over what has come up. No program here. -/
namespace Go.Proofs.Ytfgeffmlfbeodaa.Ev
open Go Go.RowKit Go.Proofs.Ytfgeffmlfbeodaa.RG
set_option linter.unusedVariables false
set_option linter.unusedSimpArgs false
theorem any_of_inv {P : Program} {ops : Array Oper} {Q : Exit → Act → World → Prop} {md : Region.Mode} {I : Array Bool → Act → World → Prop}
    (hlow : ∀ i o, ops[i]? = some o → ∀ e ∈ o.after, Region.binds md e = true → e.on < i)
    (hstep : ∀ (L : Array Bool) (a : Act) (w : World) (i : Nat) (o : Oper), L.size = ops.size → I L a w → ops[i]? = some o → L.getD i true = false → (∀ e ∈ o.after, Region.binds md e = true → L.getD e.on false = true) → wpOp P ops Q i (I (L.setIfInBounds i true)) a w)
    (hend : ∀ (L : Array Bool) (a : Act) (w : World), L.size = ops.size → (∀ i, i < ops.size → L.getD i true = true) → I L a w → Q .normal a w) :
    ∀ (u : Nat) (L : Array Bool) (a : Act) (w : World), L.size = ops.size → unl L ops.size = u → I L a w → wpAny P md ops Q u L a w := by
  have hall : ∀ L : Array Bool, L.size = ops.size → Region.ready md ops L = [] → ∀ i, i < ops.size → L.getD i true = true := by
    intro L hs hr i
    induction i using Nat.strongRecOn with
    | _ i ih =>
      intro hi
      have hget : ops[i]? = some (ops[i]'hi) := Array.getElem?_eq_getElem hi
      cases hb : L.getD i true with
      | true => rfl
      | false =>
        have : i ∈ Region.ready md ops L := mem_ready.2 ⟨hb, _, hget, fun e he hbe => by
          have hlt := hlow i _ hget e he hbe
          have h1 := ih e.on hlt (by omega)
          have : e.on < L.size := by omega
          simp [this] at h1 ⊢
          exact h1⟩
        rw [hr] at this
        cases this
  intro u
  induction u with
  | zero =>
    intro L a w hs hu hI
    have h1 := unl_zero _ hu
    refine ⟨?_, hend L a w hs h1 hI⟩
    cases hr : Region.ready md ops L with
    | nil => rfl
    | cons i rest =>
      have hm : i ∈ Region.ready md ops L := by rw [hr]; simp
      obtain ⟨hb, o, ho, _⟩ := mem_ready.1 hm
      have := h1 i (Array.getElem?_eq_some_iff.1 ho).1
      rw [hb] at this
      cases this
  | succ u ih =>
    intro L a w hs hu hI
    refine ⟨fun hr => hend L a w hs (hall L hs hr) hI, fun i hi => ?_⟩
    obtain ⟨hb, o, ho, hafter⟩ := mem_ready.1 hi
    have hlt := (Array.getElem?_eq_some_iff.1 ho).1
    refine wpOp_mono (fun a' w' hI' => ih _ a' w' (by simp [hs]) ?_ hI') (hstep L a w i o hs hI ho hb hafter)
    have := unl_set (by omega) hb ops.size hlt
    omega
end Go.Proofs.Ytfgeffmlfbeodaa.Ev

/- EV, the top: a closed function that the evaluator finds true returns true. No program here. -/
namespace Go.Proofs.Ytfgeffmlfbeodaa.Ev
open Go Go.RowKit
set_option linter.unusedVariables false
set_option linter.unusedSimpArgs false
theorem closed_true {P : Program} {xc d : Nat} {f : FuncId} (hcmp : CmpOk P xc) (hdr : DrawnOk P xc) (h : isTrue (acall P xc d f [] AH.empty) = true) (w : World) :
    Calls P f #[] w fun e w' => e = .returned (.bool true) ∧ Below w.heap.size w w' := by
  unfold isTrue at h
  split at h
  · rename_i b H' e
    subst h
    let D : Nat → Prop := fun id => H'.next ≤ id ∧ id < H'.next + w.heap.size
    let ρ : Rho := fun id => ⟨id - H'.next, 0, 0, 0⟩
    let G : Nat → Option Blk := fun id => if H'.next ≤ id then (w.heap[id - H'.next]?).map fun o => ⟨.opq o, true, none⟩ else none
    have hD : ∀ id, D id ↔ (H'.next ≤ id ∧ id < H'.next + w.heap.size) := fun _ => Iff.rfl
    have hr : HR ρ D G w D := by
      refine ⟨fun _ h => h, fun id b hT hg hl => ?_, fun i j b c hi hj hij _ _ _ _ _ => ?_⟩
      · have h1 := (hD id).1 hT
        have hlt : id - H'.next < w.heap.size := by omega
        simp only [G] at hg
        rw [if_pos h1.1, Array.getElem?_eq_getElem hlt] at hg
        simp only [Option.map_some, Option.some.injEq] at hg
        subst hg
        show w.heap[id - H'.next]? = some _
        exact Array.getElem?_eq_getElem hlt
      · have h1 := (hD i).1 hi
        have h2 := (hD j).1 hj
        show i - H'.next ≠ j - H'.next
        omega
    have hp : Pre ρ D G w D AH.empty H' [] [] := ⟨hr, fun id h => h.elim (fun h => (by cases h)) fun h => (by cases h), fun id h => h.elim (fun h => (by cases h)) fun h => (by cases h), fun id _ h2 h3 => by have := (hD id).1 h3; omega⟩
    refine ((acall_ok hcmp hdr d).1 f [] AH.empty _ H' [] [] e ρ D G w D #[] .nil hp).mono fun en w' ⟨v', hen, ρ', hag, hv, hhr, hb⟩ => ⟨?_, hb.os, hb.tape, hb.output, hb.size, fun k hk => ?_⟩
    · rw [hen, VR.flat_eq hv rfl]
    · have hT : Dn D AH.empty H' (H'.next + k) := .inl ((hD _).2 (by omega))
      have hsub : H'.next + k - H'.next = k := by omega
      have hg : Gn G AH.empty H' [] (H'.next + k) = some ⟨.opq (w.heap[k]'hk), true, none⟩ := by
        unfold Gn
        rw [if_neg (by rintro (h | h); cases h; omega)]
        simp only [G]
        rw [if_pos (by omega), hsub, Array.getElem?_eq_getElem hk]
        rfl
      have hB := hhr.blk _ _ hT hg rfl
      have hρ := hag (H'.next + k) ((hD _).2 (by omega))
      unfold BlkR at hB
      simp only [hρ] at hB
      have e1 : (ρ (H'.next + k)).blk = k := hsub
      rw [e1] at hB
      rw [hB, Array.getElem?_eq_getElem hk]
  · cases h
end Go.Proofs.Ytfgeffmlfbeodaa.Ev

/- EV, part U: the text's order of a drawn region, step by step. No program here. -/
namespace Go.Proofs.Ytfgeffmlfbeodaa.Ev
open Go Go.RowKit
set_option linter.unusedVariables false
set_option linter.unusedSimpArgs false
/-- One step of the text's order. -/
def Row (P : Program) (xc : Nat) (call : CallF) (ops : Array Oper) (o : Oper) (env : List Value) (H : AH) (v : Value) (env' : List Value) (H' : AH) (ft : List Nat × List Nat) : Prop :=
  env' = aputs env o.dst v ∧ ((Region.wanted o (ayield ops env) = true ∧ aopB P xc call env o H = some (v, H', ft.1, ft.2)) ∨ (Region.wanted o (ayield ops env) = false ∧ v = undef ∧ H' = H ∧ ft = ([], [])))
def fent (H H' : AH) (ft : List Nat × List Nat) : Ent := (ft.1, ft.2, H.next, H'.next)
structure Run (P : Program) (xc : Nat) (call : CallF) (p : Nat) (ops : Array Oper) (l : List Oper) (env : List Value) (H : AH) (e2 : List Value) (H2 : AH) (r w : List Nat) (fs : List Ent) (es : Nat → List Value) (Hs : Nat → AH) (vs : Nat → Value) (ft : Nat → List Nat × List Nat) : Prop where
  h0 : Hs 0 = H
  e0 : es 0 = env
  hn : Hs l.length = H2
  en : es l.length = e2
  row : ∀ i o, l[i]? = some o → Row P xc call ops o (es i) (Hs i) (vs i) (es (i + 1)) (Hs (i + 1)) (ft i)
  r : ∀ id, id ∈ r ↔ ∃ i, i < l.length ∧ id ∈ (ft i).1 ∧ id < p
  w : ∀ id, id ∈ w ↔ ∃ i, i < l.length ∧ id ∈ (ft i).2 ∧ id < p
  fl : fs.length = l.length
  fs : ∀ i, i < l.length → fs[i]? = some (fent (Hs i) (Hs (i + 1)) (ft i))
def cons0 {α : Type} (x : α) (f : Nat → α) : Nat → α
  | 0 => x
  | i + 1 => f i
theorem aopsD_run {P : Program} {xc : Nat} {call : CallF} {p : Nat} {ops : Array Oper} : ∀ (l : List Oper) (env : List Value) (H : AH) {e2 : List Value} {H2 : AH} {r w : List Nat} {fs : List Ent}, aopsD P xc call p ops l env H = some (e2, H2, r, w, fs) →
    ∃ es Hs vs ft, Run P xc call p ops l env H e2 H2 r w fs es Hs vs ft
  | [], env, H, e2, H2, r, w, fs, h => by
    simp only [aopsD, Option.some.injEq, Prod.mk.injEq] at h
    obtain ⟨rfl, rfl, rfl, rfl, rfl⟩ := h
    exact ⟨fun _ => env, fun _ => H, fun _ => undef, fun _ => ([], []), rfl, rfl, rfl, rfl, fun i o h => (by simp at h), fun id => (by simp), fun id => (by simp), rfl, fun i h => (by simp at h)⟩
  | o :: rest, env, H, e2, H2, r, w, fs, h => by
    unfold aopsD at h
    split at h
    · rename_i hw
      simp only [Option.bind_eq_bind, Option.bind_eq_some_iff] at h
      obtain ⟨⟨v, H1, r1, w1⟩, h1, ⟨e3, H3, r2, w2, fs2⟩, h2, h⟩ := h
      simp only [Option.some.injEq, Prod.mk.injEq] at h
      obtain ⟨rfl, rfl, rfl, rfl, rfl⟩ := h
      obtain ⟨es, Hs, vs, ft, R⟩ := aopsD_run rest _ _ h2
      refine ⟨cons0 env es, cons0 H Hs, cons0 v vs, cons0 (r1, w1) ft, rfl, rfl, R.hn, R.en, fun i o' hi => ?_, fun id => ?_, fun id => ?_, by simp [R.fl], fun i hi => ?_⟩
      · cases i with
        | zero =>
          simp only [List.getElem?_cons_zero, Option.some.injEq] at hi
          subst hi
          refine ⟨R.e0, .inl ⟨hw, ?_⟩⟩
          show aopB P xc call env o H = some (v, Hs 0, r1, w1)
          rw [R.h0]; exact h1
        | succ i => exact R.row i o' (by simpa using hi)
      · rw [insAll_mem, R.r]
        constructor
        · rintro (h | ⟨i, h⟩)
          · exact ⟨0, by simp, h⟩
          · exact ⟨i + 1, by simp; exact h.1, h.2⟩
        · rintro ⟨i, h1, h2, h3⟩
          cases i with
          | zero => exact .inl ⟨h2, h3⟩
          | succ i => exact .inr ⟨i, by simpa using h1, h2, h3⟩
      · rw [insAll_mem, R.w]
        constructor
        · rintro (h | ⟨i, h⟩)
          · exact ⟨0, by simp, h⟩
          · exact ⟨i + 1, by simp; exact h.1, h.2⟩
        · rintro ⟨i, h1, h2, h3⟩
          cases i with
          | zero => exact .inl ⟨h2, h3⟩
          | succ i => exact .inr ⟨i, by simpa using h1, h2, h3⟩
      · cases i with
        | zero =>
          show some _ = some (fent H (Hs 0) (r1, w1))
          rw [R.h0]; rfl
        | succ i => exact R.fs i (by simpa using hi)
    · rename_i hw
      simp only [Option.bind_eq_bind, Option.bind_eq_some_iff] at h
      obtain ⟨⟨e3, H3, r2, w2, fs2⟩, h2, h⟩ := h
      simp only [Option.some.injEq, Prod.mk.injEq] at h
      obtain ⟨rfl, rfl, rfl, rfl, rfl⟩ := h
      obtain ⟨es, Hs, vs, ft, R⟩ := aopsD_run rest _ _ h2
      refine ⟨cons0 env es, cons0 H Hs, cons0 undef vs, cons0 ([], []) ft, rfl, rfl, R.hn, R.en, fun i o' hi => ?_, fun id => ?_, fun id => ?_, by simp [R.fl], fun i hi => ?_⟩
      · cases i with
        | zero =>
          simp only [List.getElem?_cons_zero, Option.some.injEq] at hi
          subst hi
          exact ⟨R.e0, .inr ⟨by show Region.wanted o (ayield ops env) = false; simpa using hw, rfl, R.h0, rfl⟩⟩
        | succ i => exact R.row i o' (by simpa using hi)
      · rw [R.r]
        constructor
        · rintro ⟨i, h⟩; exact ⟨i + 1, by simp; exact h.1, h.2⟩
        · rintro ⟨i, h1, h2, h3⟩
          cases i with
          | zero => cases h2
          | succ i => exact ⟨i, by simpa using h1, h2, h3⟩
      · rw [R.w]
        constructor
        · rintro ⟨i, h⟩; exact ⟨i + 1, by simp; exact h.1, h.2⟩
        · rintro ⟨i, h1, h2, h3⟩
          cases i with
          | zero => cases h2
          | succ i => exact ⟨i, by simpa using h1, h2, h3⟩
      · cases i with
        | zero =>
          show some _ = some (fent H (Hs 0) ([], []))
          rw [R.h0]; rfl
        | succ i => exact R.fs i (by simpa using hi)
end Go.Proofs.Ytfgeffmlfbeodaa.Ev

/- EV, part V: who wrote what in the text's order. No program here. -/
namespace Go.Proofs.Ytfgeffmlfbeodaa.Ev
open Go Go.RowKit
set_option linter.unusedVariables false
set_option linter.unusedSimpArgs false
section
variable {P : Program} {xc : Nat} {call : CallF} {p : Nat} {ops : Array Oper} {l : List Oper} {env e2 : List Value} {H H2 : AH} {r w : List Nat} {fs : List Ent} {es : Nat → List Value} {Hs : Nat → AH} {vs : Nat → Value} {ft : Nat → List Nat × List Nat}
theorem Run.step_fr (hfr : CallFr call) (R : Run P xc call p ops l env H e2 H2 r w fs es Hs vs ft) {i : Nat} (hi : i < l.length) : Fr (Hs i) (Hs (i + 1)) (ft i).2 ∧ (∀ x ∈ (ft i).1, x < (Hs i).next) ∧ ∀ x ∈ (ft i).2, x < (Hs i).next := by
  obtain ⟨_, h⟩ := R.row i _ (List.getElem?_eq_getElem hi)
  rcases h with ⟨_, h⟩ | ⟨_, _, h2, h3⟩
  · obtain ⟨h1, h2, h3⟩ := aopB_some h
    exact ⟨aop_fr hfr h1, h2, h3⟩
  · rw [h2, h3]
    exact ⟨Fr.refl _ _, fun _ h => (by cases h), fun _ h => (by cases h)⟩
theorem Run.mono (hfr : CallFr call) (R : Run P xc call p ops l env H e2 H2 r w fs es Hs vs ft) {i : Nat} : ∀ {j : Nat}, i ≤ j → j ≤ l.length → (Hs i).next ≤ (Hs j).next
  | 0, h, _ => by have : i = 0 := (by omega); subst this; exact Nat.le_refl _
  | j + 1, h, hj => by
    by_cases hij : i = j + 1
    · subst hij; exact Nat.le_refl _
    · exact Nat.le_trans (R.mono hfr (by omega) (by omega)) (R.step_fr hfr (by omega)).1.1
theorem Run.keep (hfr : CallFr call) (R : Run P xc call p ops l env H e2 H2 r w fs es Hs vs ft) {i id : Nat} : ∀ {j : Nat}, i ≤ j → j ≤ l.length → id < (Hs i).next → (∀ k, i ≤ k → k < j → id ∉ (ft k).2) → (Hs j).get id = (Hs i).get id
  | 0, h, _, _, _ => by have : i = 0 := (by omega); subst this; rfl
  | j + 1, h, hj, hid, hk => by
    by_cases hij : i = j + 1
    · subst hij; rfl
    · have hm := R.mono hfr (i := i) (j := j) (by omega) (by omega)
      rw [(R.step_fr hfr (i := j) (by omega)).1.2 id (by omega) (hk j (by omega) (by omega))]
      exact R.keep hfr (by omega) (by omega) hid fun k h1 h2 => hk k h1 (by omega)
theorem Run.maker (Hs : Nat → AH) {id : Nat} : ∀ {j : Nat}, (Hs 0).next ≤ id → id < (Hs j).next → ∃ m, m < j ∧ (Hs m).next ≤ id ∧ id < (Hs (m + 1)).next
  | 0, h1, h2 => by omega
  | j + 1, h1, h2 => by
    by_cases h : id < (Hs j).next
    · obtain ⟨m, hm, h3⟩ := Run.maker Hs h1 h
      exact ⟨m, by omega, h3⟩
    · exact ⟨j, by omega, by omega, h2⟩
theorem lastw (Wr : Nat → Prop) : ∀ j : Nat, (∀ i, i < j → ¬ Wr i) ∨ ∃ i, i < j ∧ Wr i ∧ ∀ k, i < k → k < j → ¬ Wr k
  | 0 => .inl fun i h => by omega
  | j + 1 => by
    by_cases hj : Wr j
    · exact .inr ⟨j, by omega, hj, fun k h1 h2 => by omega⟩
    · rcases lastw Wr j with h | ⟨i, h1, h2, h3⟩
      · refine .inl fun i hi => ?_
        by_cases e : i = j
        · rw [e]; exact hj
        · exact h i (by omega)
      · refine .inr ⟨i, by omega, h2, fun k hk1 hk2 => ?_⟩
        by_cases e : k = j
        · rw [e]; exact hj
        · exact h3 k hk1 (by omega)
/-- Ancestors by binding edges. -/
inductive Anc (ops : Array Oper) : Nat → Nat → Prop
  | one {i j : Nat} {o : Oper} (h : ops[j]? = some o) {e : Edge} (he : e ∈ o.after) (hb : Region.binds .any e = true) (hi : e.on = i) : Anc ops i j
  | step {i k j : Nat} {o : Oper} (h : ops[j]? = some o) {e : Edge} (he : e ∈ o.after) (hb : Region.binds .any e = true) (hi : e.on = k) (h2 : Anc ops i k) : Anc ops i j
/-- What has come up is closed under ancestors. -/
theorem Anc.listed {L : Array Bool} (hcl : ∀ j o, ops[j]? = some o → L.getD j false = true → ∀ e ∈ o.after, Region.binds .any e = true → L.getD e.on false = true) {i j : Nat} (h : Anc ops i j) : L.getD j false = true → L.getD i false = true := by
  induction h with
  | one h he hb hi => intro hL; rw [← hi]; exact hcl _ _ h hL _ he hb
  | step h he hb hi _ ih => intro hL; exact ih (by rw [← hi]; exact hcl _ _ h hL _ he hb)
theorem Anc.ready {L : Array Bool} (hcl : ∀ j o, ops[j]? = some o → L.getD j false = true → ∀ e ∈ o.after, Region.binds .any e = true → L.getD e.on false = true) {i j : Nat} {o : Oper} (h : Anc ops i j) (hj : ops[j]? = some o)
    (hr : ∀ e ∈ o.after, Region.binds .any e = true → L.getD e.on false = true) : L.getD i false = true := by
  cases h with
  | one h he hb hi => rw [hj] at h; cases h; rw [← hi]; exact hr _ he hb
  | step h he hb hi h2 => rw [hj] at h; cases h; exact h2.listed hcl (by rw [← hi]; exact hr _ he hb)
structure StatOk (ops : Array Oper) : Prop where
  low : ∀ (i : Nat) (o : Oper), ops[i]? = some o → ∀ e ∈ o.after, Region.binds .any e = true → e.on < i
  one : ∀ (i j : Nat) (o q : Oper) (d : Nat), ops[i]? = some o → ops[j]? = some q → o.dst = some d → q.dst = some d → i = j
  look : ∀ (i j : Nat) (o q : Oper) (d : Nat), ops[i]? = some o → ops[j]? = some q → q.dst = some d → d ∈ o.looksAt ops → (∃ e ∈ o.after, Region.binds .any e = true ∧ e.on = j) ∨ ∃ e ∈ q.after, Region.binds .any e = true ∧ e.on = i
def FreeOk (ops : Array Oper) (fs : List Ent) : Prop := ∀ i j a b, i < j → fs[i]? = some a → fs[j]? = some b → clash a b = true → Anc ops i j
end
end Go.Proofs.Ytfgeffmlfbeodaa.Ev

/- EV, part X: drawn regions. No program here. -/
namespace Go.Proofs.Ytfgeffmlfbeodaa.Ev
open Go Go.RowKit
set_option linter.unusedVariables false
set_option linter.unusedSimpArgs false
def wrote (Hs : Nat → AH) (ft : Nat → List Nat × List Nat) (i id : Nat) : Prop := id ∈ (ft i).2 ∨ ((Hs i).next ≤ id ∧ id < (Hs (i + 1)).next)
def on (L : Array Bool) (i : Nat) : Prop := L.getD i false = true
def DL (D : Nat → Prop) (Hs : Nat → AH) (n : Nat) (L : Array Bool) : Nat → Prop := fun id => D id ∨ ∃ i, i < n ∧ on L i ∧ (Hs i).next ≤ id ∧ id < (Hs (i + 1)).next
structure Inv (p : Nat) (ops : Array Oper) (es : Nat → List Value) (Hs : Nat → AH) (vs : Nat → Value) (ft : Nat → List Nat × List Nat) (ρ : Rho) (D : Nat → Prop) (G : Nat → Option Blk) (W : World) (T : Nat → Prop) (a0 : Act) (L : Array Bool) (a : Act) (w : World) (ρ' : Rho) (G' : Nat → Option Blk) (env' : List Value) : Prop where
  cl : ∀ (j : Nat) (o : Oper), ops[j]? = some o → on L j → ∀ e ∈ o.after, Region.binds .any e = true → on L e.on
  ag : ∀ id, D id → ρ' id = ρ id
  env : VRs ρ' (DL D Hs ops.size L) env' a.tmps.toList
  len : env'.length = (es 0).length
  got : ∀ (i : Nat) (o : Oper) (d : Nat), ops[i]? = some o → on L i → o.dst = some d → d < (es 0).length → env'[d]? = some (vs i)
  base : ∀ t, (∀ (i : Nat) (o : Oper), ops[i]? = some o → on L i → o.dst ≠ some t) → env'[t]? = (es 0)[t]?
  hr : HR ρ' (DL D Hs ops.size L) G' w (DL T Hs ops.size L)
  g1 : ∀ id i, i < ops.size → on L i → wrote Hs ft i id → (∀ k, i < k → k < ops.size → on L k → ¬ wrote Hs ft k id) → G' id = (Hs (i + 1)).get id
  g0 : ∀ id, (∀ i, i < ops.size → on L i → ¬ wrote Hs ft i id) → G' id = G id
  below : Below 0 W w
  defers : a.defers = a0.defers
section
variable {P : Program} {xc : Nat} {call : CallF} {p : Nat} {ops : Array Oper} {env e2 : List Value} {H H2 : AH} {r w : List Nat} {fs : List Ent} {es : Nat → List Value} {Hs : Nat → AH} {vs : Nat → Value} {ft : Nat → List Nat × List Nat}
  {ρ ρ' : Rho} {D : Nat → Prop} {G G' : Nat → Option Blk} {W w1 : World} {T : Nat → Prop} {a0 a : Act} {L : Array Bool} {env' : List Value}
theorem memN_of {x : Nat} : ∀ {b : List Nat}, x ∈ b → memN x b = true
  | y :: b, h => by
    unfold memN
    rcases List.mem_cons.1 h with rfl | h
    · simp [Nat.beq_eq]
    · rw [memN_of h, Bool.or_true]
theorem meets_of {x : Nat} : ∀ {a b : List Nat}, x ∈ a → x ∈ b → meets a b = true
  | y :: a, b, h, hb => by
    unfold meets
    rcases List.mem_cons.1 h with rfl | h
    · rw [memN_of hb]; rfl
    · rw [meets_of h hb, Bool.or_true]
theorem among_of {lo hi x : Nat} (h1 : lo ≤ x) (h2 : x < hi) : ∀ {l : List Nat}, x ∈ l → among lo hi l = true
  | y :: l, h => by
    unfold among
    rcases List.mem_cons.1 h with rfl | h
    · rw [Nat.ble_eq_true_of_le h1, show Nat.blt x hi = true from Nat.ble_eq_true_of_le h2]; rfl
    · rw [among_of h1 h2 h, Bool.or_true]
/-- Who writes what another touches is an ancestor. -/
theorem Run.anc (hfr : CallFr call) (R : Run P xc call p ops ops.toList env H e2 H2 r w fs es Hs vs ft) (hf : FreeOk ops fs) {i j id : Nat} (hij : i < j) (hj : j < ops.size) (h : (wrote Hs ft i id ∧ (id ∈ (ft j).1 ∨ wrote Hs ft j id)) ∨ (id ∈ (ft i).1 ∧ wrote Hs ft j id)) : Anc ops i j := by
  have hlen : ops.toList.length = ops.size := by simp
  refine hf i j _ _ hij (R.fs i (by simp; omega)) (R.fs j (by simpa using hj)) ?_
  have m := R.mono hfr (i := i + 1) (j := j) (by omega) (by omega)
  obtain ⟨s1, s2, s3⟩ := R.step_fr hfr (i := i) (by omega)
  have s1 := s1.1
  unfold clash fent
  simp only [Bool.or_eq_true]
  rcases h with ⟨h1 | h1, h2 | h2 | h2⟩ | ⟨h1, h2 | h2⟩
  · exact .inr (.inl (meets_of h1 h2))
  · exact .inl (meets_of h1 h2)
  · have := s3 id h1; omega
  · exact .inr (.inr (.inr (.inl (among_of h1.1 h1.2 h2))))
  · exact .inr (.inr (.inr (.inr (among_of h1.1 h1.2 h2))))
  · omega
  · exact .inr (.inr (.inl (meets_of h2 h1)))
  · have := s2 id h1; omega
/-- What a ready operation touches stands as the text's order has it. -/
theorem Inv.touch (hfr : CallFr call) (R : Run P xc call p ops ops.toList env H e2 H2 r w fs es Hs vs ft) (hp : PreC p ρ D G W T H H2 r w) (hf : FreeOk ops fs) (I : Inv p ops es Hs vs ft ρ D G W T a0 L a w1 ρ' G' env')
    {j : Nat} {o : Oper} (ho : ops[j]? = some o) (hnot : ¬ on L j) (hr : ∀ e ∈ o.after, Region.binds .any e = true → on L e.on) {id : Nat} (ht : id ∈ (ft j).1 ∨ id ∈ (ft j).2) : DL T Hs ops.size L id ∧ G' id = (Hs j).get id := by
  have hj : j < ops.size := (Array.getElem?_eq_some_iff.1 ho).1
  have hlen : ops.toList.length = ops.size := by simp
  have ht' : id ∈ (ft j).1 ∨ wrote Hs ft j id := ht.imp (fun h => h) fun h => .inl h
  have hlt : id < (Hs j).next := ht.elim ((R.step_fr hfr (by omega)).2.1 id) ((R.step_fr hfr (by omega)).2.2 id)
  have before : ∀ i, i < j → wrote Hs ft i id → on L i := fun i hi hw => (R.anc hfr hf hi hj (.inl ⟨hw, ht'⟩)).ready I.cl ho hr
  have after : ∀ k, j < k → k < ops.size → on L k → ¬ wrote Hs ft k id := fun k hk hks hL hw => by
    have : Anc ops j k := R.anc hfr hf hk hks (ht.elim (fun h => .inr ⟨h, hw⟩) fun h => .inl ⟨.inl h, .inr hw⟩)
    exact hnot (this.listed I.cl hL)
  have old : id < (Hs 0).next → T id ∧ G id = H.get id := fun h0 => by
    rw [R.h0] at h0
    by_cases hlp : id < p
    · refine hp.tr id ?_
      rcases ht with h | h
      · exact .inl ((R.r id).2 ⟨j, by omega, h, hlp⟩)
      · exact .inr (.inl ((R.w id).2 ⟨j, by omega, h, hlp⟩))
    · exact hp.tr id (.inr (.inr ⟨by omega, h0⟩))
  have hT : DL T Hs ops.size L id := by
    by_cases h0 : id < (Hs 0).next
    · exact .inl (old h0).1
    · obtain ⟨m, hm, h1, h2⟩ := Run.maker Hs (by omega) hlt
      exact .inr ⟨m, by omega, before m hm (.inr ⟨h1, h2⟩), h1, h2⟩
  refine ⟨hT, ?_⟩
  rcases lastw (fun i => wrote Hs ft i id) j with h | ⟨i, hij, hw, hk⟩
  · have h0 : id < (Hs 0).next := by
      by_cases h0 : id < (Hs 0).next
      · exact h0
      · obtain ⟨m, hm, h1, h2⟩ := Run.maker Hs (by omega) hlt
        exact absurd (.inr ⟨h1, h2⟩) (h m hm)
    have e1 := I.g0 id fun k hks hL hw => by
      rcases Nat.lt_trichotomy k j with hk | hk | hk
      · exact h k hk hw
      · exact hnot (hk ▸ hL)
      · exact after k hk hks hL hw
    rw [e1, (old h0).2, ← R.h0]
    exact (R.keep hfr (Nat.zero_le j) (by omega) h0 fun k _ hk hm => h k hk (.inl hm)).symm
  · have e1 := I.g1 id i (by omega) (before i hij hw) hw fun k hik hks hL hwk => by
      rcases Nat.lt_trichotomy k j with hkj | hkj | hkj
      · exact hk k hik hkj hwk
      · exact hnot (hkj ▸ hL)
      · exact after k hkj hks hL hwk
    rw [e1]
    have hlt1 : id < (Hs (i + 1)).next := by
      rcases hw with hw | hw
      · have h1 := (R.step_fr hfr (i := i) (by omega)).2.2 id hw
        have h2 := (R.step_fr hfr (i := i) (by omega)).1.1
        omega
      · exact hw.2
    exact (R.keep hfr (i := i + 1) (by omega) (by omega) hlt1 fun k h1 h2 hm => hk k (by omega) h2 (.inl hm)).symm
theorem Run.es_len (R : Run P xc call p ops ops.toList env H e2 H2 r w fs es Hs vs ft) : ∀ j, j ≤ ops.size → (es j).length = (es 0).length
  | 0, _ => rfl
  | j + 1, hj => by
    have hlen : ops.toList.length = ops.size := by simp
    obtain ⟨h, _⟩ := R.row j _ (List.getElem?_eq_getElem (by omega))
    rw [h, ← R.es_len j (by omega)]
    cases (ops.toList[j]'(by omega)).dst <;> simp [aputs, lset_eq]
theorem Run.es_base (R : Run P xc call p ops ops.toList env H e2 H2 r w fs es Hs vs ft) {t : Nat} : ∀ j, j ≤ ops.size → (∀ (i : Nat) (o : Oper), i < j → ops[i]? = some o → o.dst ≠ some t) → (es j)[t]? = (es 0)[t]?
  | 0, _, _ => rfl
  | j + 1, hj, h => by
    have hlen : ops.toList.length = ops.size := by simp
    have hget : ops[j]? = some (ops[j]'(by omega)) := Array.getElem?_eq_getElem (by omega)
    obtain ⟨he, _⟩ := R.row j (ops[j]'(by omega)) (by simp)
    have hd := h j _ (by omega) hget
    rw [he, ← R.es_base j (by omega) fun i o hi => h i o (by omega)]
    cases hc : (ops[j]'(by omega)).dst with
    | none => rfl
    | some d => rw [aputs_some]; exact List.getElem?_set_ne (fun e => hd (by rw [hc, e]))
theorem Run.es_got (R : Run P xc call p ops ops.toList env H e2 H2 r w fs es Hs vs ft) (hs : StatOk ops) {i : Nat} {o : Oper} {d : Nat} (ho : ops[i]? = some o) (hd : o.dst = some d) (hlt : d < (es 0).length) : ∀ j, i < j → j ≤ ops.size → (es j)[d]? = some (vs i)
  | 0, h, _ => by omega
  | j + 1, h, hj => by
    have hget : ops[j]? = some (ops[j]'(by omega)) := Array.getElem?_eq_getElem (by omega)
    obtain ⟨he, _⟩ := R.row j (ops[j]'(by omega)) (by simp)
    rw [he]
    by_cases hij : i = j
    · subst hij
      rw [ho] at hget
      have : o = ops[i]'(by omega) := Option.some.inj hget
      rw [← this, hd, aputs_some]
      exact List.getElem?_set_self (by rw [R.es_len i (by omega)]; exact hlt)
    · rw [← R.es_got hs ho hd hlt j (by omega) (by omega)]
      cases hc : (ops[j]'(by omega)).dst with
      | none => rfl
      | some d' => rw [aputs_some]; exact List.getElem?_set_ne (fun e => hij (hs.one i j _ _ d ho hget hd (by rw [hc, e])))
/-- What a ready operation looks at is as in the text's order. -/
theorem Inv.look (R : Run P xc call p ops ops.toList env H e2 H2 r w fs es Hs vs ft) (hs : StatOk ops) (I : Inv p ops es Hs vs ft ρ D G W T a0 L a w1 ρ' G' env')
    {j : Nat} {o : Oper} (ho : ops[j]? = some o) (hnot : ¬ on L j) (hr : ∀ e ∈ o.after, Region.binds .any e = true → on L e.on) {t : Nat} (ht : t ∈ o.looksAt ops) : env'[t]? = (es j)[t]? := by
  have hj : j < ops.size := (Array.getElem?_eq_some_iff.1 ho).1
  by_cases hx : ∃ (i : Nat) (q : Oper), ops[i]? = some q ∧ q.dst = some t
  · obtain ⟨i, q, hq, hd⟩ := hx
    rcases hs.look j i o q t ho hq hd ht with ⟨e, he, hb, hon⟩ | ⟨e, he, hb, hon⟩
    · have hL : on L i := hon ▸ hr e he hb
      have hij : i < j := hon ▸ hs.low j o ho e he hb
      by_cases hlt : t < (es 0).length
      · rw [I.got i q t hq hL hd hlt, R.es_got hs hq hd hlt j hij (by omega)]
      · rw [List.getElem?_eq_none (by rw [I.len]; omega), List.getElem?_eq_none (by rw [R.es_len j (by omega)]; omega)]
    · have hij : j < i := hon ▸ hs.low i q hq e he hb
      rw [I.base t fun k q' hq' hL hd' => ?_, R.es_base j (by omega) fun k q' hk hq' hd' => ?_]
      · have := hs.one k i q' q t hq' hq hd' hd
        omega
      · have hk := hs.one k i q' q t hq' hq hd' hd
        subst hk
        exact hnot (hon ▸ I.cl k q hq hL e he hb)
  · rw [I.base t fun i q hq _ hd => hx ⟨i, q, hq, hd⟩, R.es_base j (by omega) fun i q _ hq hd => hx ⟨i, q, hq, hd⟩]
theorem on_set {L : Array Bool} {i j : Nat} (hj : j < L.size) : on (L.setIfInBounds j true) i ↔ on L i ∨ i = j := by
  unfold on
  by_cases h : i = j
  · subst h
    simp [hj]
  · rw [show (L.setIfInBounds j true).getD i false = L.getD i false from by
      simp only [Array.getD_eq_getD_getElem?]
      rw [Array.getElem?_setIfInBounds_ne (fun e => h e.symm)]]
    simp [h]
theorem DL_set {n j : Nat} (hj : j < n) (hs : L.size = n) : DL D Hs n (L.setIfInBounds j true) = Dn (DL D Hs n L) (Hs j) (Hs (j + 1)) := by
  funext id
  simp only [DL, Dn, eq_iff_iff]
  constructor
  · rintro (h | ⟨i, h1, h2, h3⟩)
    · exact .inl (.inl h)
    · rcases (on_set (by omega)).1 h2 with h | rfl
      · exact .inl (.inr ⟨i, h1, h, h3⟩)
      · exact .inr h3
  · rintro ((h | ⟨i, h1, h2, h3⟩) | h)
    · exact .inl h
    · exact .inr ⟨i, h1, (on_set (by omega)).2 (.inl h2), h3⟩
    · exact .inr ⟨j, hj, (on_set (by omega)).2 (.inr rfl), h⟩
theorem Inv.wanted (R : Run P xc call p ops ops.toList env H e2 H2 r w fs es Hs vs ft) (hs : StatOk ops) (I : Inv p ops es Hs vs ft ρ D G W T a0 L a w1 ρ' G' env')
    {j : Nat} {o : Oper} (ho : ops[j]? = some o) (hnot : ¬ on L j) (hr : ∀ e ∈ o.after, Region.binds .any e = true → on L e.on) : Region.wanted o (yielded ops a.tmps) = Region.wanted o (ayield ops (es j)) := by
  rw [wanted_eq I.env]
  unfold Region.wanted
  cases hg : o.guard with
  | none => rfl
  | some g =>
    obtain ⟨g, want⟩ := g
    have : ayield ops env' g = ayield ops (es j) g := by
      unfold ayield
      cases hd : (ops[g]?).bind (·.dst) with
      | none => rfl
      | some t =>
        have ht : t ∈ o.looksAt ops := by
          unfold Oper.looksAt
          rw [hg]
          exact List.mem_append_right _ (by simp [hd])
        simp only [Option.bind_some]
        rw [I.look R hs ho hnot hr ht]
    simp only [this]
theorem Inv.opers (R : Run P xc call p ops ops.toList env H e2 H2 r w fs es Hs vs ft) (hs : StatOk ops) (I : Inv p ops es Hs vs ft ρ D G W T a0 L a w1 ρ' G' env')
    {j : Nat} {o : Oper} (ho : ops[j]? = some o) (hnot : ¬ on L j) (hr : ∀ e ∈ o.after, Region.binds .any e = true → on L e.on) : ∀ x ∈ o.op.operands.toList, aeval (es j) x = aeval env' x := by
  intro x hx
  cases x with
  | tmp t =>
    have ht : t ∈ o.looksAt ops := List.mem_append_left _ (List.mem_filterMap.2 ⟨.tmp t, hx, rfl⟩)
    have := I.look R hs ho hnot hr ht
    simp only [aeval, lget_eq, List.getD_eq_getElem?_getD, this]
  | _ => rfl
end
end Go.Proofs.Ytfgeffmlfbeodaa.Ev

/- EV, part Y: one more operation of a drawn region. No program here. -/
namespace Go.Proofs.Ytfgeffmlfbeodaa.Ev
open Go Go.RowKit
set_option linter.unusedVariables false
set_option linter.unusedSimpArgs false
section
variable {P : Program} {xc : Nat} {call : CallF} {p : Nat} {ops : Array Oper} {env e2 : List Value} {H H2 : AH} {r w : List Nat} {fs : List Ent} {es : Nat → List Value} {Hs : Nat → AH} {vs : Nat → Value} {ft : Nat → List Nat × List Nat}
  {ρ ρ' : Rho} {D : Nat → Prop} {G G' : Nat → Option Blk} {W w1 : World} {T : Nat → Prop} {a0 a : Act} {L : Array Bool} {env' : List Value}
theorem Inv.pre (hfr : CallFr call) (R : Run P xc call p ops ops.toList env H e2 H2 r w fs es Hs vs ft) (hp : PreC p ρ D G W T H H2 r w) (hf : FreeOk ops fs) (I : Inv p ops es Hs vs ft ρ D G W T a0 L a w1 ρ' G' env')
    {j : Nat} {o : Oper} (ho : ops[j]? = some o) (hnot : ¬ on L j) (hr : ∀ e ∈ o.after, Region.binds .any e = true → on L e.on) : Pre ρ' (DL D Hs ops.size L) G' w1 (DL T Hs ops.size L) (Hs j) (Hs (j + 1)) (ft j).1 (ft j).2 := by
  have hj : j < ops.size := (Array.getElem?_eq_some_iff.1 ho).1
  have hlen : ops.toList.length = ops.size := by simp
  refine ⟨I.hr, fun id h => (I.touch hfr R hp hf ho hnot hr h).1, fun id h => (I.touch hfr R hp hf ho hnot hr h).2, fun id h1 h2 hd => ?_⟩
  rcases hd with hd | ⟨i, hi, hL, h3, h4⟩
  · have e1 := R.mono hfr (Nat.zero_le j) (by omega)
    have e2 := R.mono hfr (i := j + 1) (j := ops.size) (by omega) (by omega)
    have e3 := R.hn
    rw [hlen] at e3
    rw [R.h0] at e1
    rw [e3] at e2
    exact hp.fresh id (by omega) (by omega) hd
  · rcases Nat.lt_trichotomy i j with h | h | h
    · have := R.mono hfr (i := i + 1) (j := j) (by omega) (by omega); omega
    · exact hnot (h ▸ hL)
    · have := R.mono hfr (i := j + 1) (j := i) (by omega) (by omega); omega
end
end Go.Proofs.Ytfgeffmlfbeodaa.Ev

/- EV, part Z: one more operation of a drawn region, and the region. No program here. -/
namespace Go.Proofs.Ytfgeffmlfbeodaa.Ev
open Go Go.RowKit
set_option linter.unusedVariables false
set_option linter.unusedSimpArgs false
section
variable {P : Program} {xc : Nat} {call : CallF} {p : Nat} {ops : Array Oper} {env e2 : List Value} {H H2 : AH} {r w : List Nat} {fs : List Ent} {es : Nat → List Value} {Hs : Nat → AH} {vs : Nat → Value} {ft : Nat → List Nat × List Nat}
  {ρ ρ' : Rho} {D : Nat → Prop} {G G' : Nat → Option Blk} {W w1 : World} {T : Nat → Prop} {a0 a : Act} {L : Array Bool} {env' : List Value}
/-- The invariant where one more has come up. -/
theorem Inv.next (hfr : CallFr call) (R : Run P xc call p ops ops.toList env H e2 H2 r w fs es Hs vs ft) (hs : StatOk ops) (hf : FreeOk ops fs) (I : Inv p ops es Hs vs ft ρ D G W T a0 L a w1 ρ' G' env') (hL : L.size = ops.size)
    {j : Nat} {o : Oper} (ho : ops[j]? = some o) (hnot : ¬ on L j) (hr : ∀ e ∈ o.after, Region.binds .any e = true → on L e.on) {v' : Value} {w' : World} (hpost : Post ρ' (DL D Hs ops.size L) G' w1 (DL T Hs ops.size L) (Hs j) (Hs (j + 1)) (ft j).2 (vs j) v' w') :
    ∃ ρ'' G'' env'', Inv p ops es Hs vs ft ρ D G W T a0 (L.setIfInBounds j true) (a.put o.dst v') w' ρ'' G'' env'' := by
  have hj : j < ops.size := (Array.getElem?_eq_some_iff.1 ho).1
  obtain ⟨ρ'', hag, hv, hhr, hb⟩ := hpost
  have hLj : j < L.size := by omega
  have henv := (VRs.mono (ρ' := ρ'') (D' := Dn (DL D Hs ops.size L) (Hs j) (Hs (j + 1))) hag (fun _ h => .inl h) I.env).puts hv o.dst
  rw [← DL_set hj hL] at henv
  rw [← DL_set hj hL, ← DL_set hj hL] at hhr
  refine ⟨ρ'', Gn G' (Hs j) (Hs (j + 1)) (ft j).2, aputs env' o.dst (vs j), fun k q hq hk e he hbe => ?_, fun id hd => ?_, henv, ?_, fun i q d hq hi hd hlt => ?_, fun t ht => ?_, hhr, fun id i hi hon hw hk => ?_, fun id hw => ?_, I.below.trans hb, by rw [put_defers, I.defers]⟩
  · rw [on_set hLj] at hk ⊢
    rcases hk with hk | rfl
    · exact .inl (I.cl k q hq hk e he hbe)
    · rw [ho] at hq; cases hq; exact .inl (hr e he hbe)
  · rw [hag id (.inl hd), I.ag id hd]
  · cases o.dst <;> simp [aputs, lset_eq, I.len]
  · rcases (on_set hLj).1 hi with hi | rfl
    · have h1 := I.got i q d hq hi hd hlt
      cases hc : o.dst with
      | none => exact h1
      | some d' => rw [aputs_some]; exact (List.getElem?_set_ne (fun (e : d' = d) => hnot (hs.one i j q o d hq ho hd (by rw [hc, e]) ▸ hi))).trans h1
    · rw [ho] at hq; cases hq
      rw [hd, aputs_some]
      exact List.getElem?_set_self (by rw [I.len]; exact hlt)
  · have h1 := I.base t fun i q hq hi => ht i q hq ((on_set hLj).2 (.inl hi))
    have h2 := ht j o ho ((on_set hLj).2 (.inr rfl))
    cases hc : o.dst with
    | none => exact h1
    | some d' => rw [aputs_some]; exact (List.getElem?_set_ne (fun (e : d' = t) => h2 (by rw [hc, e]))).trans h1
  · have hGn : wrote Hs ft j id → Gn G' (Hs j) (Hs (j + 1)) (ft j).2 id = (Hs (j + 1)).get id := fun h => if_pos h
    rcases (on_set hLj).1 hon with hon | rfl
    · have hnj : ¬ wrote Hs ft j id := fun hwj => by
        rcases Nat.lt_trichotomy i j with h | h | h
        · exact hk j h hj ((on_set hLj).2 (.inr rfl)) hwj
        · exact hnot (h ▸ hon)
        · exact hnot ((R.anc hfr hf h hi (.inl ⟨hwj, .inr hw⟩)).listed I.cl hon)
      rw [show Gn G' (Hs j) (Hs (j + 1)) (ft j).2 id = G' id from if_neg hnj]
      exact I.g1 id i hi hon hw fun k h1 h2 h3 => hk k h1 h2 ((on_set hLj).2 (.inl h3))
    · exact hGn hw
  · rw [show Gn G' (Hs j) (Hs (j + 1)) (ft j).2 id = G' id from if_neg (hw j hj ((on_set hLj).2 (.inr rfl)))]
    exact I.g0 id fun i hi hon => hw i hi ((on_set hLj).2 (.inl hon))
theorem Inv.step (hcall : CallOk P call) (hfr : CallFr call) (hcmp : CmpOk P xc) (R : Run P xc call p ops ops.toList env H e2 H2 r w fs es Hs vs ft) (hp : PreC p ρ D G W T H H2 r w) (hs : StatOk ops) (hf : FreeOk ops fs) (I : Inv p ops es Hs vs ft ρ D G W T a0 L a w1 ρ' G' env') (hL : L.size = ops.size)
    {j : Nat} {o : Oper} (ho : ops[j]? = some o) (hnot : ¬ on L j) (hr : ∀ e ∈ o.after, Region.binds .any e = true → on L e.on) {Q : Exit → Act → World → Prop} :
    wpOp P ops Q j (fun a' w' => ∃ ρ'' G'' env'', Inv p ops es Hs vs ft ρ D G W T a0 (L.setIfInBounds j true) a' w' ρ'' G'' env'') a w1 := by
  have hj : j < ops.size := (Array.getElem?_eq_some_iff.1 ho).1
  have hpre := I.pre hfr R hp hf ho hnot hr
  obtain ⟨_, hrow⟩ := R.row j o (by simpa using ho)
  unfold wpOp
  rw [ho]
  simp only []
  rw [I.wanted R hs ho hnot hr]
  rcases hrow with ⟨hw, h1⟩ | ⟨hw, h1, h2, h3⟩
  · rw [if_pos hw]
    obtain ⟨h1, _, _⟩ := aopB_some h1
    rw [aop_congr (I.opers R hs ho hnot hr)] at h1
    exact .inl (aop_sound hcall hcmp h1 I.env hpre fun v' w' hpost => I.next hfr R hs hf hL ho hnot hr hpost)
  · rw [if_neg (by simp [hw])]
    refine I.next hfr R hs hf hL ho hnot hr ?_
    have := post_same (H := Hs j) (v := undef) (v' := undef) hpre.hr (.tuple .nil)
    rw [h1, h2, h3]
    exact this
theorem DL_none (n : Nat) (h : ∀ i, i < n → ¬ on L i) : DL D Hs n L = D := by
  funext id
  simp only [DL, eq_iff_iff]
  exact ⟨fun hh => hh.elim (fun h => h) fun ⟨i, hi, h2, _⟩ => absurd h2 (h i hi), .inl⟩
theorem DL_all (hfr : CallFr call) (R : Run P xc call p ops ops.toList env H e2 H2 r w fs es Hs vs ft) (h : ∀ i, i < ops.size → on L i) : DL D Hs ops.size L = Dn D H H2 := by
  have hlen : ops.toList.length = ops.size := by simp
  have e3 := R.hn
  rw [hlen] at e3
  funext id
  simp only [DL, Dn, eq_iff_iff]
  constructor
  · rintro (hh | ⟨i, hi, _, h1, h2⟩)
    · exact .inl hh
    · have m1 := R.mono hfr (Nat.zero_le i) (by omega)
      have m2 := R.mono hfr (i := i + 1) (j := ops.size) (by omega) (by omega)
      rw [R.h0] at m1
      rw [e3] at m2
      exact .inr (by omega)
  · rintro (hh | ⟨h1, h2⟩)
    · exact .inl hh
    · obtain ⟨m, hm, h3, h4⟩ := Run.maker Hs (id := id) (j := ops.size) (by rw [R.h0]; exact h1) (by rw [e3]; exact h2)
      exact .inr ⟨m, hm, h m hm, h3, h4⟩
/-- Where all has come up. -/
theorem Inv.all (hfr : CallFr call) (R : Run P xc call p ops ops.toList env H e2 H2 r w fs es Hs vs ft) (hp : PreC p ρ D G W T H H2 r w) (hs : StatOk ops) (I : Inv p ops es Hs vs ft ρ D G W T a0 L a w1 ρ' G' env') (h : ∀ i, i < ops.size → on L i) : PostC p ρ ρ' D G W T H H2 w e2 a.tmps.toList w1 := by
  have hlen : ops.toList.length = ops.size := by simp
  have e3 := R.hn
  have e4 := R.en
  rw [hlen] at e3 e4
  have he : env' = e2 := by
    apply List.ext_getElem?
    intro t
    rw [← e4]
    by_cases hx : ∃ (i : Nat) (q : Oper), ops[i]? = some q ∧ q.dst = some t
    · obtain ⟨i, q, hq, hd⟩ := hx
      have hi := (Array.getElem?_eq_some_iff.1 hq).1
      by_cases hlt : t < (es 0).length
      · rw [I.got i q t hq (h i hi) hd hlt, R.es_got hs hq hd hlt _ hi (Nat.le_refl _)]
      · rw [List.getElem?_eq_none (by rw [I.len]; omega), List.getElem?_eq_none (by rw [R.es_len _ (Nat.le_refl _)]; omega)]
    · rw [I.base t fun i q hq _ hd => hx ⟨i, q, hq, hd⟩, R.es_base _ (Nat.le_refl _) fun i q _ hq hd => hx ⟨i, q, hq, hd⟩]
  have henv := I.env
  have hhr := I.hr
  rw [DL_all hfr R h] at henv hhr
  rw [DL_all hfr R h] at hhr
  rw [he] at henv
  refine ⟨I.ag, henv, hhr.congrG fun id hT => ?_, I.below⟩
  have hle := hp.le
  have nmono : ∀ i, i ≤ ops.size → H.next ≤ (Hs i).next ∧ (Hs i).next ≤ H2.next := fun i hi => by
    have m1 := R.mono hfr (Nat.zero_le i) (by omega)
    have m2 := R.mono hfr (i := i) (j := ops.size) hi (by omega)
    rw [R.h0] at m1
    rw [e3] at m2
    exact ⟨m1, m2⟩
  unfold Gc
  rcases lastw (fun i => wrote Hs ft i id) ops.size with hn | ⟨i, hi, hw, hk⟩
  · rw [I.g0 id fun i hi _ => hn i hi]
    split
    · rename_i hc
      rcases hc with hc | hc
      · obtain ⟨i, hi, h1, _⟩ := (R.w id).1 hc
        exact absurd (.inl h1) (hn i (by omega))
      · have hlt : id < H.next := by
          by_cases hlt : id < H.next
          · exact hlt
          · obtain ⟨m, hm, h3, h4⟩ := Run.maker Hs (id := id) (j := ops.size) (by rw [R.h0]; omega) (by rw [e3]; exact hc.2)
            exact absurd (.inr ⟨h3, h4⟩) (hn m hm)
        rw [(hp.tr id (.inr (.inr ⟨hc.1, hlt⟩))).2, ← e3, ← R.h0]
        exact R.keep hfr (Nat.zero_le _) (by omega) (by rw [R.h0]; exact hlt) fun k _ hk hm => hn k hk (.inl hm)
    · rfl
  · rw [I.g1 id i hi (h i hi) hw fun k h1 h2 _ => hk k h1 h2]
    have m1 := nmono i (by omega)
    have m2 := nmono (i + 1) (by omega)
    have sf := R.step_fr hfr (i := i) (by omega)
    have hlt : id < (Hs (i + 1)).next := by
      rcases hw with hw | hw
      · have := sf.2.2 id hw; have := sf.1.1; omega
      · exact hw.2
    rw [if_pos]
    · rw [← e3]
      exact R.keep hfr (i := i + 1) (by omega) (by omega) hlt fun k h1 h2 hm => hk k (by omega) h2 (.inl hm)
    · by_cases hlp : id < p
      · rcases hw with hw | hw
        · exact .inl ((R.w id).2 ⟨i, by omega, hw, hlp⟩)
        · omega
      · exact .inr (by omega)
end
end Go.Proofs.Ytfgeffmlfbeodaa.Ev

/- EV, part W: regions that draw their order do what the text's order does. No program here. -/
namespace Go.Proofs.Ytfgeffmlfbeodaa.Ev
open Go Go.RowKit Go.Proofs.Ytfgeffmlfbeodaa.RG
set_option linter.unusedVariables false
set_option linter.unusedSimpArgs false
theorem hasBit_eq (m n : Nat) : hasBit m n = m.testBit n := by
  unfold hasBit Nat.testBit
  show Nat.beq ((m >>> n) &&& 1) 1 = (1 &&& (m >>> n) != 0)
  rw [Nat.and_comm, Nat.one_and_eq_mod_two]
  have h := Nat.mod_two_eq_zero_or_one (m >>> n)
  rcases h with h | h <;> rw [h] <;> rfl
theorem hasBit_lor (a b n : Nat) : hasBit (Nat.lor a b) n = (hasBit a n || hasBit b n) := by
  rw [hasBit_eq, hasBit_eq, hasBit_eq]
  exact Nat.testBit_or a b n
theorem hasBit_one (d n : Nat) : hasBit (Nat.shiftLeft 1 d) n = true ↔ n = d := by
  rw [hasBit_eq]
  show (1 <<< d).testBit n = true ↔ _
  rw [Nat.one_shiftLeft, Nat.testBit_two_pow]
  simp [eq_comm]
theorem hasBit_zero (n : Nat) : hasBit 0 n = false := by rw [hasBit_eq]; exact Nat.zero_testBit n
theorem lowB_ok : ∀ (l : List Oper) (k : Nat), lowB k l = true → ∀ (i : Nat) (o : Oper), l[i]? = some o → ∀ e ∈ o.after, Region.binds .any e = true → e.on < k + i
  | [], _, _, i, o, h, _, _, _ => by simp at h
  | q :: l, k, h, i, o, ho, e, he, hb => by
    simp only [lowB, Bool.and_eq_true, List.all_eq_true] at h
    cases i with
    | zero =>
      simp only [List.getElem?_cons_zero, Option.some.injEq] at ho
      subst ho
      have := h.1 e (by simpa using he)
      rw [hb] at this
      simpa [Nat.blt_eq] using this
    | succ i =>
      have := lowB_ok l (k + 1) h.2 i o (by simpa using ho) e he hb
      omega
theorem dstBits_ok : ∀ (l : List Oper) (m : Nat), dstBits l = some m → (∀ (i : Nat) (o : Oper) (d : Nat), l[i]? = some o → o.dst = some d → hasBit m d = true) ∧ ∀ (i j : Nat) (o q : Oper) (d : Nat), l[i]? = some o → l[j]? = some q → o.dst = some d → q.dst = some d → i = j
  | [], _, _ => ⟨fun i o d h => by simp at h, fun i j o q d h => by simp at h⟩
  | x :: l, m, h => by
    unfold dstBits at h
    split at h
    · rename_i m' hm'
      obtain ⟨h1, h2⟩ := dstBits_ok l m' hm'
      split at h
      · rename_i d0 hd0
        split at h
        · cases h
        · rename_i hn
          simp only [Option.some.injEq] at h
          subst h
          refine ⟨fun i o d ho hd => ?_, fun i j o q d ho hq hd hd' => ?_⟩
          · rw [hasBit_lor, Bool.or_eq_true]
            cases i with
            | zero => simp only [List.getElem?_cons_zero, Option.some.injEq] at ho; subst ho; rw [hd0] at hd; cases hd; exact .inl ((hasBit_one _ _).2 rfl)
            | succ i => exact .inr (h1 i o d (by simpa using ho) hd)
          · cases i with
            | zero =>
              cases j with
              | zero => rfl
              | succ j =>
                simp only [List.getElem?_cons_zero, Option.some.injEq] at ho; subst ho; rw [hd0] at hd; cases hd
                exact absurd (h1 j q _ (by simpa using hq) hd') hn
            | succ i =>
              cases j with
              | zero =>
                simp only [List.getElem?_cons_zero, Option.some.injEq] at hq; subst hq; rw [hd0] at hd'; cases hd'
                exact absurd (h1 i o _ (by simpa using ho) hd) hn
              | succ j => rw [h2 i j o q d (by simpa using ho) (by simpa using hq) hd hd']
      · rename_i hd0
        simp only [Option.some.injEq] at h
        subst h
        refine ⟨fun i o d ho hd => ?_, fun i j o q d ho hq hd hd' => ?_⟩
        · cases i with
          | zero => simp only [List.getElem?_cons_zero, Option.some.injEq] at ho; subst ho; rw [hd0] at hd; cases hd
          | succ i => exact h1 i o d (by simpa using ho) hd
        · cases i with
          | zero => simp only [List.getElem?_cons_zero, Option.some.injEq] at ho; subst ho; rw [hd0] at hd; cases hd
          | succ i =>
            cases j with
            | zero => simp only [List.getElem?_cons_zero, Option.some.injEq] at hq; subst hq; rw [hd0] at hd'; cases hd'
            | succ j => rw [h2 i j o q d (by simpa using ho) (by simpa using hq) hd hd']
    · cases h
theorem hasDst_ok {d : Nat} {q : Oper} (h : hasDst d q = true) : q.dst = some d := by
  unfold hasDst at h
  split at h
  · rename_i d' hd'
    rw [hd', Nat.eq_of_beq_eq_true h]
  · cases h
theorem lookB_ok {ops : Array Oper} {m : Nat} : ∀ (l : List Oper) (k : Nat), lookB ops m k l = true → ∀ (i : Nat) (o : Oper), l[i]? = some o → ∀ d ∈ o.looksAt ops, hasBit m d = true →
    (∃ e ∈ o.after, Region.binds .any e = true ∧ ∃ q, ops[e.on]? = some q ∧ q.dst = some d) ∨ ∃ (j : Nat) (q : Oper), ops[j]? = some q ∧ q.dst = some d ∧ ∃ e ∈ q.after, Region.binds .any e = true ∧ e.on = k + i
  | [], _, _, i, o, h => by simp at h
  | x :: l, k, h, i, o, ho => by
    simp only [lookB, Bool.and_eq_true, List.all_eq_true] at h
    cases i with
    | zero =>
      simp only [List.getElem?_cons_zero, Option.some.injEq] at ho
      subst ho
      intro d hd hb
      have := h.1 d hd
      rw [hb] at this
      simp only [Bool.not_true, Bool.false_or, List.any_eq_true, Bool.and_eq_true, Bool.or_eq_true] at this
      rcases this with ⟨e, he, h1, h2⟩ | ⟨q, hq, h1, e, he, h2, h3⟩
      · refine .inl ⟨e, by simpa using he, h1, ?_⟩
        split at h2
        · rename_i q hq
          exact ⟨q, hq, hasDst_ok h2⟩
        · cases h2
      · obtain ⟨j, hj⟩ := List.mem_iff_getElem?.1 hq
        exact .inr ⟨j, q, by simpa using hj, hasDst_ok h1, e, by simpa using he, h2, Nat.eq_of_beq_eq_true h3⟩
    | succ i =>
      rw [show k + (i + 1) = k + 1 + i by omega]
      exact lookB_ok l (k + 1) h.2 i o (by simpa using ho)
theorem statOk_ok {ops : Array Oper} (h : statOk ops = true) : StatOk ops := by
  unfold statOk at h
  rw [Bool.and_eq_true] at h
  obtain ⟨h1, h2⟩ := h
  split at h2
  · rename_i m hm
    obtain ⟨b1, b2⟩ := dstBits_ok _ _ hm
    refine ⟨fun i o ho e he hb => ?_, fun i j o q d ho hq => b2 i j o q d (by simpa using ho) (by simpa using hq), fun i j o q d ho hq hd hl => ?_⟩
    · have := lowB_ok _ _ h1 i o (by simpa using ho) e he hb
      omega
    · rcases lookB_ok _ _ h2 i o (by simpa using ho) d hl (b1 j q d (by simpa using hq) hd) with ⟨e, he, hb, q', hq', hd'⟩ | ⟨j', q', hq', hd', e, he, hb, hi⟩
      · exact .inl ⟨e, he, hb, b2 e.on j q' q d (by simpa using hq') (by simpa using hq) hd' hd⟩
      · have hj := b2 j' j q' q d (by simpa using hq') (by simpa using hq) hd' hd
        subst hj
        rw [hq] at hq'
        cases hq'
        exact .inr ⟨e, he, hb, by omega⟩
  · cases h2
theorem ancBits_ok {ops : Array Oper} {acc : List Nat} {j : Nat} {o : Oper} (ho : ops[j]? = some o) (hacc : ∀ k i, hasBit (acc.getD k 0) i = true → Anc ops i k) {i : Nat} : ∀ (l : List Edge), (∀ e ∈ l, e ∈ o.after) → hasBit (ancBits acc l) i = true → Anc ops i j
  | [], _, h => by rw [ancBits, hasBit_zero] at h; cases h
  | e :: l, hl, h => by
    unfold ancBits at h
    split at h
    · rename_i hb
      rw [hasBit_lor, hasBit_lor, Bool.or_eq_true, Bool.or_eq_true, hasBit_one] at h
      rcases h with h | h | h
      · exact .one ho (hl e (by simp)) hb h.symm
      · exact .step ho (hl e (by simp)) hb rfl (hacc _ _ h)
      · exact ancBits_ok ho hacc l (fun e he => hl e (by simp [he])) h
    · exact ancBits_ok ho hacc l (fun e he => hl e (by simp [he])) h
theorem preds_ok {ops : Array Oper} : ∀ (l : List Oper) (acc : List Nat), (∀ i, l[i]? = ops[acc.length + i]?) → (∀ k i, hasBit (acc.getD k 0) i = true → Anc ops i k) → ∀ k i, hasBit ((preds l acc).getD k 0) i = true → Anc ops i k
  | [], acc, _, h => h
  | o :: l, acc, hl, h => by
    unfold preds
    refine preds_ok l _ (fun i => ?_) fun k i hk => ?_
    · have := hl (i + 1)
      rw [List.getElem?_cons_succ] at this
      rw [this, List.length_append, List.length_singleton]
      congr 1
      omega
    · rw [List.getD_eq_getElem?_getD] at hk
      by_cases h1 : k < acc.length
      · rw [List.getElem?_append_left h1, ← List.getD_eq_getElem?_getD] at hk
        exact h k i hk
      · rw [List.getElem?_append_right (by omega)] at hk
        by_cases h2 : k = acc.length
        · subst h2
          simp only [Nat.sub_self, List.getElem?_cons_zero, Option.getD_some] at hk
          have ho := hl 0
          rw [List.getElem?_cons_zero, Nat.add_zero] at ho
          exact ancBits_ok ho.symm h _ (fun e he => by simpa using he) hk
        · rw [List.getElem?_eq_none (by simp; omega), Option.getD_none, hasBit_zero] at hk
          cases hk
theorem untouching_no {a b : Ent} (h : untouching b = true) : clash a b = false := by
  unfold untouching at h
  split at h
  · rename_i lo hi
    have hm : ∀ l : List Nat, meets l [] = false := fun l => by induction l with
      | nil => rfl
      | cons x l ih => simp [meets, memN, ih]
    have hm2 : ∀ l : List Nat, meets [] l = false := fun l => rfl
    simp [clash, hm, hm2, among]
  · cases h
theorem silentB_no {a b : Ent} (h : silentB a = true) : clash a b = false := by
  unfold silentB at h
  split at h
  · rename_i lo hi
    have e := Nat.eq_of_beq_eq_true h
    subst e
    have hm : ∀ l : List Nat, meets l [] = false := fun l => by induction l with
      | nil => rfl
      | cons x l ih => simp [meets, memN, ih]
    have hm2 : ∀ l : List Nat, meets [] l = false := fun l => rfl
    have ha : ∀ l : List Nat, among lo lo l = false := fun l => by induction l with
      | nil => rfl
      | cons x l ih =>
        unfold among
        rw [ih, Bool.or_false]
        by_cases hx : Nat.ble lo x = true
        · have := Nat.le_of_ble_eq_true hx
          rw [show Nat.blt x lo = false from by
            cases hb : Nat.blt x lo with
            | false => rfl
            | true => have := Nat.le_of_ble_eq_true (show Nat.ble (x + 1) lo = true from hb); omega]
          exact Bool.and_false _
        · rw [Bool.eq_false_iff.2 hx]; rfl
    simp [clash, hm, hm2, ha]
  · cases h
theorem freeV_ok {ps : List Nat} {k : Nat} {a : Ent} : ∀ (l : List Ent) (m : Nat), freeV ps k a m l = true → ∀ j b, l[j]? = some b → clash a b = true → hasBit (ps.getD (m + j) 0) k = true
  | [], _, _, j, b, h, _ => by simp at h
  | x :: l, m, h, j, b, hb, hc => by
    simp only [freeV, Bool.and_eq_true, Bool.or_eq_true] at h
    cases j with
    | zero =>
      simp only [List.getElem?_cons_zero, Option.some.injEq] at hb
      subst hb
      rcases h.1 with h1 | h1 | h1
      · rw [untouching_no h1] at hc; cases hc
      · rw [hc] at h1; cases h1
      · exact h1
    | succ j =>
      have := freeV_ok l (m + 1) h.2 j b (by simpa using hb) hc
      rw [show m + (j + 1) = m + 1 + j by omega]
      exact this
theorem freeL_ok {ps : List Nat} : ∀ (l : List Ent) (k : Nat), freeL ps k l = true → ∀ i j a b, i < j → l[i]? = some a → l[j]? = some b → clash a b = true → hasBit (ps.getD (k + j) 0) (k + i) = true
  | [], _, _, i, j, a, b, _, h, _, _ => by simp at h
  | x :: l, k, h, i, j, a, b, hij, ha, hb, hc => by
    simp only [freeL, Bool.and_eq_true, Bool.or_eq_true] at h
    obtain ⟨j, rfl⟩ : ∃ j', j = j' + 1 := ⟨j - 1, by omega⟩
    rw [List.getElem?_cons_succ] at hb
    cases i with
    | zero =>
      simp only [List.getElem?_cons_zero, Option.some.injEq] at ha
      subst ha
      rcases h.1 with h1 | h1
      · rw [silentB_no h1] at hc; cases hc
      · have := freeV_ok l (k + 1) h1 j b hb hc
        rw [show k + (j + 1) = k + 1 + j by omega]
        exact this
    | succ i =>
      have := freeL_ok l (k + 1) h.2 i j a b (by omega) (by simpa using ha) hb hc
      rw [show k + (j + 1) = k + 1 + j by omega, show k + (i + 1) = k + 1 + i by omega]
      exact this
theorem freeOk_ok {ops : Array Oper} {fs : List Ent} (h : freeOk ops fs = true) : StatOk ops ∧ FreeOk ops fs := by
  unfold freeOk at h
  rw [Bool.and_eq_true] at h
  refine ⟨statOk_ok h.1, fun i j a b hij ha hb hc => ?_⟩
  have := freeL_ok fs 0 h.2 i j a b hij ha hb hc
  rw [Nat.zero_add, Nat.zero_add] at this
  exact preds_ok ops.toList [] (fun i => by simp) (fun k i hk => by simp [hasBit_zero] at hk) j i this
theorem drawn_ok {P : Program} {xc : Nat} (hm : P.follows .mixedOrders = true) (hcmp : CmpOk P xc) : DrawnOk P xc := by
  intro call p id ops env H e2 H2 r w fs hcall hfr h hfree ρ D G W T a Q he hp hQ
  obtain ⟨hs, hf⟩ := freeOk_ok hfree
  obtain ⟨es, Hs, vs, ft, R⟩ := aopsD_run _ _ _ h
  have hrep : ∀ i, ¬ on (Array.replicate ops.size false) i := fun i hi => by
    unfold on at hi
    by_cases hlt : i < ops.size
    · simp [hlt] at hi
    · simp [hlt] at hi
  have hu : ∀ k, k ≤ ops.size → unl (Array.replicate ops.size false) k = k := by
    intro k
    induction k with
    | zero => intro _; rfl
    | succ k ih => intro hk; rw [unl, ih (by omega)]; simp [show k < ops.size by omega]
  have hon : ∀ (L : Array Bool) (i : Nat), L.size = ops.size → i < ops.size → (L.getD i true = true ↔ on L i) := fun L i hL hi => by
    unfold on
    have : i < L.size := by omega
    simp [this]
  refine wp_region_any hm (any_of_inv (I := fun L a' w' => ∃ ρ' G' env', Inv p ops es Hs vs ft ρ D G W T a L a' w' ρ' G' env') hs.low ?_ ?_ ops.size _ a _ (by simp) (hu _ (Nat.le_refl _)) ?_)
  · rintro L a' w' i o hL ⟨ρ', G', env', I⟩ ho hb hr
    have hi := (Array.getElem?_eq_some_iff.1 ho).1
    exact I.step hcall hfr hcmp R hp hs hf hL ho (fun hn => by rw [(hon L i hL hi).2 hn] at hb; cases hb) hr
  · rintro L a' w' hL hall ⟨ρ', G', env', I⟩
    exact hQ ρ' a' w' I.defers (I.all hfr R hp hs fun i hi => (hon L i hL hi).1 (hall i hi))
  · refine ⟨ρ, G, env, fun j o _ hj => absurd hj (hrep j), fun _ _ => rfl, ?_, by rw [R.e0], fun i o d _ hi => absurd hi (hrep i), fun t _ => by rw [R.e0], ?_, fun id i _ hi => absurd hi (hrep i), fun _ _ => rfl, ?_, rfl⟩
    · rw [DL_none _ fun i _ => hrep i]; exact he
    · rw [DL_none _ fun i _ => hrep i, DL_none _ fun i _ => hrep i]; exact hp.hr.heap rfl
    · exact ⟨rfl, rfl, rfl, Nat.le_refl _, fun k hk => by omega⟩
/-- The top, with nothing left open but what the program says. -/
theorem closed_ok {P : Program} {xc d : Nat} {f : FuncId} (hm : P.follows .mixedOrders = true) (hcmp : CmpOk P xc) (h : isTrue (acall P xc d f [] AH.empty) = true) (w : World) :
    Calls P f #[] w fun e w' => e = .returned (.bool true) ∧ Below w.heap.size w w' := closed_true hcmp (drawn_ok hm hcmp) h w
end Go.Proofs.Ytfgeffmlfbeodaa.Ev

