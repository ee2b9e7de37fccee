/- EV, part D: operations, one by one. No program here. -/
import Derived.Test.YtpjkbjpjhkcofaaEvC
import Derived.OrdersHeld
namespace Go.Proofs.Ytpjkbjpjhkcofaa.Ev
open Go Go.RowKit
set_option linter.unusedVariables false
set_option linter.unusedSimpArgs false
section
variable {P : Program} {ρ : Rho} {D : Nat → Prop} {G : Nat → Option Blk} {W W' : World} {T : Nat → Prop} {H H' : AH} {R Wr : List Nat} {env : List Value} {a : Act}
theorem below_setCells (b o : Nat) (vs : List Value) (W : World) : Below 0 W (W.setCells b o vs) := by
  have : ∀ (vs : List Value) (o : Nat) (w : World), (w.setCells b o vs).heap.size = w.heap.size ∧ (w.setCells b o vs).os = w.os ∧ (w.setCells b o vs).tape = w.tape ∧ (w.setCells b o vs).output = w.output := by
    intro vs
    induction vs with
    | nil => intro o w; exact ⟨rfl, rfl, rfl, rfl⟩
    | cons v r ih =>
      intro o w
      obtain ⟨h1, h2, h3, h4⟩ := ih (o + 1) (w.setCell ⟨b, o, none⟩ v)
      rw [World.setCells]
      exact ⟨by rw [h1]; simp, h2, h3, h4⟩
  obtain ⟨h1, h2, h3, h4⟩ := this vs o W
  exact ⟨h2, h3, h4, by omega, fun k hk => by omega⟩
theorem below0_alloc (W : World) (o : Obj) : Below 0 W (W.alloc o) := ⟨rfl, rfl, rfl, by simp, fun k hk => by omega⟩
theorem below0_trans {w1 w2 w3 : World} (h : Below 0 w1 w2) (k : Below 0 w2 w3) : Below 0 w1 w3 := ⟨k.os.trans h.os, k.tape.trans h.tape, k.output.trans h.output, Nat.le_trans h.size k.size, fun k hk => by omega⟩
theorem agen_sound [Th] {o : Oper} {v : Value} (h : agen P env o H = some (v, H', R, Wr)) (he : VRs ρ D env a.tmps.toList) (hp : Pre ρ D G W T H H' R Wr) : OpOk P o a ρ D G W T H H' Wr v := by
  unfold agen at h
  split at h
  · rename_i hcl
    rw [Bool.and_eq_true] at hcl
    split at h
    · rename_i w hs
      split at h
      · rename_i hw
        simp only [Option.some.injEq, Prod.mk.injEq] at h
        obtain ⟨rfl, rfl, rfl, rfl⟩ := h
        have hev : ∀ x ∈ o.op.operands, a.eval x = (aeval env x).getD undef := by
          intro x hx
          have h1 := List.all_eq_true.1 hcl.2 x (by simpa using hx)
          unfold cleanOp at h1
          cases hv : aeval env x with
          | none => simp [hv] at h1
          | some u =>
            simp only [hv] at h1
            rw [VR.clean_eq (aeval_sound he hv) h1]; rfl
        have hsel : ∀ cs b, o.op ≠ .select cs b := fun cs b e => by have := hcl.1; rw [e] at this; simp [notSel] at this
        have hex : execOp a.eval o = execOp (fun x => (aeval env x).getD undef) o := execOp_congr o hsel hev
        refine ⟨w, W, .inl ?_, post_same hp.hr (VR.of_clean hw)⟩
        rw [hex]
        exact run_semPure _ _ W hs
      · cases h
    · cases h
  · cases h
theorem move_sound [Th] {o : Oper} {x : Operand} (ho : o.op = .move x ∨ o.op = .assign x) {v : Value} (hx : aeval env x = some v) (he : VRs ρ D env a.tmps.toList) (hp : Pre ρ D G W T H H [] []) : OpOk P o a ρ D G W T H H [] v := by
  refine ⟨a.eval x, W, .inl ?_, post_same hp.hr (aeval_sound he hx)⟩
  rcases ho with ho | ho <;> (unfold execOp; simp [ho])
theorem pick_sound [Th] {o : Oper} {c x y : Operand} (ho : o.op = .pick c x y) {b : Bool} (hc : aeval env c = some (.bool b)) {v : Value} (hx : aeval env (if b then x else y) = some v) (he : VRs ρ D env a.tmps.toList) (hp : Pre ρ D G W T H H [] []) : OpOk P o a ρ D G W T H H [] v := by
  have h1 := VR.flat_eq (aeval_sound he hc) rfl
  refine ⟨a.eval (if b then x else y), W, .inl ?_, post_same hp.hr (aeval_sound he hx)⟩
  unfold execOp
  cases b <;> simp [ho, h1, asBool]
theorem extract_sound [Th] {o : Oper} {x : Operand} {i : Nat} (ho : o.op = .extract x i) {vs : Array Value} (hx : aeval env x = some (.tuple vs)) {v : Value} (hv : vs.toList[i]? = some v) (he : VRs ρ D env a.tmps.toList) (hp : Pre ρ D G W T H H [] []) : OpOk P o a ρ D G W T H H [] v := by
  have h1 := aeval_sound he hx
  cases vs with
  | mk l =>
  generalize hy : a.eval x = y at h1
  cases h1 with
  | flat hf => simp [Ev.flat] at hf
  | tuple hl =>
    obtain ⟨v', hv', hr⟩ := hl.get i v hv
    refine ⟨v', W, .inl ?_, post_same hp.hr hr⟩
    unfold execOp
    simp [ho, hy, Instr.extract, hv']
theorem ptr_form [Th] {x x' : Value} {n i : Nat} (h : VR ρ D x x') (hx : x = .pointer (some ⟨n, i, none⟩)) : x' = .pointer (some ⟨(ρ n).blk, (ρ n).off + i, none⟩) ∧ D n := by
  subst hx
  cases h with
  | flat hf => simp [Ev.flat] at hf
  | ptr hD => exact ⟨rfl, hD⟩
/-- A new block. -/
theorem post_alloc [Th] {l : List Value} {esz : Nat} (hp : Pre ρ D G W T H (H.new ⟨.cells l esz, true, none⟩) R []) {C : Array Value} {t : TypeId} {fr : Nat × Nat} (hle : l.length ≤ C.size) (hC : VRs ρ D l (C.toList.take l.length)) (hfr : fr.1 = fr.2 ∨ C.size ≤ fr.1) {v v' : Value}
    (hv : ∀ ρ' : Rho, ρ' H.next = ⟨W.heap.size, 0, C.size, esz⟩ → VR ρ' (fun id => D id ∨ id = H.next) v v') : Post ρ D G W T H (H.new ⟨.cells l esz, true, none⟩) [] v v' (W.alloc (.cells C t fr)) := by
  have hn : ¬ D H.next := hp.fresh _ (Nat.le_refl _) (Nat.lt_succ_self _)
  have hD : ∀ E : Nat → Prop, Dn E H (H.new ⟨.cells l esz, true, none⟩) = fun id => E id ∨ id = H.next := fun E => by
    funext id
    simp only [Dn, AH.new]
    exact propext ⟨fun h => h.imp_right (fun h => by omega), fun h => h.imp_right (fun h => by omega)⟩
  refine ⟨fun i => if i = H.next then ⟨W.heap.size, 0, C.size, esz⟩ else ρ i, fun id hid => if_neg (fun e : id = H.next => hn (by rw [← e]; exact hid)), by rw [hD]; exact hv _ (if_pos rfl), ?_, below0_alloc W _⟩
  rw [hD, hD]
  refine hp.hr.alloc hn (o := .cells C t fr) (b := ⟨.cells l esz, true, none⟩) (ob := .cells l esz) rfl ?_ (fun i hi => ?_) ?_
  · unfold Gn; rw [if_pos (.inr ⟨Nat.le_refl _, by simp [AH.new]⟩), AH.get_new, if_pos rfl]
  · unfold Gn
    rw [if_neg]
    rintro (h | ⟨h1, h2⟩)
    · simp at h
    · simp only [AH.new] at h2; omega
  · unfold BlkR
    simp only [if_true]
    have hb : (W.alloc (.cells C t fr)).heap[W.heap.size]? = some (.cells C t fr) := by
      show (W.heap.push _)[W.heap.size]? = _
      simp
    refine ⟨⟨trivial, fun _ => trivial⟩, ⟨C, t, fr, hb, by omega, hfr⟩, hle, fun i v0 hi => ?_⟩
    obtain ⟨u, hu, hr⟩ := hC.get i v0 hi
    have hil : i < l.length := (List.getElem?_eq_some_iff.1 hi).1
    rw [List.getElem?_take_of_lt hil] at hu
    refine ⟨u, ?_, hr.mono (fun k hk => if_neg (fun e : k = H.next => hn (by rw [← e]; exact hk))) (fun _ => .inl)⟩
    have hcell : ∀ j, (W.alloc (.cells C t fr)).cell? ⟨W.heap.size, j, none⟩ = C[j]? := fun j => by unfold World.cell?; simp only [hb]; rfl
    rw [hcell]
    simpa using hu
theorem run_zeroValue' {t : TypeId} {z : Value} (h : zeroOf P t = some z) (W : World) : (zeroValue t).run P W = .ok z W := by
  unfold zeroOf at h
  cases hq : P.info? t with
  | none => simp [hq] at h
  | some i => simp [hq] at h; simp [zeroValue, typeInfo, hq, h]
theorem run_newRow' (t : TypeId) (C : Array Value) (W : World) : (newRow t C).run P W = .ok ⟨W.heap.size, 0, none⟩ (W.alloc (.cells C t)) := rfl
theorem cells_one {v : Value} (h : v.oneCell' = true) : v.cells = #[v] := by
  cases v <;> simp_all [Value.oneCell', Value.cells]
theorem hole_cells [Th] (i : Nat) : VRs ρ D (Value.chan (some i)).cells.toList (Th.th i).cells.toList := by
  rw [cells_one (Th.one i)]
  exact .cons .hole .nil
theorem cells_VRs [Th] {v v' : Value} (h : VR ρ D v v') (ho : v.cells.toList.all (·.oneCell') = true) : VRs ρ D v.cells.toList v'.cells.toList := by
  cases h with
  | agg h => exact h
  | flat hf => cases v <;> first | exact .cons (.flat hf) .nil | simp [Ev.flat] at hf
  | ptr hD => exact .cons (.ptr hD) .nil
  | slice hD hl hc he => exact .cons (.slice hD hl hc he) .nil
  | empty hD => exact .cons (.empty hD) .nil
  | map hD => exact .cons (.map hD) .nil
  | hole => exact hole_cells _
  | tuple h => simp [Value.cells, Value.oneCell'] at ho
  | func h1 h2 => exact .cons (.func h1 h2) .nil
theorem alloc_sound [Th] {o : Oper} {t : TypeId} (ho : o.op = .alloc t) {z : Value} (hz : zeroOf P t = some z) (hc : clean z = true) (hp : Pre ρ D G W T H (H.new ⟨.cells z.cells.toList (eszOf P t z.cells.size), true, none⟩) [] []) :
    OpOk P o a ρ D G W T H (H.new ⟨.cells z.cells.toList (eszOf P t z.cells.size), true, none⟩) [] (.pointer (some ⟨H.next, 0, none⟩)) := by
  refine ⟨.pointer (some ⟨W.heap.size, 0, none⟩), W.alloc (.cells z.cells t), .inl ?_, post_alloc hp (by simp) ?_ (.inl rfl) (fun ρ' h => ?_)⟩
  · unfold execOp
    simp [ho, Instr.alloc, run_zeroValue' hz, newVar, run_newRow']
  · rw [List.take_of_length_le (by simp)]
    unfold clean at hc
    split at hc
    · exact VRs.flat fun x hx => List.all_eq_true.1 hc x hx
    · rename_i cs; exact .cons (.tuple (l := cs.toList) (l' := cs.toList) (VRs.flat fun x hx => List.all_eq_true.1 hc x hx)) .nil
    · rename_i h1 h2; cases z <;> first | exact .cons (.flat hc) .nil | exact absurd rfl (h1 _) | exact absurd rfl (h2 _)
  · have := VR.ptr (ρ := ρ') (D := fun id => D id ∨ id = H.next) (b := H.next) (i := 0) (.inr rfl)
    rw [h] at this
    exact this
theorem box_sound [Th] {o : Oper} {t : TypeId} {x : Operand} (ho : o.op = .box t x) {v : Value} (hx : aeval env x = some v) (hc : v.cells.toList.all (·.oneCell') = true) (he : VRs ρ D env a.tmps.toList) (hp : Pre ρ D G W T H (H.new ⟨.cells v.cells.toList (eszOf P t v.cells.size), true, none⟩) [] []) :
    OpOk P o a ρ D G W T H (H.new ⟨.cells v.cells.toList (eszOf P t v.cells.size), true, none⟩) [] (.pointer (some ⟨H.next, 0, none⟩)) := by
  have hr := aeval_sound he hx
  have hl := cells_VRs hr hc
  have hlen := hl.length
  refine ⟨.pointer (some ⟨W.heap.size, 0, none⟩), W.alloc (.cells (a.eval x).cells t), .inl ?_, post_alloc hp (by simp at hlen ⊢; omega) ?_ (.inl rfl) (fun ρ' h => ?_)⟩
  · unfold execOp
    simp [ho, Instr.box, newVar, run_newRow']
  · rw [List.take_of_length_le (by omega)]; exact hl
  · have := VR.ptr (ρ := ρ') (D := fun id => D id ∨ id = H.next) (b := H.next) (i := 0) (.inr rfl)
    rw [h] at this
    exact this
theorem load_op_sound [Th] {o : Oper} {t : TypeId} {x : Operand} (ho : o.op = .load t x) {xv v : Value} (hx : aeval env x = some xv) (h : aload P H t xv = some (v, H', R, Wr)) (he : VRs ρ D env a.tmps.toList) (hp : Pre ρ D G W T H H' R Wr) : OpOk P o a ρ D G W T H H' Wr v := by
  obtain ⟨rfl, rfl, v', hr, hrun, _⟩ := load_sound h hp (aeval_sound he hx)
  refine ⟨v', W, .inl ?_, post_same hp.hr hr⟩
  unfold execOp
  simp [ho, hrun]
theorem nilCheck_sound [Th] {o : Oper} {x : Operand} (ho : o.op = .nilCheck x) {v : Value} (hx : aeval env x = some v) (hv : (∃ ad, v = .pointer (some ad)) ∨ ∃ f p q, v = .func (.func f) p q) (he : VRs ρ D env a.tmps.toList) (hp : Pre ρ D G W T H H [] []) : OpOk P o a ρ D G W T H H [] v := by
  have hr := aeval_sound he hx
  refine ⟨a.eval x, W, .inl ?_, post_same hp.hr hr⟩
  unfold execOp
  generalize hy : a.eval x = y at hr
  rcases hv with ⟨ad, rfl⟩ | ⟨f, p, q, rfl⟩
  · cases hr with
    | flat hf => simp [Ev.flat] at hf
    | ptr hD => simp [ho, hy]
  · cases hr with
    | flat hf => simp [Ev.flat] at hf
    | func h1 h2 => simp [ho, hy]
theorem makeFunc_sound [Th] {o : Oper} {f : FuncId} {first captured : Array Operand} (ho : o.op = .makeFunc (.func f) first captured) {p q : List Value} (hf : first.toList.mapM (aeval env) = some p) (hc : captured.toList.mapM (aeval env) = some q) (he : VRs ρ D env a.tmps.toList) (hp : Pre ρ D G W T H H [] []) :
    OpOk P o a ρ D G W T H H [] (.func (.func f) ⟨p⟩ ⟨q⟩) := by
  refine ⟨.func (.func f) ⟨first.toList.map a.eval⟩ ⟨captured.toList.map a.eval⟩, W, .inl ?_, post_same hp.hr (.func (mapM_sound he hf) (mapM_sound he hc))⟩
  unfold execOp
  have e : ∀ xs : Array Operand, xs.map a.eval = ⟨xs.toList.map a.eval⟩ := fun xs => by cases xs; simp
  simp [ho, Instr.makeFunc, e]
theorem underlying_of {t : TypeId} {d : TypeDesc} (h : P.underlying t = some d) (W : World) : (underlying t).run P W = .ok d W := run_underlying h W
theorem fieldAddr_sound [Th] {o : Oper} {s : TypeId} {x : Operand} {f : Nat} (ho : o.op = .fieldAddr s x f) {fs : Array Field} {fd : Field} {sz n i : Nat} (hu : P.underlying s = some (.struct fs)) (hfd : fs[f]? = some fd) (hsz : szOf P fd.type = some sz) (hx : aeval env x = some (.pointer (some ⟨n, i, none⟩))) (h0 : sz ≠ 0) (he : VRs ρ D env a.tmps.toList) (hp : Pre ρ D G W T H H [] []) :
    OpOk P o a ρ D G W T H H [] (.pointer (some ⟨n, i + fd.offset, none⟩)) := by
  obtain ⟨hy, hD⟩ := ptr_form (aeval_sound he hx) rfl
  refine ⟨.pointer (some ⟨(ρ n).blk, (ρ n).off + (i + fd.offset), none⟩), W, .inl ?_, post_same hp.hr (.ptr hD)⟩
  unfold execOp
  have hadd := Addr.add_mid (ρ n).blk ((ρ n).off + i) fd.offset
  rw [Nat.add_assoc] at hadd
  simp [ho, hy, Instr.fieldAt, underlying_of hu, hfd, Instr.sureAddr, fieldPlace, run_sizeOf' hsz, h0, hadd]
theorem asNat_int {v : Value} {i : Nat} (h : asNat v = some i) : ∃ k, v = .int k (i : Int) := by
  unfold asNat at h
  split at h
  · rename_i k n
    split at h
    · rename_i h0
      simp only [Option.some.injEq] at h
      exact ⟨k, by rw [← h]; congr 1; omega⟩
    · cases h
  · cases h
theorem indexAddr_slice_sound [Th] {o : Oper} {t : TypeId} {x ix : Operand} (ho : o.op = .indexAddr t x ix) {e : TypeId} {iv : Value} {i n j len cap sz : Nat} (hu : P.underlying t = some (.slice e)) (hix : aeval env ix = some iv) (hi : asNat iv = some i) (hx : aeval env x = some (.slice (some ⟨n, j, none⟩) len cap)) (hsz : szOf P e = some sz) (hlt : i < len) (he : VRs ρ D env a.tmps.toList) (hp : Pre ρ D G W T H H [] []) :
    OpOk P o a ρ D G W T H H [] (.pointer (some ⟨n, j + i * sz, none⟩)) := by
  obtain ⟨k, rfl⟩ := asNat_int hi
  have hiv := VR.flat_eq (aeval_sound he hix) rfl
  have hr := aeval_sound he hx
  generalize hy : a.eval x = y at hr
  cases hr with
  | flat hf => simp [Ev.flat] at hf
  | empty hD => omega
  | slice hD hl hc hext =>
    refine ⟨.pointer (some ⟨(ρ n).blk, (ρ n).off + (j + i * sz), none⟩), W, .inl ?_, post_same hp.hr (.ptr hD)⟩
    unfold execOp
    have hadd := Addr.add_mid (ρ n).blk ((ρ n).off + j) (i * sz)
    rw [Nat.add_assoc] at hadd
    have h0 : (0 : Int) ≤ (i : Int) ∧ (i : Int) < (len : Int) := by omega
    simp [ho, hy, hiv, Instr.indexAt, asIntOf, underlying_of hu, h0, hadd, run_sizeOf' hsz]
    intro h; omega
end
end Go.Proofs.Ytpjkbjpjhkcofaa.Ev
