/- EV, part C: what the evaluator says of one operation is so. No program here. -/
import Derived.Test.YtpjkbjpjhkcofaaEvB
import Derived.Laws.BytesString
import Derived.Laws.Externs
import Derived.Laws.Cells
namespace Go.Proofs.Ytpjkbjpjhkcofaa.Ev
open Go Go.RowKit
set_option linter.unusedVariables false
set_option linter.unusedSimpArgs false
def Dn (D : Nat → Prop) (H H' : AH) : Nat → Prop := fun id => D id ∨ (H.next ≤ id ∧ id < H'.next)
noncomputable def Gn (G : Nat → Option Blk) (H H' : AH) (Wr : List Nat) : Nat → Option Blk := fun id => if id ∈ Wr ∨ (H.next ≤ id ∧ id < H'.next) then H'.get id else G id
/-- What is asked ahead of a step. -/
structure Pre [Th] (ρ : Rho) (D : Nat → Prop) (G : Nat → Option Blk) (W : World) (T : Nat → Prop) (H H' : AH) (R Wr : List Nat) : Prop where
  hr : HR ρ D G W T
  tr : ∀ id, id ∈ R ∨ id ∈ Wr → T id
  g : ∀ id, id ∈ R ∨ id ∈ Wr → G id = H.get id
  fresh : ∀ id, H.next ≤ id → id < H'.next → ¬ D id
/-- What holds behind it. -/
def Post [Th] (ρ : Rho) (D : Nat → Prop) (G : Nat → Option Blk) (W : World) (T : Nat → Prop) (H H' : AH) (Wr : List Nat) (v v' : Value) (W' : World) : Prop :=
  ∃ ρ', (∀ id, D id → ρ' id = ρ id) ∧ VR ρ' (Dn D H H') v v' ∧ HR ρ' (Dn D H H') (Gn G H H' Wr) W' (Dn T H H') ∧ Below 0 W W'
section
variable {P : Program} {ρ : Rho} {D : Nat → Prop} {G : Nat → Option Blk} {W W' : World} {T : Nat → Prop} {H H' : AH} {R Wr : List Nat} {env : List Value} {a : Act}
theorem Dn_same (D : Nat → Prop) (H : AH) : Dn D H H = D := by funext id; simp [Dn]; omega
theorem Gn_same (G : Nat → Option Blk) (H : AH) : Gn G H H [] = G := by funext id; unfold Gn; rw [if_neg (by simp)]
theorem post_heap [Th] (h : HR ρ D G W T) (hh : W'.heap = W.heap) (hb : Below 0 W W') {v v' : Value} (hv : VR ρ D v v') : Post ρ D G W T H H [] v v' W' :=
  ⟨ρ, fun _ _ => rfl, by rw [Dn_same]; exact hv, by rw [Dn_same, Dn_same, Gn_same]; exact h.heap hh, hb⟩
theorem post_same [Th] (h : HR ρ D G W T) {v v' : Value} (hv : VR ρ D v v') : Post ρ D G W T H H [] v v' W := post_heap h rfl (Below.refl _ _) hv
theorem VRs.getD [Th] : ∀ {l l' : List Value} (t : Nat), VRs ρ D l l' → VR ρ D (l.getD t undef) (l'.getD t undef)
  | _, _, _, .nil => by simp; exact .tuple .nil
  | _, _, 0, .cons h _ => by simpa using h
  | _, _, t + 1, .cons _ h => by simpa using VRs.getD t h
theorem VR.of_clean [Th] {v : Value} (h : clean v = true) : VR ρ D v v := by
  unfold clean at h
  split at h
  · rename_i cs; exact .agg (l := cs.toList) (VRs.flat fun x hx => List.all_eq_true.1 h x hx)
  · rename_i cs; exact .tuple (l := cs.toList) (VRs.flat fun x hx => List.all_eq_true.1 h x hx)
  · exact .flat h
theorem VRs.flat_eq [Th] : ∀ {l l' : List Value}, VRs ρ D l l' → (∀ v ∈ l, Ev.flat v = true) → l' = l
  | _, _, .nil, _ => rfl
  | _, _, .cons h t, hf => by rw [VR.flat_eq h (hf _ (by simp)), VRs.flat_eq t fun x hx => hf x (by simp [hx])]
theorem VR.clean_eq [Th] {v v' : Value} (h : VR ρ D v v') (hc : clean v = true) : v' = v := by
  cases h with
  | flat hf => rfl
  | ptr hb => simp [clean, Ev.flat] at hc
  | slice hb _ _ _ => simp [clean, Ev.flat] at hc
  | empty hb => simp [clean, Ev.flat] at hc
  | map hb => simp [clean, Ev.flat] at hc
  | hole => simp [clean, Ev.flat] at hc
  | agg h => rw [VRs.flat_eq h fun x hx => by simp [clean] at hc; exact hc x hx]
  | tuple h => rw [VRs.flat_eq h fun x hx => by simp [clean] at hc; exact hc x hx]
  | func h1 h2 => simp [clean, Ev.flat] at hc
theorem aeval_sound [Th] (he : VRs ρ D env a.tmps.toList) {x : Operand} {v : Value} (h : aeval env x = some v) : VR ρ D v (a.eval x) := by
  cases x with
  | tmp t =>
    simp only [aeval, lget_eq, Option.some.injEq] at h
    subst h
    have := VRs.getD t he
    simpa [Act.eval, Array.getD_eq_getD_getElem?, List.getD_eq_getElem?_getD] using this
  | const c =>
    simp only [aeval] at h
    split at h
    · rename_i hc
      simp only [Option.some.injEq] at h
      subst h
      exact VR.of_clean hc
    · cases h
  | global g => simp [aeval] at h
  | func f =>
    simp only [aeval, lget_eq, Option.some.injEq] at h
    subst h
    exact .func .nil .nil
theorem mapM_sound [Th] (he : VRs ρ D env a.tmps.toList) : ∀ {xs : List Operand} {vs : List Value}, xs.mapM (aeval env) = some vs → VRs ρ D vs (xs.map a.eval)
  | [], vs, h => by simp at h; subst h; exact .nil
  | x :: xs, vs, h => by
    simp only [List.mapM_cons, Option.bind_eq_bind, Option.bind_eq_some_iff, Option.pure_def, Option.some.injEq] at h
    obtain ⟨v, hv, vs', hvs, rfl⟩ := h
    exact .cons (aeval_sound he hv) (mapM_sound he hvs)
/-- The model's own steps, where nothing of the world is asked. -/
theorem run_semPure {α : Type} : ∀ (s : Sem α) (x : α) (W : World), semPure P s = some x → s.run P W = .ok x W
  | .pure y, x, W, h => by simp [semPure] at h; subst h; rfl
  | .program k, x, W, h => run_semPure (k P) x W h
  | .mark _ k, x, W, h => run_semPure k x W h
  | .load .., _, _, h => by simp [semPure] at h
  | .store .., _, _, h => by simp [semPure] at h
  | .new .., _, _, h => by simp [semPure] at h
  | .shape .., _, _, h => by simp [semPure] at h
  | .freeze .., _, _, h => by simp [semPure] at h
  | .frozen .., _, _, h => by simp [semPure] at h
  | .getObj .., _, _, h => by simp [semPure] at h
  | .setObj .., _, _, h => by simp [semPure] at h
  | .choose .., _, _, h => by simp [semPure] at h
  | .sys .., _, _, h => by simp [semPure] at h
  | .halt .., _, _, h => by simp [semPure] at h
/-- What an operation without a call comes to. -/
def Runs (P : Program) (o : Oper) (a : Act) (W : World) (v' : Value) (W' : World) : Prop :=
  (execOp a.eval o).run P W = .ok (.value v') W' ∨ ((execOp a.eval o).run P W = .ok .skip W' ∧ v' = undef)
theorem wp_of_runs {o : Oper} {v' : Value} {K : Act → World → Prop} {Q : Exit → Act → World → Prop} (h : Runs P o a W v' W') (hK : K (a.put o.dst v') W') : Oper.wp P o a W K Q := by
  unfold Oper.wp
  rcases h with h | ⟨h, rfl⟩ <;> (rw [h]; exact hK)
def OpOk [Th] (P : Program) (o : Oper) (a : Act) (ρ : Rho) (D : Nat → Prop) (G : Nat → Option Blk) (W : World) (T : Nat → Prop) (H H' : AH) (Wr : List Nat) (v : Value) : Prop :=
  ∃ v' W', Runs P o a W v' W' ∧ Post ρ D G W T H H' Wr v v' W'
/-- The cells that a name has. -/
theorem cells_some {n z : Nat} {l : List Value} {s : Option Nat} (h : H.cells n = some (l, z, s)) : H.get n = some ⟨.cells l z, true, s⟩ := by
  unfold AH.cells at h
  split at h
  · rename_i l' z' s' e; simp at h; obtain ⟨rfl, rfl, rfl⟩ := h; exact e
  · cases h
theorem Pre.cells [Th] (hp : Pre ρ D G W T H H' R Wr) {n z : Nat} {l : List Value} {s : Option Nat} (hn : n ∈ R ∨ n ∈ Wr) (h : H.cells n = some (l, z, s)) : BlkR ρ D n W (.cells l z) ∧ G n = some ⟨.cells l z, true, s⟩ ∧ T n ∧ D n := by
  have hT := hp.tr n hn
  have hG := (hp.g n hn).trans (cells_some h)
  exact ⟨hp.hr.blk n _ hT hG rfl, hG, hT, hp.hr.dom n hT⟩
theorem BlkR.range [Th] {n z : Nat} {l : List Value} (h : BlkR ρ D n W (.cells l z)) (i k : Nat) (hk : i + k ≤ l.length) :
    ∃ cs, VRs ρ D ((l.drop i).take k) cs ∧ cs.length = k ∧ W.rangeAt (ρ n).blk ((ρ n).off + i) cs := by
  obtain ⟨hz, hS, h2, h3⟩ := h
  refine ⟨(List.range k).map fun j => (W.cell? ⟨(ρ n).blk, (ρ n).off + i + j, none⟩).getD undef, VRs.of_get (by simp; omega) fun j v hj => ?_, by simp, fun j v hj => ?_⟩
  · have hjk : j < k := by
      have := (List.getElem?_eq_some_iff.1 hj).1
      simp at this; omega
    rw [List.getElem?_take_of_lt hjk, List.getElem?_drop] at hj
    obtain ⟨v', e, hr⟩ := h3 _ _ hj
    refine ⟨v', ?_, hr⟩
    rw [← Nat.add_assoc] at e
    simp [hjk, e]
  · have hjk : j < k := by
      have := (List.getElem?_eq_some_iff.1 hj).1
      simpa using this
    obtain ⟨v0, hv0⟩ : ∃ v0, l[i + j]? = some v0 := ⟨_, List.getElem?_eq_getElem (by omega)⟩
    obtain ⟨v', e, hr⟩ := h3 _ _ hv0
    rw [← Nat.add_assoc] at e
    simp [hjk, e] at hj
    rw [e, hj]
theorem szOf_some {t : TypeId} {n : Nat} (h : szOf P t = some n) : (P.info? t).map (·.size) = some n := h
theorem run_isAgg' {t : TypeId} {b : Bool} (h : isAggB P t = some b) (W : World) : (isAgg t).run P W = .ok b W := by
  unfold isAggB at h
  unfold isAgg
  split at h
  · rename_i fs e; rw [Sem.run_bind, run_underlying e W]; simp_all
  · rename_i n e' e; rw [Sem.run_bind, run_underlying e W]; simp_all
  · rename_i d h1 h2 e
    rw [Sem.run_bind, run_underlying e W]
    simp only [Option.some.injEq] at h
    subst h
    cases d <;> simp_all
  · cases h
theorem run_sizeOf' {t : TypeId} {n : Nat} (h : szOf P t = some n) (W : World) : (sizeOf t).run P W = .ok n W := by
  unfold szOf at h
  cases hq : P.info? t with
  | none => simp [hq] at h
  | some i => simp [hq] at h; simp [sizeOf, typeInfo, hq, h]
/-- A load. -/
theorem load_sound [Th] {t : TypeId} {x : Value} {v : Value} (h : aload P H t x = some (v, H', R, Wr)) (hp : Pre ρ D G W T H H' R Wr) {x' : Value} (hx : VR ρ D x x') :
    H' = H ∧ Wr = [] ∧ ∃ v', VR ρ D v v' ∧ (Instr.loadAt t x').run P W = .ok v' W ∧ ∃ b i, x' = .pointer (some ⟨b, i, none⟩) ∧ (loadVar t ⟨b, i, none⟩).run P W = .ok v' W := by
  unfold aload at h
  split at h
  · rename_i n i
    simp only [Option.bind_eq_bind, Option.bind_eq_some_iff] at h
    obtain ⟨⟨l, z, s⟩, hl, sz, hsz, b, hb, h⟩ := h
    cases hx with
    | flat hf => simp [Ev.flat] at hf
    | ptr hD =>
      cases b with
      | true =>
        simp only [if_true] at h
        split at h
        · rename_i hle
          simp only [Option.some.injEq, Prod.mk.injEq] at h
          obtain ⟨rfl, rfl, rfl, rfl⟩ := h
          obtain ⟨hB, _⟩ := hp.cells (.inl (by simp)) hl
          obtain ⟨cs, hcs, hlen, hrng⟩ := hB.range i sz hle
          have hagg := hb
          have : ∃ d, P.underlying t = some d ∧ d.isRow = true := by
            unfold isAggB at hb
            split at hb
            · rename_i fs e; exact ⟨_, e, rfl⟩
            · rename_i n e' e; exact ⟨_, e, rfl⟩
            · cases hb
            · cases hb
          obtain ⟨d, hu, hd⟩ := this
          have hrun := run_loadVar_mid (P := P) W (ρ n).blk ((ρ n).off + i) t cs d hrng hu hd (by rw [hlen]; exact hsz)
          refine ⟨rfl, rfl, .agg ⟨cs⟩, .agg hcs, ?_, _, _, rfl, hrun⟩
          simp only [Instr.loadAt, Instr.sureAddr, Sem.run_bind, Sem.run_pure, Result.andThen_ok]
          exact hrun
        · cases h
      | false =>
        simp only [Bool.false_eq_true, if_false, Option.bind_eq_some_iff] at h
        obtain ⟨w, hw, h⟩ := h
        simp only [Option.some.injEq, Prod.mk.injEq] at h
        obtain ⟨rfl, rfl, rfl, rfl⟩ := h
        obtain ⟨hB, _⟩ := hp.cells (.inl (by simp)) hl
        obtain ⟨v', e, hr⟩ := hB.2.2.2 _ _ hw
        have hrun : (loadVar t ⟨(ρ n).blk, (ρ n).off + i, none⟩).run P W = .ok v' W := by
          unfold loadVar
          rw [Sem.run_bind, run_isAgg' hb]
          simp [e]
        refine ⟨rfl, rfl, v', hr, ?_, _, _, rfl, hrun⟩
        simp only [Instr.loadAt, Instr.sureAddr, Sem.run_bind, Sem.run_pure, Result.andThen_ok]
        exact hrun
  · cases h
end
end Go.Proofs.Ytpjkbjpjhkcofaa.Ev
