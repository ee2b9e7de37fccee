/- EV, part G: slices, conversions, comparisons with nil. No program here. -/
import Derived.Test.YtpjkbjpjhkcofaaEvF
namespace Go.Proofs.Ytpjkbjpjhkcofaa.Ev
open Go Go.RowKit
set_option linter.unusedVariables false
set_option linter.unusedSimpArgs false
section
variable {P : Program} {ρ : Rho} {D : Nat → Prop} {G : Nat → Option Blk} {W W' : World} {T : Nat → Prop} {H H' : AH} {R Wr : List Nat} {env : List Value} {a : Act}
theorem bound_sound [Th] {v v' : Value} {y y' i : Nat} {code : BoundsCode} (h : abound v y = some i) (hy : y ≤ y') (hv : VR ρ D v v') (W : World) : (Instr.sliceBound v' y' code).run P W = .ok i W ∧ i ≤ y := by
  unfold abound at h
  split at h
  · rename_i k n
    split at h
    · rename_i hc
      simp only [Option.some.injEq] at h
      rw [VR.flat_eq hv rfl]
      refine ⟨?_, by omega⟩
      have h1 : (0 : Int) ≤ n ∧ n ≤ (y' : Int) := by omega
      simp only [Instr.sliceBound, asIntOf, Sem.run_bind, Sem.run_pure, Result.andThen_ok, h1, and_self, if_true, h]
    · cases h
  · cases h
theorem optEval_sound [Th] (he : VRs ρ D env a.tmps.toList) {x : Option Operand} {v : Option Value} (h : optEval env x = some v) : (x = none ∧ v = none) ∨ ∃ y u, x = some y ∧ v = some u ∧ VR ρ D u (a.eval y) := by
  cases x with
  | none => simp [optEval] at h; exact .inl ⟨rfl, h.symm⟩
  | some y =>
    simp only [optEval, Option.map_eq_some_iff] at h
    obtain ⟨u, hu, rfl⟩ := h
    exact .inr ⟨y, u, rfl, rfl, aeval_sound he hu⟩
theorem bounds_sound [Th] (he : VRs ρ D env a.tmps.toList) {lo hi mx : Option Operand} {l h m : Option Value} (hl : optEval env lo = some l) (hh : optEval env hi = some h) (hm : optEval env mx = some m) {len cap cap' p q r : Nat} (hb : abounds len cap l h m = some (p, q, r)) (hc : cap ≤ cap') (hlc : len ≤ cap) (isS : Bool) (W : World) :
    ∃ r', (Instr.sliceBounds isS len cap' (lo.map a.eval) (hi.map a.eval) (mx.map a.eval)).run P W = .ok (p, q, r') W ∧ p ≤ q ∧ q ≤ r ∧ r ≤ r' ∧ r' ≤ cap' := by
  unfold abounds at hb
  simp only [Option.bind_eq_bind, Option.bind_eq_some_iff] at hb
  obtain ⟨r0, hr0, q0, hq0, p0, hp0, hb⟩ := hb
  simp only [Option.some.injEq, Prod.mk.injEq] at hb
  obtain ⟨rfl, rfl, rfl⟩ := hb
  unfold Instr.sliceBounds
  rcases optEval_sound he hm with ⟨rfl, rfl⟩ | ⟨y, u, rfl, rfl, hmv⟩
  · simp only [aboundO, Option.some.injEq] at hr0
    subst hr0
    have hqr : q0 ≤ cap := by
      cases h with
      | none => simp [aboundO] at hq0; omega
      | some v => simp only [aboundO] at hq0; unfold abound at hq0; split at hq0 <;> (try split at hq0) <;> simp at hq0 <;> omega
    have hpq : p0 ≤ q0 := by
      cases l with
      | none => simp [aboundO] at hp0; omega
      | some v => simp only [aboundO] at hp0; unfold abound at hp0; split at hp0 <;> (try split at hp0) <;> simp at hp0 <;> omega
    refine ⟨cap', ?_, hpq, hqr, hc, Nat.le_refl _⟩
    rcases optEval_sound he hh with ⟨rfl, rfl⟩ | ⟨y2, u2, rfl, rfl, hhv⟩
    · simp [aboundO] at hq0
      subst hq0
      rcases optEval_sound he hl with ⟨rfl, rfl⟩ | ⟨y3, u3, rfl, rfl, hlv⟩
      · simp only [aboundO, Option.some.injEq] at hp0
        subst hp0
        simp
      · simp only [aboundO] at hp0
        have h3 := fun code => (bound_sound (P := P) (code := code) hp0 (Nat.le_refl _) hlv W).1
        simp [h3]
    · simp only [aboundO] at hq0
      have h2 := fun code => (bound_sound (P := P) (code := code) hq0 hc hhv W).1
      rcases optEval_sound he hl with ⟨rfl, rfl⟩ | ⟨y3, u3, rfl, rfl, hlv⟩
      · simp only [aboundO, Option.some.injEq] at hp0
        subst hp0
        simp [h2]
      · simp only [aboundO] at hp0
        have h3 := fun code => (bound_sound (P := P) (code := code) hp0 (Nat.le_refl _) hlv W).1
        simp [h2, h3]
  · simp only [aboundO] at hr0
    have h1 := fun code => bound_sound (P := P) (code := code) hr0 hc hmv W
    have hrc := (h1 .index).2
    have h1' := fun code => (h1 code).1
    rcases optEval_sound he hh with ⟨rfl, rfl⟩ | ⟨y2, u2, rfl, rfl, hhv⟩
    · simp [aboundO] at hq0
    · simp only [aboundO] at hq0
      have h2 := fun code => bound_sound (P := P) (code := code) hq0 (Nat.le_refl _) hhv W
      have hqr := (h2 .index).2
      have h2' := fun code => (h2 code).1
      rcases optEval_sound he hl with ⟨rfl, rfl⟩ | ⟨y3, u3, rfl, rfl, hlv⟩
      · simp only [aboundO, Option.some.injEq] at hp0
        subst hp0
        refine ⟨r0, ?_, by omega, hqr, Nat.le_refl _, by omega⟩
        simp [h1', h2']
      · simp only [aboundO] at hp0
        have h3 := fun code => bound_sound (P := P) (code := code) hp0 (Nat.le_refl _) hlv W
        have h3' := fun code => (h3 code).1
        refine ⟨r0, ?_, (h3 .index).2, hqr, Nat.le_refl _, by omega⟩
        simp [h1', h2', h3']
theorem slice_slice_sound [Th] {o : Oper} {t : TypeId} {x : Operand} {lo hi mx : Option Operand} (ho : o.op = .slice t x lo hi mx) {e : TypeId} {l h m : Option Value} {n i len cap sz p q r z : Nat} {cs : List Value} {sb : Option Nat} (hu : P.underlying t = some (.slice e)) (hl : optEval env lo = some l) (hh : optEval env hi = some h) (hm : optEval env mx = some m)
    (hx : aeval env x = some (.slice (some ⟨n, i, none⟩) len cap)) (hsz : szOf P e = some sz) (hb : abounds len cap l h m = some (p, q, r)) (hcs : H.cells n = some (cs, z, sb)) (hz : z = sz) (he : VRs ρ D env a.tmps.toList) (hp : Pre ρ D G W T H H [n] []) :
    OpOk P o a ρ D G W T H H [] (.slice (some ⟨n, i + p * sz, none⟩) (q - p) (r - p)) := by
  subst hz
  have hr := aeval_sound he hx
  obtain ⟨hB, _⟩ := hp.cells (.inl (by simp)) hcs
  have hez := hB.1
  generalize hy : a.eval x = y at hr
  have fin : ∀ (c' : Nat) (j : Nat), y = .slice (some ⟨(ρ n).blk, j, none⟩) len c' → cap ≤ c' → len ≤ cap → (∀ r', p ≤ q → q ≤ r → r ≤ r' → r' ≤ c' → VR ρ D (.slice (some ⟨n, i + p * z, none⟩) (q - p) (r - p)) (.slice (some (if r' = p then ⟨(ρ n).blk, j, none⟩ else ⟨(ρ n).blk, j + p * z, none⟩)) (q - p) (r' - p))) →
      OpOk P o a ρ D G W T H H [] (.slice (some ⟨n, i + p * z, none⟩) (q - p) (r - p)) := by
    intro c' j hj hcc hlc hv
    obtain ⟨r', hrun, h1, h2, h3, h4⟩ := bounds_sound (P := P) he hl hh hm hb hcc hlc true W
    refine ⟨_, W, .inl ?_, post_same hp.hr (hv r' h1 h2 h3 h4)⟩
    unfold execOp
    simp only [ho, hy, hj, Instr.sliceAt, underlying_of hu, Sem.run_bind, Result.andThen_ok]
    simp only [Instr.slice, Sem.run_bind, underlying_of hu, Result.andThen_ok, hrun, run_sizeOf' hsz, Sem.run_pure, Option.map_some, Addr.add_mid]
    by_cases hrp : r' = p
    · simp [hrp]
    · simp [hrp]
  cases hr with
  | flat hf => simp [Ev.flat] at hf
  | empty hD =>
    rename_i j
    refine fin 0 j rfl (Nat.le_refl _) (Nat.le_refl _) (fun r' h1 h2 h3 h4 => ?_)
    have e1 : p = 0 := by omega
    have e2 : q = 0 := by omega
    have e3 : r = 0 := by omega
    have e4 : r' = 0 := by omega
    subst e1 e2 e3 e4
    simp
    exact .empty hD
  | slice hD h1 h2 h3 =>
    rename_i c'
    refine fin c' _ rfl h2 h1 (fun r' k1 k2 k3 k4 => ?_)
    by_cases hrp : r' = p
    · rw [if_pos hrp]
      have e2 : q - p = 0 := by omega
      have e3 : r - p = 0 := by omega
      have e4 : r' - p = 0 := by omega
      rw [e2, e3, e4]
      exact .empty hD
    · rw [if_neg hrp, Nat.add_assoc]
      refine .slice hD (by omega) (by omega) ?_
      rw [hez.1] at h3 ⊢
      have : (p + (r' - p)) * z ≤ c' * z := Nat.mul_le_mul_right _ (by omega)
      rw [Nat.add_mul] at this
      omega
theorem slice_array_sound [Th] {o : Oper} {t : TypeId} {x : Operand} {lo hi mx : Option Operand} (ho : o.op = .slice t x lo hi mx) {e : TypeId} {l h m : Option Value} {n i k sz p q r z : Nat} {cs : List Value} {sb : Option Nat} (hu : P.underlying t = some (.array k e)) (hl : optEval env lo = some l) (hh : optEval env hi = some h) (hm : optEval env mx = some m)
    (hx : aeval env x = some (.pointer (some ⟨n, i, none⟩))) (hsz : szOf P e = some sz) (hb : abounds k k l h m = some (p, q, r)) (hcs : H.cells n = some (cs, z, sb)) (hz : z = sz) (hk : i + k * sz ≤ cs.length) (he : VRs ρ D env a.tmps.toList) (hp : Pre ρ D G W T H H [n] []) :
    OpOk P o a ρ D G W T H H [] (.slice (some ⟨n, i + p * sz, none⟩) (q - p) (r - p)) := by
  subst hz
  obtain ⟨hy, hD⟩ := ptr_form (aeval_sound he hx) rfl
  obtain ⟨hB, _⟩ := hp.cells (.inl (by simp)) hcs
  have hez := hB.1
  have hext := hB.2.2.1
  obtain ⟨r', hrun, h1, h2, h3, h4⟩ := bounds_sound (P := P) he hl hh hm hb (Nat.le_refl _) (Nat.le_refl _) false W
  refine ⟨.slice (some (if r' = p then ⟨(ρ n).blk, (ρ n).off + i, none⟩ else ⟨(ρ n).blk, (ρ n).off + i + p * z, none⟩)) (q - p) (r' - p), W, .inl ?_, post_same hp.hr ?_⟩
  · unfold execOp
    simp only [ho, hy, Instr.sliceAt, Instr.sureAddr, underlying_of hu, Sem.run_bind, Result.andThen_ok, Sem.run_pure, hrun, run_sizeOf' hsz, Addr.add_mid]
  · by_cases hrp : r' = p
    · rw [if_pos hrp]
      have e2 : q - p = 0 := by omega
      have e3 : r - p = 0 := by omega
      have e4 : r' - p = 0 := by omega
      rw [e2, e3, e4]
      exact .empty hD
    · rw [if_neg hrp, Nat.add_assoc]
      refine .slice hD (by omega) (by omega) ?_
      rw [hez.1]
      have : (p + (r' - p)) * z ≤ k * z := Nat.mul_le_mul_right _ (by omega)
      rw [Nat.add_mul] at this
      omega
end
end Go.Proofs.Ytpjkbjpjhkcofaa.Ev
