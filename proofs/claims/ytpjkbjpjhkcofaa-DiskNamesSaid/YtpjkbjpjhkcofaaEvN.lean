/- EV, part N: code and calls; regions that draw their order are asked for. No program here. -/
import Derived.Test.YtpjkbjpjhkcofaaEvM
namespace Go.Proofs.Ytpjkbjpjhkcofaa.Ev
open Go Go.RowKit
set_option linter.unusedVariables false
set_option linter.unusedSimpArgs false
section
variable {P : Program} {xc : XC} {call : CallF} {p : Nat} {ρ ρ' ρ'' : Rho} {D : Nat → Prop} {G G' : Nat → Option Blk} {W W' W1 W2 : World} {T : Nat → Prop} {H H' H1 H2 : AH} {R Wr r1 r2 w1 w2 : List Nat} {env e1 e2 : List Value} {a : Act} {vs : List Value}
theorem aopB_some [Th] {o : Oper} {v : Value} (h : aopB P xc call env o H = some (v, H1, r1, w1)) : aop P xc call env o H = some (v, H1, r1, w1) ∧ (∀ x ∈ r1, x < H.next) ∧ ∀ x ∈ w1, x < H.next := by
  unfold aopB at h
  rw [aopF_eq] at h
  split at h
  · rename_i v' H' r' w' e
    split at h
    · rename_i hc
      simp only [Option.some.injEq, Prod.mk.injEq] at h
      obtain ⟨rfl, rfl, rfl, rfl⟩ := h
      rw [Bool.and_eq_true] at hc
      exact ⟨e, allLt_mem hc.1, allLt_mem hc.2⟩
    · cases h
  · cases h
theorem FrC.cons [Th] (h : Fr H H1 w1) (hp : p ≤ H.next) (h2 : FrC p H1 H2 r2 w2) : FrC p H H2 (insAll p r1 r2) (insAll p w1 w2) where
  le := Nat.le_trans h.1 h2.le
  r := fun id hid => by
    rcases insAll_mem.1 hid with h | h
    · exact h.2
    · exact h2.r id h
  w := fun id hid => by
    rcases insAll_mem.1 hid with h | h
    · exact h.2
    · exact h2.w id h
  fr := fun id hlt hn => by
    have hn1 : id ∉ w1 := fun h => hn (insAll_mem.2 (.inl ⟨h, hlt⟩))
    have hn2 : id ∉ w2 := fun h => hn (insAll_mem.2 (.inr h))
    rw [h2.fr id hlt hn2, h.2 id (by omega) hn1]
theorem aputs_some (env : List Value) (t : Tmp) (v : Value) : aputs env (some t) v = env.set t v := lset_eq v env t
theorem VRs.puts [Th] (he : VRs ρ D env a.tmps.toList) {v v' : Value} (hv : VR ρ D v v') (d : Option Tmp) : VRs ρ D (aputs env d v) (a.put d v').tmps.toList := by
  cases d with
  | none => exact he
  | some t => simpa [aputs, lset_eq, Act.put] using he.set t hv
theorem put_defers (a : Act) (x : Option Tmp) (v : Value) : (a.put x v).defers = a.defers := by cases x <;> rfl
theorem aops_fr [Th] (hfr : CallFr call) {ops : Array Oper} : ∀ (l : List Oper) (env : List Value) (H : AH) {e2 : List Value} {H2 : AH} {r w : List Nat}, p ≤ H.next → aops P xc call p ops l env H = some (e2, H2, r, w) → FrC p H H2 r w
  | [], env, H, e2, H2, r, w, hp, h => by
    simp only [aops, Option.some.injEq, Prod.mk.injEq] at h
    obtain ⟨_, rfl, rfl, rfl⟩ := h
    exact FrC.refl _ _
  | o :: rest, env, H, e2, H2, r, w, hp, h => by
    unfold aops at h
    split at h
    · simp only [Option.bind_eq_bind, Option.bind_eq_some_iff] at h
      obtain ⟨⟨v, H1, r1, w1⟩, h1, ⟨e3, H3, r2, w2⟩, h2, h⟩ := h
      simp only [Option.some.injEq, Prod.mk.injEq] at h
      obtain ⟨rfl, rfl, rfl, rfl⟩ := h
      have hf := aop_fr hfr (aopB_some h1).1
      exact FrC.cons hf hp (aops_fr hfr rest _ _ (Nat.le_trans hp hf.1) h2)
    · exact aops_fr hfr rest _ _ hp h
theorem aops_sound [Th] (hcall : CallOk P call) (hfr : CallFr call) (hcmp : CmpOk P xc) {ops : Array Oper} {Q : Exit → Act → World → Prop} : ∀ (l : List Oper) (env : List Value) (H : AH) {e2 : List Value} {H2 : AH} {r w : List Nat}, aops P xc call p ops l env H = some (e2, H2, r, w) →
    ∀ (ρ : Rho) (D : Nat → Prop) (G : Nat → Option Blk) (W : World) (T : Nat → Prop) (a : Act), VRs ρ D env a.tmps.toList → PreC p ρ D G W T H H2 r w →
      (∀ ρ' a' W', a'.defers = a.defers → PostC p ρ ρ' D G W T H H2 w e2 a'.tmps.toList W' → Q .normal a' W') → wpList P ops Q l a W
  | [], env, H, e2, H2, r, w, h, ρ, D, G, W, T, a, he, hp, hQ => by
    simp only [aops, Option.some.injEq, Prod.mk.injEq] at h
    obtain ⟨rfl, rfl, rfl, rfl⟩ := h
    exact hQ ρ a W rfl (PostC.same hp he)
  | o :: rest, env, H, e2, H2, r, w, h, ρ, D, G, W, T, a, he, hp, hQ => by
    unfold aops at h
    unfold wpList
    rw [wanted_eq he]
    split at h
    · rename_i hw
      rw [if_pos hw]
      simp only [Option.bind_eq_bind, Option.bind_eq_some_iff] at h
      obtain ⟨⟨v, H1, r1, w1⟩, h1, ⟨e3, H3, r2, w2⟩, h2, h⟩ := h
      simp only [Option.some.injEq, Prod.mk.injEq] at h
      obtain ⟨rfl, rfl, rfl, rfl⟩ := h
      obtain ⟨h1, hr1, hw1⟩ := aopB_some h1
      have hf := aop_fr hfr h1
      have hf2 := aops_fr hfr rest _ _ (Nat.le_trans hp.le hf.1) h2
      have hpo : Pre ρ D G W T H H1 r1 w1 := hp.op hf2.le hr1 hw1 (fun id h hlt => insAll_mem.2 (.inl ⟨h, hlt⟩)) (fun id h hlt => insAll_mem.2 (.inl ⟨h, hlt⟩))
      refine .inl (aop_sound hcall hcmp h1 he hpo fun v' W' hpost => ?_)
      obtain ⟨ρ', hpc⟩ := PostC.of_post (d := o.dst) hp hf hw1 he hpost
      have hfc := FrC.of_fr (r1 := r1) hf hp.le
      have hp2 := hp.second hfc hf2 (fun id h => insAll_mem.2 (.inr h)) (fun id h => insAll_mem.2 (.inr h)) hpc
      refine aops_sound hcall hfr hcmp rest _ _ h2 ρ' _ _ W' _ _ hpc.env hp2 fun ρ'' a' W'' hd hpost2 => hQ ρ'' a' W'' (by rw [hd, put_defers]) (hpc.comp hfc hf2 (fun id => ?_) hpost2)
      rw [insAll_mem, insAll_mem]
      simp
    · rename_i hw
      rw [if_neg hw]
      exact aops_sound hcall hfr hcmp rest _ _ h ρ D G W T _ (he.puts (.tuple .nil) o.dst) hp fun ρ' a' W' hd hpost => hQ ρ' a' W' (by rw [hd, put_defers]) hpost
/-- A region that draws its order does what the text's order does. -/
def DrawnOk [Th] (P : Program) (xc : XC) : Prop := ∀ (call : CallF) (p id : Nat) (ops : Array Oper) (env : List Value) (H : AH) (e2 : List Value) (H2 : AH) (r w : List Nat) (fs : List Ent), CallOk P call → CallFr call →
  aopsD P xc call p ops ops.toList env H = some (e2, H2, r, w, fs) → freeOk ops fs = true →
  ∀ (ρ : Rho) (D : Nat → Prop) (G : Nat → Option Blk) (W : World) (T : Nat → Prop) (a : Act) (Q : Exit → Act → World → Prop), VRs ρ D env a.tmps.toList → PreC p ρ D G W T H H2 r w →
    (∀ ρ' a' W', a'.defers = a.defers → PostC p ρ ρ' D G W T H H2 w e2 a'.tmps.toList W' → Q .normal a' W') → (Code.region id ops true).wp P Q a W
theorem aopsD_fr [Th] (hfr : CallFr call) {ops : Array Oper} : ∀ (l : List Oper) (env : List Value) (H : AH) {e2 : List Value} {H2 : AH} {r w : List Nat} {fs : List Ent}, p ≤ H.next → aopsD P xc call p ops l env H = some (e2, H2, r, w, fs) → FrC p H H2 r w
  | [], env, H, e2, H2, r, w, fs, hp, h => by
    simp only [aopsD, Option.some.injEq, Prod.mk.injEq] at h
    obtain ⟨_, rfl, rfl, rfl, _⟩ := h
    exact FrC.refl _ _
  | o :: rest, env, H, e2, H2, r, w, fs, hp, h => by
    unfold aopsD at h
    split at h
    · simp only [Option.bind_eq_bind, Option.bind_eq_some_iff] at h
      obtain ⟨⟨v, H1, r1, w1⟩, h1, ⟨e3, H3, r2, w2, fs2⟩, h2, h⟩ := h
      simp only [Option.some.injEq, Prod.mk.injEq] at h
      obtain ⟨rfl, rfl, rfl, rfl, _⟩ := h
      have hf := aop_fr hfr (aopB_some h1).1
      exact FrC.cons hf hp (aopsD_fr hfr rest _ _ (Nat.le_trans hp hf.1) h2)
    · simp only [Option.bind_eq_bind, Option.bind_eq_some_iff] at h
      obtain ⟨⟨e3, H3, r2, w2, fs2⟩, h2, h⟩ := h
      simp only [Option.some.injEq, Prod.mk.injEq] at h
      obtain ⟨rfl, rfl, rfl, rfl, _⟩ := h
      exact aopsD_fr hfr rest _ _ hp h2
theorem acode_fr [Th] (hfr : CallFr call) : ∀ (n : Nat) (c : Code) (env : List Value) (H : AH) {x : AX} {e2 : List Value} {H2 : AH} {r w : List Nat}, p ≤ H.next → acode P xc call p n c env H = some (x, e2, H2, r, w) → FrC p H H2 r w
  | 0, c, env, H, x, e2, H2, r, w, hp, h => by cases h
  | n + 1, c, env, H, x, e2, H2, r, w, hp, h => by
    unfold acode at h
    split at h
    · simp only [Option.some.injEq, Prod.mk.injEq] at h
      obtain ⟨_, _, rfl, rfl, rfl⟩ := h
      exact FrC.refl _ _
    · simp only [Option.bind_eq_bind, Option.bind_eq_some_iff] at h
      obtain ⟨⟨e3, H3, r2, w2⟩, h2, h⟩ := h
      simp only [Option.some.injEq, Prod.mk.injEq] at h
      obtain ⟨_, rfl, rfl, rfl, rfl⟩ := h
      exact aops_fr hfr _ _ _ hp h2
    · simp only [Option.bind_eq_bind, Option.bind_eq_some_iff] at h
      obtain ⟨⟨e3, H3, r2, w2, fs⟩, h2, h⟩ := h
      simp only at h
      split at h
      · simp only [Option.some.injEq, Prod.mk.injEq] at h
        obtain ⟨_, rfl, rfl, rfl, rfl⟩ := h
        exact aopsD_fr hfr _ _ _ hp h2
      · cases h
    · simp only [Option.bind_eq_bind, Option.bind_eq_some_iff] at h
      obtain ⟨⟨x1, e1, H1, r1, w1⟩, h1, h⟩ := h
      have f1 := acode_fr hfr n _ _ _ hp h1
      simp only at h
      split at h
      · simp only [Option.bind_eq_bind, Option.bind_eq_some_iff] at h
        obtain ⟨⟨y, e3, H3, r2, w2⟩, h2, h⟩ := h
        simp only [Option.some.injEq, Prod.mk.injEq] at h
        obtain ⟨_, _, rfl, rfl, rfl⟩ := h
        exact f1.comp (acode_fr hfr n _ _ _ (Nat.le_trans hp f1.le) h2)
      · simp only [Option.some.injEq, Prod.mk.injEq] at h
        obtain ⟨_, _, rfl, rfl, rfl⟩ := h
        exact f1
    · simp only [Option.bind_eq_bind, Option.bind_eq_some_iff] at h
      obtain ⟨u, hu, h⟩ := h
      split at h
      · exact acode_fr hfr n _ _ _ hp h
      · exact acode_fr hfr n _ _ _ hp h
      · cases h
    · simp only [Option.bind_eq_bind, Option.bind_eq_some_iff] at h
      obtain ⟨⟨x1, e1, H1, r1, w1⟩, h1, h⟩ := h
      have f1 := acode_fr hfr n _ _ _ hp h1
      simp only at h
      split at h <;> (simp only [Option.some.injEq, Prod.mk.injEq] at h; obtain ⟨_, _, rfl, rfl, rfl⟩ := h; exact f1)
    · simp only [Option.bind_eq_bind, Option.bind_eq_some_iff] at h
      obtain ⟨⟨x1, e1, H1, r1, w1⟩, h1, h⟩ := h
      have f1 := acode_fr hfr n _ _ _ hp h1
      simp only at h
      split at h
      · simp only [Option.bind_eq_bind, Option.bind_eq_some_iff] at h
        obtain ⟨⟨y, e3, H3, r2, w2⟩, h2, h⟩ := h
        simp only [Option.some.injEq, Prod.mk.injEq] at h
        obtain ⟨_, _, rfl, rfl, rfl⟩ := h
        exact f1.comp (acode_fr hfr n _ _ _ (Nat.le_trans hp f1.le) h2)
      · simp only [Option.some.injEq, Prod.mk.injEq] at h
        obtain ⟨_, _, rfl, rfl, rfl⟩ := h
        exact f1
    · simp only [Option.some.injEq, Prod.mk.injEq] at h
      obtain ⟨_, _, rfl, rfl, rfl⟩ := h
      exact FrC.refl _ _
    · simp only [Option.some.injEq, Prod.mk.injEq] at h
      obtain ⟨_, _, rfl, rfl, rfl⟩ := h
      exact FrC.refl _ _
    · cases h
def AX.to : AX → Exit
  | .normal => .normal
  | .exit j => .exit j
  | .ret => .ret
end
end Go.Proofs.Ytpjkbjpjhkcofaa.Ev
