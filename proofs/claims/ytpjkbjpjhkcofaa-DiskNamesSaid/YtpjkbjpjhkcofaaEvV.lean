/- EV, part V: who wrote what in the text's order. No program here. -/
import Derived.Test.YtpjkbjpjhkcofaaEvU
namespace Go.Proofs.Ytpjkbjpjhkcofaa.Ev
open Go Go.RowKit
set_option linter.unusedVariables false
set_option linter.unusedSimpArgs false
section
variable {P : Program} {xc : XC} {call : CallF} {p : Nat} {ops : Array Oper} {l : List Oper} {env e2 : List Value} {H H2 : AH} {r w : List Nat} {fs : List Ent} {es : Nat → List Value} {Hs : Nat → AH} {vs : Nat → Value} {ft : Nat → List Nat × List Nat}
theorem Run.step_fr [Th] (hfr : CallFr call) (R : Run P xc call p ops l env H e2 H2 r w fs es Hs vs ft) {i : Nat} (hi : i < l.length) : Fr (Hs i) (Hs (i + 1)) (ft i).2 ∧ (∀ x ∈ (ft i).1, x < (Hs i).next) ∧ ∀ x ∈ (ft i).2, x < (Hs i).next := by
  obtain ⟨_, h⟩ := R.row i _ (List.getElem?_eq_getElem hi)
  rcases h with ⟨_, h⟩ | ⟨_, _, h2, h3⟩
  · obtain ⟨h1, h2, h3⟩ := aopB_some h
    exact ⟨aop_fr hfr h1, h2, h3⟩
  · rw [h2, h3]
    exact ⟨Fr.refl _ _, fun _ h => (by cases h), fun _ h => (by cases h)⟩
theorem Run.mono [Th] (hfr : CallFr call) (R : Run P xc call p ops l env H e2 H2 r w fs es Hs vs ft) {i : Nat} : ∀ {j : Nat}, i ≤ j → j ≤ l.length → (Hs i).next ≤ (Hs j).next
  | 0, h, _ => by have : i = 0 := (by omega); subst this; exact Nat.le_refl _
  | j + 1, h, hj => by
    by_cases hij : i = j + 1
    · subst hij; exact Nat.le_refl _
    · exact Nat.le_trans (R.mono hfr (by omega) (by omega)) (R.step_fr hfr (by omega)).1.1
theorem Run.keep [Th] (hfr : CallFr call) (R : Run P xc call p ops l env H e2 H2 r w fs es Hs vs ft) {i id : Nat} : ∀ {j : Nat}, i ≤ j → j ≤ l.length → id < (Hs i).next → (∀ k, i ≤ k → k < j → id ∉ (ft k).2) → (Hs j).get id = (Hs i).get id
  | 0, h, _, _, _ => by have : i = 0 := (by omega); subst this; rfl
  | j + 1, h, hj, hid, hk => by
    by_cases hij : i = j + 1
    · subst hij; rfl
    · have hm := R.mono hfr (i := i) (j := j) (by omega) (by omega)
      rw [(R.step_fr hfr (i := j) (by omega)).1.2 id (by omega) (hk j (by omega) (by omega))]
      exact R.keep hfr (by omega) (by omega) hid fun k h1 h2 => hk k h1 (by omega)
theorem Run.maker (Hs : Nat → AH) {id : Nat} : ∀ {j : Nat}, (Hs 0).next ≤ id → id < (Hs j).next → ∃ m, m < j ∧ (Hs m).next ≤ id ∧ id < (Hs (m + 1)).next
  | 0, h1, h2 => by omega
  | j + 1, h1, h2 => by
    by_cases h : id < (Hs j).next
    · obtain ⟨m, hm, h3⟩ := Run.maker Hs h1 h
      exact ⟨m, by omega, h3⟩
    · exact ⟨j, by omega, by omega, h2⟩
theorem lastw (Wr : Nat → Prop) : ∀ j : Nat, (∀ i, i < j → ¬ Wr i) ∨ ∃ i, i < j ∧ Wr i ∧ ∀ k, i < k → k < j → ¬ Wr k
  | 0 => .inl fun i h => by omega
  | j + 1 => by
    by_cases hj : Wr j
    · exact .inr ⟨j, by omega, hj, fun k h1 h2 => by omega⟩
    · rcases lastw Wr j with h | ⟨i, h1, h2, h3⟩
      · refine .inl fun i hi => ?_
        by_cases e : i = j
        · rw [e]; exact hj
        · exact h i (by omega)
      · refine .inr ⟨i, by omega, h2, fun k hk1 hk2 => ?_⟩
        by_cases e : k = j
        · rw [e]; exact hj
        · exact h3 k hk1 (by omega)
/-- Ancestors by binding edges. -/
inductive Anc (ops : Array Oper) : Nat → Nat → Prop
  | one {i j : Nat} {o : Oper} (h : ops[j]? = some o) {e : Edge} (he : e ∈ o.after) (hb : Region.binds .any e = true) (hi : e.on = i) : Anc ops i j
  | step {i k j : Nat} {o : Oper} (h : ops[j]? = some o) {e : Edge} (he : e ∈ o.after) (hb : Region.binds .any e = true) (hi : e.on = k) (h2 : Anc ops i k) : Anc ops i j
/-- What has come up is closed under ancestors. -/
theorem Anc.listed {L : Array Bool} (hcl : ∀ j o, ops[j]? = some o → L.getD j false = true → ∀ e ∈ o.after, Region.binds .any e = true → L.getD e.on false = true) {i j : Nat} (h : Anc ops i j) : L.getD j false = true → L.getD i false = true := by
  induction h with
  | one h he hb hi => intro hL; rw [← hi]; exact hcl _ _ h hL _ he hb
  | step h he hb hi _ ih => intro hL; exact ih (by rw [← hi]; exact hcl _ _ h hL _ he hb)
theorem Anc.ready [Th] {L : Array Bool} (hcl : ∀ j o, ops[j]? = some o → L.getD j false = true → ∀ e ∈ o.after, Region.binds .any e = true → L.getD e.on false = true) {i j : Nat} {o : Oper} (h : Anc ops i j) (hj : ops[j]? = some o)
    (hr : ∀ e ∈ o.after, Region.binds .any e = true → L.getD e.on false = true) : L.getD i false = true := by
  cases h with
  | one h he hb hi => rw [hj] at h; cases h; rw [← hi]; exact hr _ he hb
  | step h he hb hi h2 => rw [hj] at h; cases h; exact h2.listed hcl (by rw [← hi]; exact hr _ he hb)
structure StatOk (ops : Array Oper) : Prop where
  low : ∀ (i : Nat) (o : Oper), ops[i]? = some o → ∀ e ∈ o.after, Region.binds .any e = true → e.on < i
  one : ∀ (i j : Nat) (o q : Oper) (d : Nat), ops[i]? = some o → ops[j]? = some q → o.dst = some d → q.dst = some d → i = j
  look : ∀ (i j : Nat) (o q : Oper) (d : Nat), ops[i]? = some o → ops[j]? = some q → q.dst = some d → d ∈ o.looksAt ops → (∃ e ∈ o.after, Region.binds .any e = true ∧ e.on = j) ∨ ∃ e ∈ q.after, Region.binds .any e = true ∧ e.on = i
def FreeOk (ops : Array Oper) (fs : List Ent) : Prop := ∀ i j a b, i < j → fs[i]? = some a → fs[j]? = some b → clash a b = true → Anc ops i j
end
end Go.Proofs.Ytpjkbjpjhkcofaa.Ev
