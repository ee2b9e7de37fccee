/- EV, part U: the text's order of a drawn region, step by step. No program here. -/
import Derived.Test.YtpjkbjpjhkcofaaEvS
namespace Go.Proofs.Ytpjkbjpjhkcofaa.Ev
open Go Go.RowKit
set_option linter.unusedVariables false
set_option linter.unusedSimpArgs false
/-- One step of the text's order. -/
def Row (P : Program) (xc : XC) (call : CallF) (ops : Array Oper) (o : Oper) (env : List Value) (H : AH) (v : Value) (env' : List Value) (H' : AH) (ft : List Nat × List Nat) : Prop :=
  env' = aputs env o.dst v ∧ ((Region.wanted o (ayield ops env) = true ∧ aopB P xc call env o H = some (v, H', ft.1, ft.2)) ∨ (Region.wanted o (ayield ops env) = false ∧ v = undef ∧ H' = H ∧ ft = ([], [])))
def fent (H H' : AH) (ft : List Nat × List Nat) : Ent := (ft.1, ft.2, H.next, H'.next)
structure Run (P : Program) (xc : XC) (call : CallF) (p : Nat) (ops : Array Oper) (l : List Oper) (env : List Value) (H : AH) (e2 : List Value) (H2 : AH) (r w : List Nat) (fs : List Ent) (es : Nat → List Value) (Hs : Nat → AH) (vs : Nat → Value) (ft : Nat → List Nat × List Nat) : Prop where
  h0 : Hs 0 = H
  e0 : es 0 = env
  hn : Hs l.length = H2
  en : es l.length = e2
  row : ∀ i o, l[i]? = some o → Row P xc call ops o (es i) (Hs i) (vs i) (es (i + 1)) (Hs (i + 1)) (ft i)
  r : ∀ id, id ∈ r ↔ ∃ i, i < l.length ∧ id ∈ (ft i).1 ∧ id < p
  w : ∀ id, id ∈ w ↔ ∃ i, i < l.length ∧ id ∈ (ft i).2 ∧ id < p
  fl : fs.length = l.length
  fs : ∀ i, i < l.length → fs[i]? = some (fent (Hs i) (Hs (i + 1)) (ft i))
def cons0 {α : Type} (x : α) (f : Nat → α) : Nat → α
  | 0 => x
  | i + 1 => f i
theorem aopsD_run [Th] {P : Program} {xc : XC} {call : CallF} {p : Nat} {ops : Array Oper} : ∀ (l : List Oper) (env : List Value) (H : AH) {e2 : List Value} {H2 : AH} {r w : List Nat} {fs : List Ent}, aopsD P xc call p ops l env H = some (e2, H2, r, w, fs) →
    ∃ es Hs vs ft, Run P xc call p ops l env H e2 H2 r w fs es Hs vs ft
  | [], env, H, e2, H2, r, w, fs, h => by
    simp only [aopsD, Option.some.injEq, Prod.mk.injEq] at h
    obtain ⟨rfl, rfl, rfl, rfl, rfl⟩ := h
    exact ⟨fun _ => env, fun _ => H, fun _ => undef, fun _ => ([], []), rfl, rfl, rfl, rfl, fun i o h => (by simp at h), fun id => (by simp), fun id => (by simp), rfl, fun i h => (by simp at h)⟩
  | o :: rest, env, H, e2, H2, r, w, fs, h => by
    unfold aopsD at h
    split at h
    · rename_i hw
      simp only [Option.bind_eq_bind, Option.bind_eq_some_iff] at h
      obtain ⟨⟨v, H1, r1, w1⟩, h1, ⟨e3, H3, r2, w2, fs2⟩, h2, h⟩ := h
      simp only [Option.some.injEq, Prod.mk.injEq] at h
      obtain ⟨rfl, rfl, rfl, rfl, rfl⟩ := h
      obtain ⟨es, Hs, vs, ft, R⟩ := aopsD_run rest _ _ h2
      refine ⟨cons0 env es, cons0 H Hs, cons0 v vs, cons0 (r1, w1) ft, rfl, rfl, R.hn, R.en, fun i o' hi => ?_, fun id => ?_, fun id => ?_, by simp [R.fl], fun i hi => ?_⟩
      · cases i with
        | zero =>
          simp only [List.getElem?_cons_zero, Option.some.injEq] at hi
          subst hi
          refine ⟨R.e0, .inl ⟨hw, ?_⟩⟩
          show aopB P xc call env o H = some (v, Hs 0, r1, w1)
          rw [R.h0]; exact h1
        | succ i => exact R.row i o' (by simpa using hi)
      · rw [insAll_mem, R.r]
        constructor
        · rintro (h | ⟨i, h⟩)
          · exact ⟨0, by simp, h⟩
          · exact ⟨i + 1, by simp; exact h.1, h.2⟩
        · rintro ⟨i, h1, h2, h3⟩
          cases i with
          | zero => exact .inl ⟨h2, h3⟩
          | succ i => exact .inr ⟨i, by simpa using h1, h2, h3⟩
      · rw [insAll_mem, R.w]
        constructor
        · rintro (h | ⟨i, h⟩)
          · exact ⟨0, by simp, h⟩
          · exact ⟨i + 1, by simp; exact h.1, h.2⟩
        · rintro ⟨i, h1, h2, h3⟩
          cases i with
          | zero => exact .inl ⟨h2, h3⟩
          | succ i => exact .inr ⟨i, by simpa using h1, h2, h3⟩
      · cases i with
        | zero =>
          show some _ = some (fent H (Hs 0) (r1, w1))
          rw [R.h0]; rfl
        | succ i => exact R.fs i (by simpa using hi)
    · rename_i hw
      simp only [Option.bind_eq_bind, Option.bind_eq_some_iff] at h
      obtain ⟨⟨e3, H3, r2, w2, fs2⟩, h2, h⟩ := h
      simp only [Option.some.injEq, Prod.mk.injEq] at h
      obtain ⟨rfl, rfl, rfl, rfl, rfl⟩ := h
      obtain ⟨es, Hs, vs, ft, R⟩ := aopsD_run rest _ _ h2
      refine ⟨cons0 env es, cons0 H Hs, cons0 undef vs, cons0 ([], []) ft, rfl, rfl, R.hn, R.en, fun i o' hi => ?_, fun id => ?_, fun id => ?_, by simp [R.fl], fun i hi => ?_⟩
      · cases i with
        | zero =>
          simp only [List.getElem?_cons_zero, Option.some.injEq] at hi
          subst hi
          exact ⟨R.e0, .inr ⟨by show Region.wanted o (ayield ops env) = false; simpa using hw, rfl, R.h0, rfl⟩⟩
        | succ i => exact R.row i o' (by simpa using hi)
      · rw [R.r]
        constructor
        · rintro ⟨i, h⟩; exact ⟨i + 1, by simp; exact h.1, h.2⟩
        · rintro ⟨i, h1, h2, h3⟩
          cases i with
          | zero => cases h2
          | succ i => exact ⟨i, by simpa using h1, h2, h3⟩
      · rw [R.w]
        constructor
        · rintro ⟨i, h⟩; exact ⟨i + 1, by simp; exact h.1, h.2⟩
        · rintro ⟨i, h1, h2, h3⟩
          cases i with
          | zero => cases h2
          | succ i => exact ⟨i, by simpa using h1, h2, h3⟩
      · cases i with
        | zero =>
          show some _ = some (fent H (Hs 0) ([], []))
          rw [R.h0]; rfl
        | succ i => exact R.fs i (by simpa using hi)
end Go.Proofs.Ytpjkbjpjhkcofaa.Ev
