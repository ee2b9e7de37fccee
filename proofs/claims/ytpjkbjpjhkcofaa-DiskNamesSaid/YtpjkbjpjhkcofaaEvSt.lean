/- EV, part St: a long closed run, told in pieces. No program here. -/
import Derived.Test.YtpjkbjpjhkcofaaEvB
namespace Go.Proofs.Ytpjkbjpjhkcofaa.Ev
open Go
set_option linter.unusedVariables false
set_option linter.unusedSimpArgs false
/-- Parts of a code. -/
def cl : Code → Code
  | .seq a _ => a
  | .block _ a => a
  | .loop a => a
  | .cond _ a _ => a
  | c => c
def cr : Code → Code
  | .seq _ b => b
  | .cond _ _ b => b
  | c => c
abbrev KO : List Nat := []
section
variable {P : Program} {xc : XC} {call : CallF} {n : Nat} {a b : Code} {env e1 e2 : List Value} {H H1 H2 : AH} {x : AX}
theorem step_seq (h1 : acode P xc call 0 n a env H = some (.normal, e1, H1, KO, KO)) (h2 : acode P xc call 0 n b e1 H1 = some (x, e2, H2, KO, KO)) : acode P xc call 0 (n + 1) (.seq a b) env H = some (x, e2, H2, KO, KO) := by
  simp only [acode, h1, h2, Option.bind_eq_bind, Option.bind_some]
  rfl
theorem step_block {id : Nat} (h1 : acode P xc call 0 n a env H = some (.exit id, e1, H1, KO, KO)) : acode P xc call 0 (n + 1) (.block id a) env H = some (.normal, e1, H1, KO, KO) := by
  simp only [acode, h1, Option.bind_eq_bind, Option.bind_some, if_true]
/-- So many rounds of a loop. -/
noncomputable def aiter (P : Program) (xc : XC) (call : CallF) (a : Code) : Nat → Nat → List Value → AH → Option (List Value × AH)
  | 0, _, env, H => some (env, H)
  | k + 1, n, env, H => match acode P xc call 0 (n - 1) a env H with
    | some (.normal, e1, H1, [], []) => aiter P xc call a k (n - 1) e1 H1
    | _ => none
theorem step_iter : ∀ (k n : Nat) (env : List Value) (H : AH), k ≤ n → aiter P xc call a k n env H = some (e1, H1) → acode P xc call 0 (n - k) (.loop a) e1 H1 = some (x, e2, H2, KO, KO) → acode P xc call 0 n (.loop a) env H = some (x, e2, H2, KO, KO)
  | 0, n, env, H, _, h, h2 => by
    simp only [aiter, Option.some.injEq, Prod.mk.injEq] at h
    obtain ⟨rfl, rfl⟩ := h
    exact h2
  | k + 1, n, env, H, hn, h, h2 => by
    unfold aiter at h
    split at h
    · rename_i e' H' he
      have h3 := step_iter k (n - 1) e' H' (by omega) h (by rw [show n - 1 - k = n - (k + 1) by omega]; exact h2)
      obtain ⟨m, rfl⟩ : ∃ m, n = m + 1 := ⟨n - 1, by omega⟩
      rw [Nat.add_sub_cancel] at he h3
      simp only [acode, he, h3, Option.bind_eq_bind, Option.bind_some]
      rfl
    · cases h
theorem step_loop (h1 : acode P xc call 0 n a env H = some (x, e1, H1, KO, KO)) (hx : x ≠ .normal) : acode P xc call 0 (n + 1) (.loop a) env H = some (x, e1, H1, KO, KO) := by
  simp only [acode, h1, Option.bind_eq_bind, Option.bind_some]
theorem step_seq' {q : Code} (hq : q = .seq (cl q) (cr q)) (h1 : acode P xc call 0 n (cl q) env H = some (.normal, e1, H1, KO, KO)) (h2 : acode P xc call 0 n (cr q) e1 H1 = some (x, e2, H2, KO, KO)) : acode P xc call 0 (n + 1) q env H = some (x, e2, H2, KO, KO) :=
  (congrArg (fun c => acode P xc call 0 (n + 1) c env H) hq).trans (step_seq h1 h2)
theorem step_block' {q : Code} {id : Nat} (hq : q = .block id (cl q)) (h1 : acode P xc call 0 n (cl q) env H = some (.exit id, e1, H1, KO, KO)) : acode P xc call 0 (n + 1) q env H = some (.normal, e1, H1, KO, KO) :=
  (congrArg (fun c => acode P xc call 0 (n + 1) c env H) hq).trans (step_block h1)
theorem step_iter' {q : Code} (hq : q = .loop (cl q)) (k : Nat) (h : aiter P xc call (cl q) k (n + k) env H = some (e1, H1)) (h2 : acode P xc call 0 n q e1 H1 = some (x, e2, H2, KO, KO)) : acode P xc call 0 (n + k) q env H = some (x, e2, H2, KO, KO) :=
  (congrArg (fun c => acode P xc call 0 (n + k) c env H) hq).trans (step_iter k (n + k) env H (Nat.le_add_left _ _) h (by
    rw [Nat.add_sub_cancel]
    exact (congrArg (fun c => acode P xc call 0 n c e1 H1) hq).symm.trans h2))
theorem step_loop' {q : Code} (hq : q = .loop (cl q)) (h1 : acode P xc call 0 n (cl q) env H = some (x, e1, H1, KO, KO)) (hx : x ≠ .normal) : acode P xc call 0 (n + 1) q env H = some (x, e1, H1, KO, KO) :=
  (congrArg (fun c => acode P xc call 0 (n + 1) c env H) hq).trans (step_loop h1 hx)
theorem whole {f d : Nat} {fn : Func} {c : Code} {rs : List Nat} (hf : P.funcs[f]? = some fn) (hc : fn.body = some c) (hn : (fn.name == "runtime.NumGoroutine") = false) (hs : f ≠ xc.sorted) (hcl : f ≠ xc.clone)
    (h : acode P xc (acall P xc d) 0 100000 c (List.replicate fn.ntmps undef) AH.empty = some (.ret, e1, H1, KO, KO)) (hr : aresults P e1 H1 fn.results.toList = some ([.bool true], rs)) : isTrue (acall P xc (d + 1) f [] AH.empty) = true := by
  have hi : ∀ l : List Nat, insAll 0 l [] = [] := fun l => by
    induction l with
    | nil => rfl
    | cons y l ih => show ins 0 y (insAll 0 l []) = []; rw [ih]; rfl
  have h' : acode P xc (acall P xc d) AH.empty.next 100000 c ([] ++ List.replicate (fn.ntmps - ([] : List Value).length) undef) AH.empty = some (.ret, e1, H1, KO, KO) := h
  simp only [acall, hf, hc, hn, hs, hcl, h', hr, Option.bind_eq_bind, Option.bind_some, Bool.false_eq_true, if_false]
  rw [show insAll AH.empty.next rs KO = [] from hi rs]
  rfl
end
def bodyOf (fn : Func) : Code := (fn.body).getD .skip
abbrev vu (n : Nat) : Value := .int .u8 (.ofNat n)
abbrev vi (n : Nat) : Value := .int .i64 (.ofNat n)
abbrev vq (n : Nat) : Value := .int .u64 (.ofNat n)
abbrev vp (b k : Nat) : Value := .pointer (some ⟨b, k, none⟩)
abbrev vs (b k n c : Nat) : Value := .slice (some ⟨b, k, none⟩) n c
abbrev vx : Value := .tuple #[]
abbrev vt (b : Bool) : Value := .bool b
abbrev tl : Tr Blk := .leaf
abbrev tn (v : Option Blk) (l r : Tr Blk) : Tr Blk := .node v l r
abbrev bc (l : List Value) (z : Nat) (s : Option Nat) : Option Blk := some ⟨.cells l z, true, s⟩
abbrev bd (l : List Value) (z : Nat) (s : Option Nat) : Option Blk := some ⟨.cells l z, false, s⟩
end Go.Proofs.Ytpjkbjpjhkcofaa.Ev
