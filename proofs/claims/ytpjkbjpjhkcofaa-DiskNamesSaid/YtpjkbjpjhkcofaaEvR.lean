/- EV, part R: an operation looks at its own operands alone. No program here. -/
import Derived.Test.YtpjkbjpjhkcofaaEvQ
import Derived.Orders
namespace Go.Proofs.Ytpjkbjpjhkcofaa.Ev
open Go Go.RowKit
set_option linter.unusedVariables false
set_option linter.unusedSimpArgs false
section
variable {P : Program} {xc : XC} {call : CallF} {H : AH} {env env' : List Value}
theorem cleanOp_congr {x : Operand} (h : aeval env x = aeval env' x) : cleanOp env x = cleanOp env' x := by
  unfold cleanOp
  rw [h]
theorem agen_congr [Th] {o : Oper} (h : ∀ x ∈ o.op.operands.toList, aeval env x = aeval env' x) : agen P env o H = agen P env' o H := by
  unfold agen
  have h1 : o.op.operands.toList.all (cleanOp env) = o.op.operands.toList.all (cleanOp env') := by
    rw [Bool.eq_iff_iff, List.all_eq_true, List.all_eq_true]
    constructor
    · intro hh x hx; rw [← cleanOp_congr (h x hx)]; exact hh x hx
    · intro hh x hx; rw [cleanOp_congr (h x hx)]; exact hh x hx
  rw [h1]
  split
  · rename_i hc
    rw [Bool.and_eq_true] at hc
    have hs : ∀ cs x, o.op ≠ .select cs x := fun cs x e => by rw [e] at hc; exact absurd hc.1 (by simp [notSel])
    rw [execOp_congr o hs (ρ := fun x => (aeval env x).getD undef) (ρ' := fun x => (aeval env' x).getD undef) (fun x hx => by show (aeval env x).getD undef = _; rw [h x (Array.mem_toList_iff.2 hx)])]
  · rfl
theorem aparts_congr : ∀ {ps : List (Nat × Operand)}, (∀ x ∈ ps.map (·.2), aeval env x = aeval env' x) → aparts env ps = aparts env' ps
  | [], _ => rfl
  | (i, x) :: r, h => by
    unfold aparts
    rw [h x (by simp), aparts_congr fun y hy => h y (by simp only [List.map_cons, List.mem_cons]; exact .inr hy)]
theorem mapM_congr' : ∀ {xs : List Operand}, (∀ x ∈ xs, aeval env x = aeval env' x) → xs.mapM (aeval env) = xs.mapM (aeval env')
  | [], _ => rfl
  | x :: xs, h => by
    rw [List.mapM_cons, List.mapM_cons, h x (by simp), mapM_congr' fun y hy => h y (by simp [hy])]
theorem optEval_congr {x : Option Operand} (h : ∀ y ∈ x.toList, aeval env y = aeval env' y) : optEval env x = optEval env' x := by
  cases x with
  | none => rfl
  | some y => show (aeval env y).map some = (aeval env' y).map some; rw [h y (by simp)]
theorem aop_congr [Th] {o : Oper} (h : ∀ x ∈ o.op.operands.toList, aeval env x = aeval env' x) : aop P xc call env o H = aop P xc call env' o H := by
  have hg : agen P env o H = agen P env' o H := agen_congr h
  unfold aop
  rw [hg]
  cases hop : o.op <;> rw [hop] at h
  case build t ps => simp only [Op.operands] at h; simp only [aparts_congr h]
  case buildSlice t n ps => simp only [Op.operands] at h; simp only [aparts_congr h]
  case makeFunc fn first captured =>
    simp only [Op.operands, Array.toList_append] at h
    cases fn
    all_goals try rfl
    dsimp only
    rw [mapM_congr' (env := env) (env' := env') fun x hx => h x (List.mem_append_left _ hx), mapM_congr' (env := env) (env' := env') fun x hx => h x (List.mem_append_right _ hx)]
  case slice t x lo hi mx =>
    simp only [Op.operands, Array.toList_append] at h
    simp only [h x (by simp), optEval_congr (env := env) (env' := env') (x := lo) (fun y hy => h y (by cases lo <;> simp_all)), optEval_congr (env := env) (env' := env') (x := hi) (fun y hy => h y (by cases hi <;> simp_all)), optEval_congr (env := env) (env' := env') (x := mx) (fun y hy => h y (by cases mx <;> simp_all))]
  case call c =>
    cases c with
    | mk callee args ats =>
      cases callee
      case builtin b =>
        simp only [Op.operands, Call.operands, Array.empty_append] at h
        have hd : args.toList.head?.bind (aeval env) = args.toList.head?.bind (aeval env') := by
          cases he : args.toList with
          | nil => rfl
          | cons y ys => exact h y (by rw [he]; simp)
        cases b
        case len => dsimp only; rw [hd]
        case append =>
          dsimp only
          split
          · rename_i s x he
            rw [h s (by rw [he]; simp), h x (by rw [he]; simp)]
          · rfl
        case copy =>
          dsimp only
          split
          · rename_i s x he
            rw [h s (by rw [he]; simp), h x (by rw [he]; simp)]
          · rfl
        case delete =>
          dsimp only
          split
          · rename_i s x he
            rw [h s (by rw [he]; simp), h x (by rw [he]; simp)]
          · rfl
        all_goals rfl
      case value f =>
        simp only [Op.operands, Call.operands, Array.toList_append] at h
        dsimp only
        rw [h f (by simp), mapM_congr' (env := env) (env' := env') fun x hx => h x (List.mem_append_right _ hx)]
      all_goals rfl
  case makeMap t r => cases r <;> rfl
  case next x s =>
    cases s
    · simp only [Op.operands] at h
      simp only [h x (by simp)]
    · simp only [Op.operands] at h
      simp only [h x (by simp)]
  all_goals first
    | rfl
    | (simp only [Op.operands] at h
       first
       | (simp only [h _ (List.mem_singleton.2 rfl)]; done)
       | (simp only [h _ (List.mem_cons.2 (.inl rfl)), h _ (List.mem_cons.2 (.inr (List.mem_cons.2 (.inl rfl))))]; done)
       | (simp only [h _ (List.mem_cons.2 (.inl rfl)), h _ (List.mem_cons.2 (.inr (List.mem_cons.2 (.inl rfl)))), h _ (List.mem_cons.2 (.inr (List.mem_cons.2 (.inr (List.mem_cons.2 (.inl rfl))))))]; done)
       | skip)
end
end Go.Proofs.Ytpjkbjpjhkcofaa.Ev
