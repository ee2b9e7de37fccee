/- EV, part L: what an operation leaves alone. No program here. -/
import Derived.Test.YtpjkbjpjhkcofaaEvK
namespace Go.Proofs.Ytpjkbjpjhkcofaa.Ev
open Go Go.RowKit
set_option linter.unusedVariables false
set_option linter.unusedSimpArgs false
/-- What is not written stays. -/
def Fr (H H' : AH) (Wr : List Nat) : Prop := H.next ≤ H'.next ∧ ∀ id, id < H.next → id ∉ Wr → H'.get id = H.get id
theorem Fr.refl (H : AH) (Wr : List Nat) : Fr H H Wr := ⟨Nat.le_refl _, fun _ _ _ => rfl⟩
theorem Fr.new (H : AH) (b : Blk) (Wr : List Nat) : Fr H (H.new b) Wr := ⟨Nat.le_succ _, fun id h _ => by rw [AH.get_new, if_neg (by omega)]⟩
theorem killS_get (H : AH) (s : Option Nat) (id : Nat) (h : s ≠ some id) : (H.killS s).get id = H.get id := by
  cases s with
  | none => rfl
  | some m =>
    simp only [AH.killS, AH.kill]
    cases H.get m with
    | none => rfl
    | some c => simp only; rw [AH.get_put, if_neg (fun e => h (by rw [e]))]
theorem Fr.write [Th] (H : AH) (n : Nat) (s : Option Nat) (b : Blk) : Fr H ((H.killS s).put n b) (wr n s) := by
  refine ⟨by simp [AH.put, killS_next], fun id h hn => ?_⟩
  rw [wr_mem, not_or] at hn
  rw [AH.get_put, if_neg hn.1, killS_get _ _ _ hn.2]
theorem Fr.app [Th] (H : AH) (b z i e : Nat) (cs items : List Value) (sb : Option Nat) : Fr H (appH H b z i e cs items sb) (wr b sb) := by
  refine ⟨by rw [appH_next]; omega, fun id h hn => ?_⟩
  rw [wr_mem, not_or] at hn
  rw [appH_get, if_neg (by omega), if_neg hn.1, killS_get _ _ _ hn.2]
theorem Fr.put (H : AH) (n : Nat) (b : Blk) : Fr H (H.put n b) [n] := ⟨Nat.le_refl _, fun id _ hn => by rw [AH.get_put, if_neg (by simpa using hn)]⟩
section
variable {P : Program} {H H' : AH} {R Wr : List Nat} {env : List Value}
theorem agen_fr [Th] {o : Oper} {v : Value} (h : agen P env o H = some (v, H', R, Wr)) : Fr H H' Wr := by
  unfold agen at h
  split at h
  · split at h
    · split at h
      · simp only [Option.some.injEq, Prod.mk.injEq] at h
        obtain ⟨_, rfl, _, rfl⟩ := h
        exact Fr.refl _ _
      · cases h
    · cases h
  · cases h
theorem aload_fr [Th] {t : TypeId} {x v : Value} (h : aload P H t x = some (v, H', R, Wr)) : Fr H H' Wr := by
  unfold aload at h
  split at h
  · simp only [Option.bind_eq_bind, Option.bind_eq_some_iff] at h
    obtain ⟨⟨l, z, s⟩, hl, sz, hsz, b, hb, h⟩ := h
    cases b with
    | true =>
      simp only [if_true] at h
      split at h
      · simp only [Option.some.injEq, Prod.mk.injEq] at h
        obtain ⟨_, rfl, _, rfl⟩ := h
        exact Fr.refl _ _
      · cases h
    | false =>
      simp only [Bool.false_eq_true, if_false, Option.bind_eq_some_iff] at h
      obtain ⟨w, hw, h⟩ := h
      simp only [Option.some.injEq, Prod.mk.injEq] at h
      obtain ⟨_, rfl, _, rfl⟩ := h
      exact Fr.refl _ _
  · cases h
theorem astore_fr [Th] {t : TypeId} {x y v : Value} (h : astore P H t x y = some (v, H', R, Wr)) : Fr H H' Wr := by
  unfold astore at h
  split at h
  · simp only [Option.bind_eq_bind, Option.bind_eq_some_iff] at h
    obtain ⟨⟨l, z, s⟩, hl, sz, hsz, h⟩ := h
    simp only at h
    split at h
    · simp only [Option.some.injEq, Prod.mk.injEq] at h
      obtain ⟨_, rfl, _, rfl⟩ := h
      exact Fr.write _ _ _ _
    · cases h
  · cases h
theorem aappend_fr [Th] {ats : Array TypeId} {x y v : Value} (h : aappend P H ats x y = some (v, H', R, Wr)) : Fr H H' Wr := by
  unfold aappend at h
  simp only [Option.bind_eq_bind, Option.bind_eq_some_iff] at h
  obtain ⟨t, ht, u, hu, elem, hel, inf, hinf, zero, hzero, ⟨n, items, rd⟩, hsp, h⟩ := h
  simp only at h
  split at h
  case isFalse => cases h
  split at h
  · split at h
    · simp only [Option.some.injEq, Prod.mk.injEq] at h
      obtain ⟨_, rfl, _, rfl⟩ := h
      exact Fr.refl _ _
    · simp only [Option.some.injEq, Prod.mk.injEq] at h
      obtain ⟨_, rfl, _, rfl⟩ := h
      exact Fr.refl _ _
    · cases h
  · split at h
    · cases h
    · split at h
      · split at h
        · simp only [Option.some.injEq, Prod.mk.injEq] at h
          obtain ⟨_, rfl, _, rfl⟩ := h
          exact Fr.new _ _ _
        · cases h
      · simp only [Option.bind_eq_some_iff] at h
        obtain ⟨⟨cs, z, sb⟩, hcs, h⟩ := h
        simp only at h
        split at h
        · simp only [Option.some.injEq, Prod.mk.injEq] at h
          obtain ⟨_, rfl, _, rfl⟩ := h
          exact Fr.app _ _ _ _ _ _ _ _
        · cases h
      · cases h
theorem acopy_fr [Th] {ats : Array TypeId} {x y v : Value} (h : acopy P H ats x y = some (v, H', R, Wr)) : Fr H H' Wr := by
  unfold acopy at h
  simp only [Option.bind_eq_bind, Option.bind_eq_some_iff] at h
  obtain ⟨t, ht, elem, hel, sz, hsz, m, hm, h⟩ := h
  split at h
  · simp only [Option.bind_eq_some_iff] at h
    obtain ⟨⟨items, rd⟩, hit, h⟩ := h
    simp only [Option.some.injEq, Prod.mk.injEq] at h
    obtain ⟨_, rfl, _, rfl⟩ := h
    exact Fr.refl _ _
  · simp only [Option.bind_eq_some_iff] at h
    obtain ⟨⟨items, rd⟩, hit, ⟨cs, z, sb⟩, hcs, h⟩ := h
    simp only at h
    split at h
    · simp only [Option.some.injEq, Prod.mk.injEq] at h
      obtain ⟨_, rfl, _, rfl⟩ := h
      exact Fr.write _ _ _ _
    · cases h
  · cases h
theorem acompare_fr [Th] {l : List Value} {v : Value} (h : acompare H l = some (v, H', R, Wr)) : Fr H H' Wr := by
  unfold acompare at h
  split at h
  · simp only [Option.bind_eq_bind, Option.bind_eq_some_iff] at h
    obtain ⟨⟨bx, rx⟩, h1, ⟨by_, ry⟩, h2, h⟩ := h
    simp only [Option.some.injEq, Prod.mk.injEq] at h
    obtain ⟨_, rfl, _, rfl⟩ := h
    exact Fr.refl _ _
  · cases h
theorem ok_fr [Th] {u v : Value} {r : List Nat} (h : some (u, H, r, ([] : List Nat)) = some (v, H', R, Wr)) : Fr H H' Wr := by
  simp only [Option.some.injEq, Prod.mk.injEq] at h
  obtain ⟨_, rfl, _, rfl⟩ := h
  exact Fr.refl _ _
theorem new_fr [Th] {u v : Value} {b : Blk} {r : List Nat} (h : some (u, H.new b, r, ([] : List Nat)) = some (v, H', R, Wr)) : Fr H H' Wr := by
  simp only [Option.some.injEq, Prod.mk.injEq] at h
  obtain ⟨_, rfl, _, rfl⟩ := h
  exact Fr.new _ _ _
theorem amapUpdate_fr [Th] {t : TypeId} {k x m v : Value} (h : amapUpdate P H t k x m = some (v, H', R, Wr)) : Fr H H' Wr := by
  unfold amapUpdate at h
  split at h
  · simp only [Option.bind_eq_bind, Option.bind_eq_some_iff] at h
    obtain ⟨_, _, _, _, h⟩ := h
    split at h
    · simp only [Option.bind_eq_some_iff] at h
      obtain ⟨_, _, h⟩ := h
      split at h <;> (simp only [Option.some.injEq, Prod.mk.injEq] at h; obtain ⟨_, rfl, _, rfl⟩ := h; exact Fr.put _ _ _)
    · cases h
  · cases h
theorem adelete_fr [Th] {t : TypeId} {k m v : Value} (h : adelete P H t k m = some (v, H', R, Wr)) : Fr H H' Wr := by
  unfold adelete at h
  split at h
  · simp only [Option.bind_eq_bind, Option.bind_eq_some_iff] at h
    obtain ⟨_, _, _, _, h⟩ := h
    split at h
    · simp only [Option.bind_eq_some_iff] at h
      obtain ⟨_, _, h⟩ := h
      split at h <;> (simp only [Option.some.injEq, Prod.mk.injEq] at h; obtain ⟨_, rfl, _, rfl⟩ := h; exact Fr.put _ _ _)
    · cases h
  · cases h
theorem alookup_fr [Th] {t : TypeId} {k m v : Value} {b : Bool} (h : alookup P H t k b m = some (v, H', R, Wr)) : Fr H H' Wr := by
  unfold alookup at h
  simp only [Option.bind_eq_bind, Option.bind_eq_some_iff] at h
  obtain ⟨_, _, _, _, h⟩ := h
  split at h
  · split at h
    · exact ok_fr h
    · simp only [Option.bind_eq_some_iff] at h
      obtain ⟨_, _, _, _, h⟩ := h
      split at h <;> exact ok_fr h
    · cases h
  · cases h
theorem arangeMap_fr [Th] {m v : Value} (h : arangeMap H m = some (v, H', R, Wr)) : Fr H H' Wr := by
  unfold arangeMap at h
  split at h
  · simp only [Option.bind_eq_bind, Option.bind_eq_some_iff] at h
    obtain ⟨_, _, h⟩ := h
    exact new_fr h
  · cases h
theorem anextMap_fr [Th] {m v : Value} (h : anextMap H m = some (v, H', R, Wr)) : Fr H H' Wr := by
  unfold anextMap at h
  split at h
  · split at h
    · simp only [Option.bind_eq_bind, Option.bind_eq_some_iff] at h
      obtain ⟨_, _, h⟩ := h
      split at h
      · split at h
        · exact ok_fr h
        · simp only [Option.some.injEq, Prod.mk.injEq] at h
          obtain ⟨_, rfl, _, rfl⟩ := h
          exact Fr.put _ _ _
        · cases h
      · cases h
    · cases h
  · cases h
theorem aentry_fr [Th] {m v : Value} (h : aentry H m = some (v, H', R, Wr)) : Fr H H' Wr := by
  unfold aentry at h
  split at h
  · split at h
    · simp only [Option.bind_eq_bind, Option.bind_eq_some_iff] at h
      obtain ⟨_, _, _, _, _, _, h⟩ := h
      split at h
      · exact ok_fr h
      · cases h
    · cases h
  · cases h
theorem asorted_fr [Th] {xc : XC} {l : List Value} {v : Value} (h : asorted xc H l = some (v, H', R, Wr)) : Fr H H' Wr := by
  unfold asorted at h
  split at h
  · simp only [Option.bind_eq_bind, Option.bind_eq_some_iff] at h
    obtain ⟨_, _, h⟩ := h
    split at h
    · simp only [Option.bind_eq_some_iff] at h
      obtain ⟨_, _, _, _, h⟩ := h
      split at h
      · split at h
        · exact ok_fr h
        · exact new_fr h
      · cases h
    · cases h
  · cases h
theorem aclone_fr [Th] {l : List Value} {v : Value} (h : aclone H l = some (v, H', R, Wr)) : Fr H H' Wr := by
  unfold aclone at h
  split at h
  · exact ok_fr h
  · simp only [Option.bind_eq_bind, Option.bind_eq_some_iff] at h
    obtain ⟨_, _, h⟩ := h
    exact new_fr h
  · cases h
theorem orTell_fr [Th] {P : Program} {env : List Value} {o : Oper} {t : Option Value} {v : Value} (h : orTell (agen P env o H) t H = some (v, H', R, Wr)) : Fr H H' Wr := by
  rcases orTell_some h with h | ⟨w, _, hres⟩
  · exact agen_fr h
  · simp only [Prod.mk.injEq] at hres
    obtain ⟨_, rfl, _, rfl⟩ := hres
    exact Fr.refl _ _
def CallFr (call : CallF) : Prop := ∀ (f : FuncId) (args : List Value) (H : AH) (v : Value) (H' : AH) (R Wr : List Nat), call f args H = some (v, H', R, Wr) → Fr H H' Wr
theorem aop_fr [Th] {xc : XC} {call : CallF} (hcall : CallFr call) {o : Oper} {v : Value} (h : aop P xc call env o H = some (v, H', R, Wr)) : Fr H H' Wr := by
  have ok_eq : ∀ {u : Value} {r : List Nat}, some (u, H, r, ([] : List Nat)) = some (v, H', R, Wr) → Fr H H' Wr := fun h => by
    simp only [Option.some.injEq, Prod.mk.injEq] at h
    obtain ⟨_, rfl, _, rfl⟩ := h
    exact Fr.refl _ _
  have new_eq : ∀ {u : Value} {b : Blk} {r : List Nat}, some (u, H.new b, r, ([] : List Nat)) = some (v, H', R, Wr) → Fr H H' Wr := fun h => by
    simp only [Option.some.injEq, Prod.mk.injEq] at h
    obtain ⟨_, rfl, _, rfl⟩ := h
    exact Fr.new _ _ _
  unfold aop at h
  cases hop : o.op <;> simp only [hop] at h
  case load t x =>
    simp only [Option.bind_eq_bind, Option.bind_eq_some_iff] at h
    obtain ⟨u, hu, h⟩ := h
    exact aload_fr h
  case store t x y =>
    simp only [Option.bind_eq_bind, Option.bind_eq_some_iff] at h
    obtain ⟨u, hu, w, hw, h⟩ := h
    exact astore_fr h
  case unOp => exact agen_fr h
  case mapUpdate t m k x =>
    simp only [Option.bind_eq_bind, Option.bind_eq_some_iff] at h
    obtain ⟨kv, hk, xv, hx, mv, hm, h⟩ := h
    exact amapUpdate_fr h
  case lookup t m k b =>
    simp only [Option.bind_eq_bind, Option.bind_eq_some_iff] at h
    obtain ⟨kv, hk, mv, hm, h⟩ := h
    exact alookup_fr h
  case entry x =>
    simp only [Option.bind_eq_bind, Option.bind_eq_some_iff] at h
    obtain ⟨xv, hx, h⟩ := h
    exact aentry_fr h
  case range t x =>
    simp only [Option.bind_eq_bind, Option.bind_eq_some_iff] at h
    obtain ⟨u, hu, h⟩ := h
    split at h
    · exact new_eq h
    · exact arangeMap_fr h
    · cases h
  case makeMap t r =>
    cases r
    · exact new_eq h
    · cases h
  case next x isS =>
    cases isS
    · simp only [Option.bind_eq_bind, Option.bind_eq_some_iff] at h
      obtain ⟨u, hu, h⟩ := h
      exact anextMap_fr h
    · simp only [Option.bind_eq_bind, Option.bind_eq_some_iff] at h
      obtain ⟨u, hu, h⟩ := h
      split at h
      · split at h
        · split at h
          · simp only [Option.some.injEq, Prod.mk.injEq] at h
            obtain ⟨_, rfl, _, rfl⟩ := h
            exact Fr.put _ _ _
          · exact ok_eq h
        · cases h
      · cases h
  case call c =>
    cases c with
    | mk callee args ats =>
      cases callee
      case builtin b =>
        simp only at h
        cases b
        case len =>
          simp only [Option.bind_eq_bind, Option.bind_eq_some_iff] at h
          obtain ⟨u, hu, h⟩ := h
          split at h
          · exact ok_eq h
          · exact ok_eq h
          · exact agen_fr h
        case append =>
          simp only at h
          split at h
          · simp only [Option.bind_eq_bind, Option.bind_eq_some_iff] at h
            obtain ⟨u, hu, w, hw, h⟩ := h
            exact aappend_fr h
          · cases h
        case copy =>
          simp only at h
          split at h
          · simp only [Option.bind_eq_bind, Option.bind_eq_some_iff] at h
            obtain ⟨u, hu, w, hw, h⟩ := h
            exact acopy_fr h
          · cases h
        case delete =>
          simp only at h
          split at h
          · simp only [Option.bind_eq_bind, Option.bind_eq_some_iff] at h
            obtain ⟨t, ht, kv, hk, mv, hm, h⟩ := h
            exact adelete_fr h
          · cases h
        case min => simp only at h; exact agen_fr h
        case max => simp only at h; exact agen_fr h
        all_goals simp at h
      case value f =>
        simp only [Option.bind_eq_bind, Option.bind_eq_some_iff] at h
        obtain ⟨fv, hf, xs, hxs, ⟨g, l⟩, hgl, h⟩ := h
        simp only [Option.bind_eq_some_iff] at h
        obtain ⟨fn, hfn, h⟩ := h
        split at h
        · exact acompare_fr h
        · split at h
          · cases h
          · exact hcall _ _ _ _ _ _ _ h
      all_goals cases h
  case makeFunc fn first captured =>
    cases fn
    case func f =>
      simp only [Option.bind_eq_bind, Option.bind_eq_some_iff] at h
      obtain ⟨p, hpp, q, hq, h⟩ := h
      exact ok_eq h
    all_goals cases h
  all_goals repeat' (first | exact ok_fr h | exact new_fr h | exact agen_fr h | exact orTell_fr h | (cases h; done) | (obtain ⟨_, _, h⟩ := h) | (split at h) | (simp only [Option.bind_eq_bind, Option.bind_eq_some_iff] at h) | (simp only [] at h))
end
end Go.Proofs.Ytpjkbjpjhkcofaa.Ev
