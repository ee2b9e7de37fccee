/- EV, part Q: calls. No program here. -/
import Derived.Test.YtpjkbjpjhkcofaaEvO
namespace Go.Proofs.Ytpjkbjpjhkcofaa.Ev
open Go Go.RowKit
set_option linter.unusedVariables false
set_option linter.unusedSimpArgs false
section
variable {P : Program} {xc : XC} {call : CallF} {p : Nat} {ρ ρ' : Rho} {D : Nat → Prop} {G : Nat → Option Blk} {W : World} {T : Nat → Prop} {H H' : AH} {R Wr : List Nat} {env : List Value}
theorem aload_same {t : TypeId} {x v : Value} (h : aload P H t x = some (v, H', R, Wr)) : H' = H ∧ Wr = [] := by
  unfold aload at h
  split at h
  · simp only [Option.bind_eq_bind, Option.bind_eq_some_iff] at h
    obtain ⟨⟨l, z, s⟩, hl, sz, hsz, b, hb, h⟩ := h
    cases b with
    | true =>
      simp only [if_true] at h
      split at h
      · simp only [Option.some.injEq, Prod.mk.injEq] at h
        obtain ⟨_, rfl, _, rfl⟩ := h
        exact ⟨rfl, rfl⟩
      · cases h
    | false =>
      simp only [Bool.false_eq_true, if_false, Option.bind_eq_some_iff] at h
      obtain ⟨w, hw, h⟩ := h
      simp only [Option.some.injEq, Prod.mk.injEq] at h
      obtain ⟨_, rfl, _, rfl⟩ := h
      exact ⟨rfl, rfl⟩
  · cases h
def packR : List Value → Value
  | [v] => v
  | vs => .tuple ⟨vs⟩
def resG (tmps : Array Value) : ResultVar → Sem Value
  | .tmp t => pure (tmps.getD t undef)
  | .cell a t => do loadVar t (← asAddr (tmps.getD a undef))
theorem results_run {fn : Func} {tmps : Array Value} {vs : List Value} (h : (fn.results.toList.mapM (resG tmps)).run P W = .ok vs W) :
    (results fn tmps).run P W = .ok (packR vs) W := by
  have e : results fn tmps = (do let vs ← fn.results.mapM (resG tmps); pure (if h : vs.size = 1 then vs[0] else .tuple vs)) := by
    unfold results
    congr 1
  rw [e, Array.mapM_eq_mapM_toList]
  simp only [Sem.run_bind, Sem.run_map, map_eq_pure_bind, bind_assoc, pure_bind, h, Result.andThen_ok, Sem.run_pure]
  match vs with
  | [] => rfl
  | [v] => rfl
  | _ :: _ :: _ => rfl
theorem aresults_sound [Th] {tmps : Array Value} (he : VRs ρ D env tmps.toList) (hr : HR ρ D G W T) : ∀ {l : List ResultVar} {vs : List Value} {rs : List Nat}, aresults P env H l = some (vs, rs) → (∀ id ∈ rs, id < H.next → T id ∧ G id = H.get id) →
    (∀ id ∈ rs, id < H.next) ∧ ∃ vs', VRs ρ D vs vs' ∧ (l.mapM (resG tmps)).run P W = .ok vs' W
  | [], vs, rs, h, hg => by
    simp only [aresults, Option.some.injEq, Prod.mk.injEq] at h
    obtain ⟨rfl, rfl⟩ := h
    exact ⟨fun _ h => (by cases h), [], .nil, rfl⟩
  | x :: l, vs, rs, h, hg => by
    simp only [aresults, Option.bind_eq_bind, Option.bind_eq_some_iff] at h
    obtain ⟨⟨v, r⟩, hv, ⟨us, qs⟩, hus, h⟩ := h
    simp only [Option.some.injEq, Prod.mk.injEq] at h
    obtain ⟨rfl, rfl⟩ := h
    obtain ⟨hlt, us', hus', hrun⟩ := aresults_sound he hr hus fun id hid => hg id (List.mem_append_right _ hid)
    have get : ∀ t : Nat, VR ρ D (env.getD t undef) (tmps.getD t undef) := fun t => by
      have := VRs.getD t he
      simpa [Array.getD_eq_getD_getElem?, List.getD_eq_getElem?_getD] using this
    have key : (∀ id ∈ r, id < H.next) ∧ ∃ v', VR ρ D v v' ∧ (resG tmps x).run P W = .ok v' W := by
      cases x with
      | tmp t =>
        simp only [aresult, Option.some.injEq, Prod.mk.injEq] at hv
        obtain ⟨rfl, rfl⟩ := hv
        exact ⟨fun _ h => (by cases h), _, get t, rfl⟩
      | cell a t =>
        simp only [aresult, Option.bind_eq_bind, Option.bind_eq_some_iff] at hv
        obtain ⟨⟨u, H1, r1, w1⟩, hl, hv⟩ := hv
        simp only at hv
        split at hv
        · rename_i hlt
          simp only [Option.some.injEq, Prod.mk.injEq] at hv
          obtain ⟨rfl, rfl⟩ := hv
          obtain ⟨rfl, rfl⟩ := aload_same hl
          have hlt := allLt_mem hlt
          have hg' : ∀ id ∈ r1, T id ∧ G id = H1.get id := fun id hid => hg id (List.mem_append_left _ hid) (hlt id hid)
          have hp : Pre ρ D G W T H1 H1 r1 [] := ⟨hr, fun id h => h.elim (fun h => (hg' id h).1) fun h => (by cases h), fun id h => h.elim (fun h => (hg' id h).2) fun h => (by cases h), fun id h1 h2 => (by omega)⟩
          obtain ⟨_, _, v', hvr, _, b, i, hptr, hload⟩ := load_sound hl hp (get a)
          refine ⟨hlt, v', hvr, ?_⟩
          simp only [resG, hptr, asAddr, Sem.run_bind, Sem.run_pure, Result.andThen_ok]
          exact hload
        · cases hv
    obtain ⟨hlt1, v', hvr, hrun1⟩ := key
    refine ⟨fun id hid => (List.mem_append.1 hid).elim (hlt1 id) (hlt id), v' :: us', .cons hvr hus', ?_⟩
    simp only [List.mapM_cons, Sem.run_bind, hrun1, hrun, Result.andThen_ok, Sem.run_pure]
theorem acall_ok [Th] (hcmp : CmpOk P xc) (hdr : DrawnOk P xc) : ∀ d : Nat, CallOk P (acall P xc d) ∧ CallFr (acall P xc d)
  | 0 => ⟨fun f args H v H' R Wr h => (by simp [acall] at h), fun f args H v H' R Wr h => (by simp [acall] at h)⟩
  | d + 1 => by
    obtain ⟨ihc, ihf⟩ := acall_ok hcmp hdr d
    have form : ∀ (f : FuncId) (args : List Value) (H : AH) (v : Value) (H' : AH) (R Wr : List Nat), acall P xc (d + 1) f args H = some (v, H', R, Wr) →
        (∃ fn, P.funcs[f]? = some fn ∧ f = xc.sorted ∧ asorted xc H args = some (v, H', R, Wr)) ∨ (∃ fn, P.funcs[f]? = some fn ∧ f = xc.clone ∧ aclone H args = some (v, H', R, Wr)) ∨
        ∃ fn c x env r vs rs, P.funcs[f]? = some fn ∧ fn.body = some c ∧ acode P xc (acall P xc d) H.next 100000 c (args ++ List.replicate (fn.ntmps - args.length) undef) H = some (x, env, H', r, Wr) ∧
          (x = .normal ∨ x = .ret) ∧ aresults P env H' fn.results.toList = some (vs, rs) ∧ v = (packR vs) ∧ R = insAll H.next rs r := by
      intro f args H v H' R Wr h
      unfold acall at h
      simp only [Option.bind_eq_bind, Option.bind_eq_some_iff] at h
      obtain ⟨fn, hfn, h⟩ := h
      split at h
      · rename_i hs
        exact .inl ⟨fn, hfn, hs, h⟩
      split at h
      · rename_i hs
        exact .inr (.inl ⟨fn, hfn, hs, h⟩)
      refine .inr (.inr ?_)
      simp only [Option.bind_eq_some_iff] at h
      obtain ⟨c, hc, h⟩ := h
      split at h
      · cases h
      · simp only [Option.bind_eq_some_iff] at h
        obtain ⟨⟨x, env, H1, r, w⟩, hcode, h⟩ := h
        simp only at h
        split at h
        · cases h
        · rename_i hx
          simp only [Option.bind_eq_some_iff, Option.some.injEq, Prod.mk.injEq] at h
          obtain ⟨⟨vs, rs⟩, hrs, h1, rfl, rfl, rfl⟩ := h
          refine ⟨fn, c, x, env, r, vs, rs, hfn, hc, hcode, ?_, hrs, ?_, rfl⟩
          · cases x with
            | normal => exact .inl rfl
            | ret => exact .inr rfl
            | exit j => exact absurd rfl (hx j)
          · rw [← h1]; unfold packR; rfl
    constructor
    · intro f args H v H' R Wr h ρ D G W T args' ha hp
      rcases form _ _ _ _ _ _ _ h with ⟨fn, hfn, rfl, h0⟩ | ⟨fn, hfn, rfl, h0⟩ | ⟨fn, c, x, env, r, vs, rs, hfn, hc, hcode, hx, hrs, rfl, rfl⟩
      · exact hcmp.sorted fn hfn args H v H' R Wr h0 ρ D G W T args' ha hp
      · exact hcmp.clone fn hfn args H v H' R Wr h0 ρ D G W T args' ha hp
      have f1 := acode_fr (p := H.next) ihf _ _ _ _ (Nat.le_refl _) hcode
      refine calls_of_wp hfn hc ?_
      refine (acode_sound (p := H.next) ihc ihf hcmp hdr _ _ _ _ hcode ρ D G W T _ _ ?_ ⟨Nat.le_refl _, hp.hr, fun id h => ?_, hp.fresh⟩ fun ρ' a' W' hd hpost => ?_).1
      · have hl : args'.size = args.length := by rw [← ha.length]; simp
        simp only [Array.toList_append, Array.toList_replicate, hl]
        exact ha.append (VRs.replicate (.tuple .nil) _)
      · rcases h with h | h | h
        · exact ⟨hp.tr id (.inl (insAll_mem.2 (.inr h))), hp.g id (.inl (insAll_mem.2 (.inr h)))⟩
        · exact ⟨hp.tr id (.inr h), hp.g id (.inr h)⟩
        · omega
      · obtain ⟨hlt, vs', hvs, hrun⟩ := aresults_sound (P := P) hpost.env hpost.hr hrs fun id hid hlt => by
          by_cases h1 : id < H.next
          · have hR : id ∈ insAll H.next rs r := insAll_mem.2 (.inl ⟨hid, h1⟩)
            refine ⟨.inl (hp.tr id (.inl hR)), ?_⟩
            unfold Gc
            split
            · rfl
            · rename_i hn
              rw [hp.g id (.inl hR), f1.fr id h1 fun h => hn (.inl h)]
          · exact ⟨.inr (by omega), by unfold Gc; rw [if_pos (.inr (by omega))]⟩
        have hres := results_run hrun
        have hvr : VR ρ' (Dn D H H') (packR vs) (packR vs') := by
          cases hvs with
          | nil => exact .tuple .nil
          | cons h1 h2 =>
            cases h2 with
            | nil => exact h1
            | cons h3 h4 => exact .tuple (.cons h1 (.cons h3 h4))
        have hP : Post ρ D G W T H H' Wr (packR vs) (packR vs') W' := ⟨ρ', hpost.ag, hvr, hpost.hr, hpost.below⟩
        rcases hx with rfl | rfl
        · exact ⟨hd, _, hres, _, rfl, hP⟩
        · exact ⟨hd, _, hres, _, rfl, hP⟩
    · intro f args H v H' R Wr h
      rcases form _ _ _ _ _ _ _ h with ⟨fn, hfn, rfl, h0⟩ | ⟨fn, hfn, rfl, h0⟩ | ⟨fn, c, x, env, r, vs, rs, hfn, hc, hcode, hx, hrs, rfl, rfl⟩
      · exact asorted_fr h0
      · exact aclone_fr h0
      have f1 := acode_fr (p := H.next) ihf _ _ _ _ (Nat.le_refl _) hcode
      exact ⟨f1.le, f1.fr⟩
end
end Go.Proofs.Ytpjkbjpjhkcofaa.Ev
