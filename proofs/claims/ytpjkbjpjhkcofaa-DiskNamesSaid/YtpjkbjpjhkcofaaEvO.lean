/- EV, part O: code and calls. No program here. -/
import Derived.Test.YtpjkbjpjhkcofaaEvN
namespace Go.Proofs.Ytpjkbjpjhkcofaa.Ev
open Go Go.RowKit
set_option linter.unusedVariables false
set_option linter.unusedSimpArgs false
section
variable {P : Program} {xc : XC} {call : CallF} {p : Nat}
theorem acode_sound [Th] (hcall : CallOk P call) (hfr : CallFr call) (hcmp : CmpOk P xc) (hdr : DrawnOk P xc) : ∀ (n : Nat) (c : Code) (env : List Value) (H : AH) {x : AX} {e2 : List Value} {H2 : AH} {r w : List Nat}, acode P xc call p n c env H = some (x, e2, H2, r, w) →
    ∀ (ρ : Rho) (D : Nat → Prop) (G : Nat → Option Blk) (W : World) (T : Nat → Prop) (a : Act) (Q : Exit → Act → World → Prop), VRs ρ D env a.tmps.toList → PreC p ρ D G W T H H2 r w →
      (∀ ρ' a' W', a'.defers = a.defers → PostC p ρ ρ' D G W T H H2 w e2 a'.tmps.toList W' → Q x.to a' W') → c.wp P Q a W ∧ ∀ b, c = .loop b → Code.rounds P b Q n a W
  | 0, c, env, H, x, e2, H2, r, w, h, ρ, D, G, W, T, a, Q, he, hp, hQ => by cases h
  | n + 1, c, env, H, x, e2, H2, r, w, h, ρ, D, G, W, T, a, Q, he, hp, hQ => by
    unfold acode at h
    split at h
    · simp only [Option.some.injEq, Prod.mk.injEq] at h
      obtain ⟨rfl, rfl, rfl, rfl, rfl⟩ := h
      exact ⟨wp_skip (hQ ρ a W rfl (PostC.same hp he)), fun b hb => (by cases hb)⟩
    · simp only [Option.bind_eq_bind, Option.bind_eq_some_iff] at h
      obtain ⟨⟨e3, H3, r2, w2⟩, h2, h⟩ := h
      simp only [Option.some.injEq, Prod.mk.injEq] at h
      obtain ⟨rfl, rfl, rfl, rfl, rfl⟩ := h
      exact ⟨wp_region_list (aops_sound hcall hfr hcmp _ _ _ h2 ρ D G W T a he hp hQ), fun b hb => (by cases hb)⟩
    · simp only [Option.bind_eq_bind, Option.bind_eq_some_iff] at h
      obtain ⟨⟨e3, H3, r2, w2, fs⟩, h2, h⟩ := h
      simp only at h
      split at h
      · rename_i hfree
        simp only [Option.some.injEq, Prod.mk.injEq] at h
        obtain ⟨rfl, rfl, rfl, rfl, rfl⟩ := h
        exact ⟨hdr call p _ _ _ _ _ _ _ _ _ hcall hfr h2 hfree ρ D G W T a Q he hp hQ, fun b hb => (by cases hb)⟩
      · cases h
    · simp only [Option.bind_eq_bind, Option.bind_eq_some_iff] at h
      obtain ⟨⟨x1, e1, H1, r1, w1⟩, h1, h⟩ := h
      have f1 := acode_fr hfr n _ _ _ hp.le h1
      simp only at h
      split at h
      · simp only [Option.bind_eq_bind, Option.bind_eq_some_iff] at h
        obtain ⟨⟨y, e3, H3, r2, w2⟩, h2, h⟩ := h
        simp only [Option.some.injEq, Prod.mk.injEq] at h
        obtain ⟨rfl, rfl, rfl, rfl, rfl⟩ := h
        have f2 := acode_fr hfr n _ _ _ (Nat.le_trans hp.le f1.le) h2
        refine ⟨wp_seq (acode_sound hcall hfr hcmp hdr n _ _ _ h1 ρ D G W T a _ he (hp.first f2.le (fun id h => insAll_mem.2 (.inl ⟨h, f1.r id h⟩)) fun id h => insAll_mem.2 (.inl ⟨h, f1.w id h⟩)) fun ρ' a' W' hd hpost => ?_).1, fun b hb => (by cases hb)⟩
        refine (acode_sound hcall hfr hcmp hdr n _ _ _ h2 ρ' _ _ W' _ a' Q hpost.env (hp.second f1 f2 (fun id h => insAll_mem.2 (.inr h)) (fun id h => insAll_mem.2 (.inr h)) hpost) fun ρ'' a'' W'' hd2 hpost2 => hQ ρ'' a'' W'' (by rw [hd2, hd]) (hpost.comp f1 f2 (fun id => ?_) hpost2)).1
        rw [insAll_mem]
        constructor
        · rintro (h | h); exact .inl h.1; exact .inr h
        · rintro (h | h); exact .inl ⟨h, f1.w id h⟩; exact .inr h
      · rename_i hx
        simp only [Option.some.injEq, Prod.mk.injEq] at h
        obtain ⟨rfl, rfl, rfl, rfl, rfl⟩ := h
        refine ⟨wp_seq (acode_sound hcall hfr hcmp hdr n _ _ _ h1 ρ D G W T a _ he hp fun ρ' a' W' hd hpost => ?_).1, fun b hb => (by cases hb)⟩
        have := hQ ρ' a' W' hd hpost
        cases x1
        · exact absurd rfl hx
        · exact this
        · exact this
    · simp only [Option.bind_eq_bind, Option.bind_eq_some_iff] at h
      obtain ⟨u, hu, h⟩ := h
      have hv := aeval_sound he hu
      split at h
      · exact ⟨wp_cond_true (VR.flat_eq hv rfl) (acode_sound hcall hfr hcmp hdr n _ _ _ h ρ D G W T a Q he hp hQ).1, fun b hb => (by cases hb)⟩
      · exact ⟨wp_cond_false (VR.flat_eq hv rfl) (acode_sound hcall hfr hcmp hdr n _ _ _ h ρ D G W T a Q he hp hQ).1, fun b hb => (by cases hb)⟩
      · cases h
    · rename_i id b
      simp only [Option.bind_eq_bind, Option.bind_eq_some_iff] at h
      obtain ⟨⟨x1, e1, H1, r1, w1⟩, h1, h⟩ := h
      simp only at h
      split at h
      · rename_i j
        simp only [Option.some.injEq, Prod.mk.injEq] at h
        obtain ⟨rfl, rfl, rfl, rfl, rfl⟩ := h
        refine ⟨wp_block (acode_sound hcall hfr hcmp hdr n _ _ _ h1 ρ D G W T a _ he hp fun ρ' a' W' hd hpost => ?_).1, fun b hb => (by cases hb)⟩
        have := hQ ρ' a' W' hd hpost
        show Exit.inBlock id Q (.exit j) a' W'
        simp only [Exit.inBlock]
        split
        · rename_i hj; rw [if_pos hj] at this; exact this
        · rename_i hj; rw [if_neg hj] at this; exact this
      · rename_i hx
        simp only [Option.some.injEq, Prod.mk.injEq] at h
        obtain ⟨rfl, rfl, rfl, rfl, rfl⟩ := h
        refine ⟨wp_block (acode_sound hcall hfr hcmp hdr n _ _ _ h1 ρ D G W T a _ he hp fun ρ' a' W' hd hpost => ?_).1, fun b hb => (by cases hb)⟩
        have := hQ ρ' a' W' hd hpost
        cases x1
        · exact this
        · exact absurd rfl (hx _)
        · exact this
    · rename_i b
      suffices hr : Code.rounds P b Q (n + 1) a W from ⟨wp_loop_rounds (n + 1) hr, fun b' hb => (by cases hb; exact hr)⟩
      rw [rounds_succ]
      simp only [Option.bind_eq_bind, Option.bind_eq_some_iff] at h
      obtain ⟨⟨x1, e1, H1, r1, w1⟩, h1, h⟩ := h
      have f1 := acode_fr hfr n _ _ _ hp.le h1
      simp only at h
      split at h
      · simp only [Option.bind_eq_bind, Option.bind_eq_some_iff] at h
        obtain ⟨⟨y, e3, H3, r2, w2⟩, h2, h⟩ := h
        simp only [Option.some.injEq, Prod.mk.injEq] at h
        obtain ⟨rfl, rfl, rfl, rfl, rfl⟩ := h
        have f2 := acode_fr hfr n _ _ _ (Nat.le_trans hp.le f1.le) h2
        refine (acode_sound hcall hfr hcmp hdr n _ _ _ h1 ρ D G W T a _ he (hp.first f2.le (fun id h => insAll_mem.2 (.inl ⟨h, f1.r id h⟩)) fun id h => insAll_mem.2 (.inl ⟨h, f1.w id h⟩)) fun ρ' a' W' hd hpost => ?_).1
        refine (acode_sound hcall hfr hcmp hdr n _ _ _ h2 ρ' _ _ W' _ a' Q hpost.env (hp.second f1 f2 (fun id h => insAll_mem.2 (.inr h)) (fun id h => insAll_mem.2 (.inr h)) hpost) fun ρ'' a'' W'' hd2 hpost2 => hQ ρ'' a'' W'' (by rw [hd2, hd]) (hpost.comp f1 f2 (fun id => ?_) hpost2)).2 b rfl
        rw [insAll_mem]
        constructor
        · rintro (h | h); exact .inl h.1; exact .inr h
        · rintro (h | h); exact .inl ⟨h, f1.w id h⟩; exact .inr h
      · rename_i hx
        simp only [Option.some.injEq, Prod.mk.injEq] at h
        obtain ⟨rfl, rfl, rfl, rfl, rfl⟩ := h
        refine (acode_sound hcall hfr hcmp hdr n _ _ _ h1 ρ D G W T a _ he hp fun ρ' a' W' hd hpost => ?_).1
        have := hQ ρ' a' W' hd hpost
        cases x1
        · exact absurd rfl hx
        · exact this
        · exact this
    · simp only [Option.some.injEq, Prod.mk.injEq] at h
      obtain ⟨rfl, rfl, rfl, rfl, rfl⟩ := h
      exact ⟨wp_exit (hQ ρ a W rfl (PostC.same hp he)), fun b hb => (by cases hb)⟩
    · simp only [Option.some.injEq, Prod.mk.injEq] at h
      obtain ⟨rfl, rfl, rfl, rfl, rfl⟩ := h
      exact ⟨wp_ret (hQ ρ a W rfl (PostC.same hp he)), fun b hb => (by cases hb)⟩
    · cases h
end
end Go.Proofs.Ytpjkbjpjhkcofaa.Ev
