/- EV, part S: a region in any order, by an invariant over what has come up. No program here. -/
import Derived.Test.YtpjkbjpjhkcofaaEvR
import Derived.Test.YtpjkbjpjhkcofaaRG
namespace Go.Proofs.Ytpjkbjpjhkcofaa.Ev
open Go Go.RowKit Go.Proofs.Ytpjkbjpjhkcofaa.RG
set_option linter.unusedVariables false
set_option linter.unusedSimpArgs false
theorem any_of_inv {P : Program} {ops : Array Oper} {Q : Exit → Act → World → Prop} {md : Region.Mode} {I : Array Bool → Act → World → Prop}
    (hlow : ∀ i o, ops[i]? = some o → ∀ e ∈ o.after, Region.binds md e = true → e.on < i)
    (hstep : ∀ (L : Array Bool) (a : Act) (w : World) (i : Nat) (o : Oper), L.size = ops.size → I L a w → ops[i]? = some o → L.getD i true = false → (∀ e ∈ o.after, Region.binds md e = true → L.getD e.on false = true) → wpOp P ops Q i (I (L.setIfInBounds i true)) a w)
    (hend : ∀ (L : Array Bool) (a : Act) (w : World), L.size = ops.size → (∀ i, i < ops.size → L.getD i true = true) → I L a w → Q .normal a w) :
    ∀ (u : Nat) (L : Array Bool) (a : Act) (w : World), L.size = ops.size → unl L ops.size = u → I L a w → wpAny P md ops Q u L a w := by
  have hall : ∀ L : Array Bool, L.size = ops.size → Region.ready md ops L = [] → ∀ i, i < ops.size → L.getD i true = true := by
    intro L hs hr i
    induction i using Nat.strongRecOn with
    | _ i ih =>
      intro hi
      have hget : ops[i]? = some (ops[i]'hi) := Array.getElem?_eq_getElem hi
      cases hb : L.getD i true with
      | true => rfl
      | false =>
        have : i ∈ Region.ready md ops L := mem_ready.2 ⟨hb, _, hget, fun e he hbe => by
          have hlt := hlow i _ hget e he hbe
          have h1 := ih e.on hlt (by omega)
          have : e.on < L.size := by omega
          simp [this] at h1 ⊢
          exact h1⟩
        rw [hr] at this
        cases this
  intro u
  induction u with
  | zero =>
    intro L a w hs hu hI
    have h1 := unl_zero _ hu
    refine ⟨?_, hend L a w hs h1 hI⟩
    cases hr : Region.ready md ops L with
    | nil => rfl
    | cons i rest =>
      have hm : i ∈ Region.ready md ops L := by rw [hr]; simp
      obtain ⟨hb, o, ho, _⟩ := mem_ready.1 hm
      have := h1 i (Array.getElem?_eq_some_iff.1 ho).1
      rw [hb] at this
      cases this
  | succ u ih =>
    intro L a w hs hu hI
    refine ⟨fun hr => hend L a w hs (hall L hs hr) hI, fun i hi => ?_⟩
    obtain ⟨hb, o, ho, hafter⟩ := mem_ready.1 hi
    have hlt := (Array.getElem?_eq_some_iff.1 ho).1
    refine wpOp_mono (fun a' w' hI' => ih _ a' w' (by simp [hs]) ?_ hI') (hstep L a w i o hs hI ho hb hafter)
    have := unl_set (by omega) hb ops.size hlt
    omega
end Go.Proofs.Ytpjkbjpjhkcofaa.Ev
