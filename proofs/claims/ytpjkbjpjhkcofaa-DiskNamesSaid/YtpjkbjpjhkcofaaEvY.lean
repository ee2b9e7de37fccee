/- EV, part Y: one more operation of a drawn region. No program here. -/
import Derived.Test.YtpjkbjpjhkcofaaEvX
namespace Go.Proofs.Ytpjkbjpjhkcofaa.Ev
open Go Go.RowKit
set_option linter.unusedVariables false
set_option linter.unusedSimpArgs false
section
variable {P : Program} {xc : XC} {call : CallF} {p : Nat} {ops : Array Oper} {env e2 : List Value} {H H2 : AH} {r w : List Nat} {fs : List Ent} {es : Nat → List Value} {Hs : Nat → AH} {vs : Nat → Value} {ft : Nat → List Nat × List Nat}
  {ρ ρ' : Rho} {D : Nat → Prop} {G G' : Nat → Option Blk} {W w1 : World} {T : Nat → Prop} {a0 a : Act} {L : Array Bool} {env' : List Value}
theorem Inv.pre [Th] (hfr : CallFr call) (R : Run P xc call p ops ops.toList env H e2 H2 r w fs es Hs vs ft) (hp : PreC p ρ D G W T H H2 r w) (hf : FreeOk ops fs) (I : Inv p ops es Hs vs ft ρ D G W T a0 L a w1 ρ' G' env')
    {j : Nat} {o : Oper} (ho : ops[j]? = some o) (hnot : ¬ on L j) (hr : ∀ e ∈ o.after, Region.binds .any e = true → on L e.on) : Pre ρ' (DL D Hs ops.size L) G' w1 (DL T Hs ops.size L) (Hs j) (Hs (j + 1)) (ft j).1 (ft j).2 := by
  have hj : j < ops.size := (Array.getElem?_eq_some_iff.1 ho).1
  have hlen : ops.toList.length = ops.size := by simp
  refine ⟨I.hr, fun id h => (I.touch hfr R hp hf ho hnot hr h).1, fun id h => (I.touch hfr R hp hf ho hnot hr h).2, fun id h1 h2 hd => ?_⟩
  rcases hd with hd | ⟨i, hi, hL, h3, h4⟩
  · have e1 := R.mono hfr (Nat.zero_le j) (by omega)
    have e2 := R.mono hfr (i := j + 1) (j := ops.size) (by omega) (by omega)
    have e3 := R.hn
    rw [hlen] at e3
    rw [R.h0] at e1
    rw [e3] at e2
    exact hp.fresh id (by omega) (by omega) hd
  · rcases Nat.lt_trichotomy i j with h | h | h
    · have := R.mono hfr (i := i + 1) (j := j) (by omega) (by omega); omega
    · exact hnot (h ▸ hL)
    · have := R.mono hfr (i := j + 1) (j := i) (by omega) (by omega); omega
end
end Go.Proofs.Ytpjkbjpjhkcofaa.Ev
