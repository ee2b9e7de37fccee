/- EV, the top: a closed function that the evaluator finds true returns true. No program here. -/
import Derived.Test.YtpjkbjpjhkcofaaEvQ
namespace Go.Proofs.Ytpjkbjpjhkcofaa.Ev
open Go Go.RowKit
set_option linter.unusedVariables false
set_option linter.unusedSimpArgs false
theorem closed_true [Th] {P : Program} {xc : XC} {d : Nat} {f : FuncId} (hcmp : CmpOk P xc) (hdr : DrawnOk P xc) (h : isTrue (acall P xc d f [] AH.empty) = true) (w : World) :
    Calls P f #[] w fun e w' => e = .returned (.bool true) ∧ Below w.heap.size w w' := by
  unfold isTrue at h
  split at h
  · rename_i b H' e
    subst h
    let D : Nat → Prop := fun id => H'.next ≤ id ∧ id < H'.next + w.heap.size
    let ρ : Rho := fun id => ⟨id - H'.next, 0, 0, 0⟩
    let G : Nat → Option Blk := fun id => if H'.next ≤ id then (w.heap[id - H'.next]?).map fun o => ⟨.opq o, true, none⟩ else none
    have hD : ∀ id, D id ↔ (H'.next ≤ id ∧ id < H'.next + w.heap.size) := fun _ => Iff.rfl
    have hr : HR ρ D G w D := by
      refine ⟨fun _ h => h, fun id b hT hg hl => ?_, fun i j b c hi hj hij _ _ _ _ _ => ?_⟩
      · have h1 := (hD id).1 hT
        have hlt : id - H'.next < w.heap.size := by omega
        simp only [G] at hg
        rw [if_pos h1.1, Array.getElem?_eq_getElem hlt] at hg
        simp only [Option.map_some, Option.some.injEq] at hg
        subst hg
        show w.heap[id - H'.next]? = some _
        exact Array.getElem?_eq_getElem hlt
      · have h1 := (hD i).1 hi
        have h2 := (hD j).1 hj
        show i - H'.next ≠ j - H'.next
        omega
    have hp : Pre ρ D G w D AH.empty H' [] [] := ⟨hr, fun id h => h.elim (fun h => (by cases h)) fun h => (by cases h), fun id h => h.elim (fun h => (by cases h)) fun h => (by cases h), fun id _ h2 h3 => by have := (hD id).1 h3; omega⟩
    refine ((acall_ok hcmp hdr d).1 f [] AH.empty _ H' [] [] e ρ D G w D #[] .nil hp).mono fun en w' ⟨v', hen, ρ', hag, hv, hhr, hb⟩ => ⟨?_, hb.os, hb.tape, hb.output, hb.size, fun k hk => ?_⟩
    · rw [hen, VR.flat_eq hv rfl]
    · have hT : Dn D AH.empty H' (H'.next + k) := .inl ((hD _).2 (by omega))
      have hsub : H'.next + k - H'.next = k := by omega
      have hg : Gn G AH.empty H' [] (H'.next + k) = some ⟨.opq (w.heap[k]'hk), true, none⟩ := by
        unfold Gn
        rw [if_neg (by rintro (h | h); cases h; omega)]
        simp only [G]
        rw [if_pos (by omega), hsub, Array.getElem?_eq_getElem hk]
        rfl
      have hB := hhr.blk _ _ hT hg rfl
      have hρ := hag (H'.next + k) ((hD _).2 (by omega))
      unfold BlkR at hB
      simp only [hρ] at hB
      have e1 : (ρ (H'.next + k)).blk = k := hsub
      rw [e1] at hB
      rw [hB, Array.getElem?_eq_getElem hk]
  · cases h
end Go.Proofs.Ytpjkbjpjhkcofaa.Ev
