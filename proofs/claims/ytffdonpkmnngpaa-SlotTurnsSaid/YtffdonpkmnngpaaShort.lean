/- Short names for print's words, so that a printed text fits the bound on a file's size. -/
import Derived.Test.YtffdonpkmnngpaaWMore
namespace Go.Proofs.Ytffdonpkmnngpaa.Short
open Go.RowKit Go.Proofs.YtffdonpkmnngpaaW.PrintWords Go.Proofs.YtffdonpkmnngpaaW.PrintLast Go.Proofs.YtffdonpkmnngpaaW.PrintMore
section
variable {w w0 : World} {g t B : Nat} {o : Obj} {cs : Array Value}
theorem kN (h : w.heap[g]? = some o) (n : Nat) : (w.drewN n).heap[g]? = some o := blk_drewN h n
theorem kD (h : w.heap[g]? = some o) : w.drew.heap[g]? = some o := blk_drew h
theorem kA (h : w.heap[g]? = some o) (o' : Obj) : (w.alloc o').heap[g]? = some o := blk_alloc h o'
theorem kF (h : w.heap[g]? = some (.cells cs t (0, 0))) {p : Addr} (hp : g ≠ p.block) (u : Value) : (w.setCell p u).heap[g]? = some (.cells cs t (0, 0)) := blk_far h hp u
theorem kZ (h : w.heap[g]? = some (.cells cs t (0, 0))) (i : Nat) : w.frozen? ⟨g, i, none⟩ = false := blk_frozen h i
theorem kC (h : w.heap[g]? = some (.cells cs t (0, 0))) (i : Nat) : w.cell? ⟨g, i, none⟩ = cs[i]? := blk_cell h i
theorem fkR {α : Type} {d : Kd α} {e base n c : Nat} {ok : Nat → Prop} {xs : List α} {A : Option Addr} (h : d.R e w base ok (.slice A n c) xs) : Kd.FK (Kd.slice e d) w ok xs [.slice A n c] := by
  obtain ⟨hn, hc, _⟩ := Kd.R_reads' h
  have hf := Kd.R_F h
  subst hn
  exact Kd.FK_slice_mk hc hf
theorem aM {p : Prop} (h : p) : Aside0 p := ⟨h⟩
end
end Go.Proofs.Ytffdonpkmnngpaa.Short
