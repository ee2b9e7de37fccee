/- Small laws of this workplace for the printed walks: a constant slice of bytes reads as its bytes. -/
import Derived.Lib.SmallJoins
import Derived.Test.YtffdonpkmnngpaaWMore
namespace Go.Proofs.Ytffdonpkmnngpaa.Own
open Go.RowKit Go.Proofs.YtffdonpkmnngpaaW.PrintWords

theorem run_mark {P : Program} (w : World) (t e : TypeId) (C : Array Value) (n c g : Nat) (hg : g = w.heap.size) (ht : P.underlying t = some (.slice e)) (he : P.underlying e = some (.int .u8)) :
    (convert t t (.slice (some ⟨g, 0, none⟩) n c)).run P (w.alloc (.cells C e)) = .ok (.slice (some ⟨g, 0, none⟩) n c) (w.alloc (.cells C e (C.size, C.size + 1))) := by
  subst hg; exact Go.Lib.run_convert_bytes_const w t e C n c ht he

theorem step_mark {P : Program} {ops : Array Oper} {o : Oper} {a : Act} {Q : Exit → Act → World → Prop} {rest : List Oper} {W : World} (hgd : o.guard = none) (W0 : World) (t e : TypeId) (x : Operand) (C : Array Value) (n c g : Nat)
    (ho : o.op = .convert t t x) (hx : a.eval x = .slice (some ⟨g, 0, none⟩) n c) (hW : W = W0.alloc (.cells C e)) (hg : g = W0.heap.size) (ht : P.underlying t = some (.slice e)) (he : P.underlying e = some (.int .u8))
    (h : wpList P ops Q rest (a.put o.dst (.slice (some ⟨g, 0, none⟩) n c)) (W0.alloc (.cells C e (C.size, C.size + 1)))) : wpList P ops Q (o :: rest) a W := by
  refine Kd.event_run hgd (v := .slice (some ⟨g, 0, none⟩) n c) (w1 := W0.alloc (.cells C e (C.size, C.size + 1))) ?_ h
  rw [hW]
  have := run_mark (P := P) W0 t e C n c g hg ht he
  simp only [execOp, ho, hx]
  rw [Sem.run_bind, this]
  rfl

theorem C_mark (w : World) (g n : Nat) (hg : g = w.heap.size) (hm : n ≤ 9223372036854775807) (C : Array Value) (e : Nat) (fr : Nat × Nat) (xs : List Int) (hn : xs.length = n) (h : C.toList = nums .u8 xs) :
    Kd.C (Kd.int .u8) (w.alloc (.cells C e fr)) (some ⟨g, 0, none⟩) n xs := by
  refine ⟨hn, hm, fun _ => ⟨_, rfl, fun j p hj => ⟨[.int .u8 p], rfl, rfl, fun i u hu => ?_⟩⟩⟩
  cases i with
  | succ i => simp at hu
  | zero =>
    obtain rfl : Value.int .u8 p = u := by simpa using hu
    subst hg
    have hc : C[j]? = some (.int .u8 p) := by
      rw [← Array.getElem?_toList, h]; simp [nums, hj]
    have := World.cell?_alloc_mark w C e fr j
    have ha : (⟨w.heap.size, 0, none⟩ : Addr).add (j * 1 + 0) = ⟨w.heap.size, j, none⟩ := by
      simp only [Addr.add, Nat.mul_one, Nat.add_zero, Nat.zero_add]
      split
      · rename_i h0; subst h0; rfl
      · rfl
    show World.cell? _ ((⟨w.heap.size, 0, none⟩ : Addr).add (j * 1 + 0)) = _
    rw [ha, this, hc]
end Go.Proofs.Ytffdonpkmnngpaa.Own
