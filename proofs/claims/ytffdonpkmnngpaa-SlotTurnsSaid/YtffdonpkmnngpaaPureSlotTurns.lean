/- SlotTurns: the law's walk, out of its print and its plain law; and how rows of rows that come in are read. No condition. -/
import Derived.Test.YtffdonpkmnngpaaPSlotTurnsx4
import Derived.Test.YtffdonpkmnngpaaPlainSlotTurns
import Derived.Deep.Matrix
namespace Go.Proofs.Ytffdonpkmnngpaa.Pure
open Go Go.RowKit Go.Proofs.Ytffdonpkmnngpaa.PSlotTurns Go.Proofs.YtffdonpkmnngpaaW.PrintWords Go.Proofs.YtffdonpkmnngpaaW.PrintLast
set_option linter.unusedVariables false
/-- Rows of bytes that came in, as they are read. -/
theorem rows_of (W : World) {a : Option Addr} {len cap base : Nat} {X : Prop}
    {f : Addr → Nat → Nat → (Nat → Option Addr) → (Nat → Nat) → (Nat → Nat) → (Nat → List Int) → Prop}
    (h : ((Value.slice a len cap).cells.toList = [.slice none 0 0] ∧ X) ∨ ∃ (ad : Addr) (l c : Nat) (A : Nat → Option Addr) (L C : Nat → Nat) (Z : Nat → List Int), (Value.slice a len cap).cells.toList = [.slice (some ad) l c] ∧ base ≤ ad.block ∧ l ≤ c ∧ c ≤ maxLen ∧ f ad l c A L C Z ∧
      ∀ r, r < c → W.cell? (ad.add r) = some (.slice (A r) (L r) (C r)) ∧ L r ≤ C r ∧ C r ≤ maxLen ∧ (Z r).length = C r ∧ (∀ n ∈ Z r, (Lit.int .u8 n).wf = true) ∧ (A r = none → C r = 0) ∧
        ∀ a', A r = some a' → base ≤ a'.block ∧ ∀ c, c < C r → W.cell? (a'.add c) = some (.int .u8 ((Z r).getD c 0))) :
    ∃ zs : List (List Int), len = zs.length ∧ Kd.C (Kd.slice 5 (Kd.int .u8)) W a zs.length zs ∧ zs.length ≤ cap ∧ ∀ r ∈ zs, ∀ n ∈ r, (Lit.int .u8 n).wf = true := by
  rcases h with ⟨h, _⟩ | ⟨ad, l, c, A, L, C, Z, h, _, hl, hm, _, hr⟩
  · simp [Value.cells] at h
    obtain ⟨rfl, rfl, rfl⟩ := h
    exact ⟨[], rfl, ⟨rfl, by simp, fun h => by simp at h⟩, by simp, fun r h => by cases h⟩
  · simp [Value.cells] at h
    obtain ⟨rfl, rfl, rfl⟩ := h
    have each : ∀ r : Nat, ∃ y : List Int, r < cap → (L r = y.length ∧ ReadsInt W .u8 (A r) y.length y ∧ y.length ≤ C r ∧ ∀ n ∈ y, (Lit.int .u8 n).wf = true) := fun r => by
      by_cases hc : r < cap
      · obtain ⟨h1, h2, h3, h4, h5, h6, h7⟩ := hr r hc
        obtain ⟨y, e, hy, _, hw, hyc⟩ := ReadsInt.ofRowC (k := .u8) (w := W) (a := A r) (len := L r) (cap := C r) (zs := Z r) (by
          cases hA : A r with
          | none =>
            have h0 := h6 hA
            exact .inl ⟨rfl, by omega, h0, List.eq_nil_of_length_eq_zero (by omega)⟩
          | some a' => exact .inr ⟨a', rfl, h2, h3, h4, fun i hi => (h7 a' hA).2 i (by omega), h5⟩)
        exact ⟨y, fun _ => ⟨e, hy, hyc, hw⟩⟩
      · exact ⟨[], fun h => absurd h hc⟩
    let g : Nat → List Int := fun r => Classical.choose (each r)
    have hg : ∀ r, r < cap → (L r = (g r).length ∧ ReadsInt W .u8 (A r) (g r).length (g r) ∧ (g r).length ≤ C r ∧ ∀ n ∈ g r, (Lit.int .u8 n).wf = true) := fun r => Classical.choose_spec (each r)
    refine ⟨(List.range len).map g, by simp, ⟨rfl, by simp; exact Nat.le_trans (Nat.le_trans hl hm) (by decide), fun _ => ⟨ad, rfl, fun j p hj => ?_⟩⟩, by simpa using hl, fun r hmem n hn => ?_⟩
    · have hlt : j < len := by
        have := (List.getElem?_eq_some_iff.1 hj).1
        simpa using this
      have hp : p = g j := by
        rw [List.getElem?_map, List.getElem?_range hlt] at hj
        simpa using hj.symm
      obtain ⟨e, hy, hyc, _⟩ := hg j (by omega)
      obtain ⟨h1, _⟩ := hr j (by omega)
      refine ⟨[.slice (A j) (L j) (C j)], rfl, ⟨A j, C j, ?_, ?_, ?_⟩, fun i u hi => ?_⟩
      · rw [hp, e]
      · rw [hp]; exact hyc
      · rw [hp]; exact Kd.C_of_reads (d := (0 : Int)) (h1 := fun _ => rfl) hy
      · cases i with
        | zero =>
          simp only [List.getElem?_cons_zero, Option.some.injEq] at hi
          subst hi
          show W.cell? (ad.add (j * 1 + 0)) = _
          rw [show j * 1 + 0 = j by omega]
          exact h1
        | succ i => simp at hi
    · obtain ⟨j, hj, rfl⟩ := List.mem_map.1 hmem
      exact (hg j (by have := List.mem_range.1 hj; omega)).2.2.2 n hn
theorem wf32 {a : Int} (h : (Lit.int .u32 a).wf = true) : 0 ≤ a ∧ a < 4294967296 := by
  simp [Lit.wf, IntKind.min, IntKind.max, IntKind.signed, IntKind.bits] at h
  omega
theorem wf8 {a : Int} (h : (Lit.int .u8 a).wf = true) : 0 ≤ a ∧ a < 256 := by
  simp [Lit.wf, IntKind.min, IntKind.max, IntKind.signed, IntKind.bits] at h
  omega
theorem walk (a0 : Int) (a1 : Option Addr) (cap1 : Nat) (z1 : List (List Int)) (a2 a3 : Int) (w : World) (w0 : (Lit.int .u32 a0).wf = true) (w1 : Kd.C (Kd.slice 5 (Kd.int .u8)) w a1 z1.length z1) (y1 : z1.length ≤ cap1) (g1 : ∀ r ∈ z1, ∀ n ∈ r, (Lit.int .u8 n).wf = true) (w2 : (Lit.int .u8 a2).wf = true) (w3 : (Lit.int .u8 a3).wf = true) :
    Calls Try.prog 14 #[.int .u32 a0, .slice a1 z1.length cap1, .int .u8 a2, .int .u8 a3] w fun e w' => e = .returned (.bool true) ∧ Below w.heap.size w w' :=
  pandectlaw4_SlotTurns.calls 1500 a0 a1 cap1 z1 a2 a3 true w w1 y1 (SlotTurns a0 z1 a2 a3 (wf32 w0) (fun r hr => Crc.bytes_of (g1 r hr)) (wf8 w2) (wf8 w3))
end Go.Proofs.Ytffdonpkmnngpaa.Pure
