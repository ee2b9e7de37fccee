/- A root that comes in by value, and eighty-eight bytes: each number is read. Bound to this program. -/
import Derived.Test.YtffdonpkmnngpaaStru
import Derived.Test.YtffdonpkmnngpaaChecked
import Derived.Test.YtffdonpkmnngpaaWWords
import Derived.OpenShut
namespace Go.Proofs.Ytffdonpkmnngpaa.Stru
open Go Go.RowKit Go.Proofs Go.ChangeShapes Go.WideShapes Go.Deep Go.Proofs.YtffdonpkmnngpaaW.PrintWords
section
variable {H : Type} {enc : TypeId × Value → H} {w : World} {base : Nat} {held : Bool} {sp : Nat → Bool}
theorem ref_at {n : Nat} {x y : Value} {z : DataW H × List MemPlace} (h : DataW.trod enc Try.prog w base sp held n 41 [x, y] = some z) :
    ∃ a b : Int, x = .int .i64 a ∧ y = .int .u64 b ∧ (Lit.int .i64 a).wf = true ∧ (Lit.int .u64 b).wf = true := by
  have c2 : Try.prog.cellsOf 2 = 1 := by kernel_rfl
  have c39 : Try.prog.cellsOf 39 = 1 := by kernel_rfl
  obtain ⟨xs, m, _, _, _, hl, hg⟩ := DataW.trod_struct Try.underlying41 h
  have hx : xs.length = 2 := hl
  have h0 : DataW.trod enc Try.prog w base sp held m 2 ((([x, y] : List Value).drop 0).take (Try.prog.cellsOf 2)) = xs[0]? := hg 0 _ rfl
  have h1 : DataW.trod enc Try.prog w base sp held m 39 ((([x, y] : List Value).drop 1).take (Try.prog.cellsOf 39)) = xs[1]? := hg 1 _ rfl
  rw [c2, List.getElem?_eq_getElem (by omega)] at h0
  rw [c39, List.getElem?_eq_getElem (by omega)] at h1
  obtain ⟨a, e0, _, wa⟩ := DataW.trod_int Try.underlying2 (cs := [x]) h0
  obtain ⟨b, e1, _, wb⟩ := DataW.trod_int Try.underlying39 (cs := [y]) h1
  simp only [List.cons.injEq, and_true] at e0 e1
  exact ⟨a, b, e0, e1, wa, wb⟩
theorem open_root {r : Reach} {b0 : Nat} {v : Value} {d : DataW H} {p : List MemPlace} (hv : Value.okWide Try.prog w r b0 44 v) (h : DataW.Trod enc Try.prog w base sp held 44 v d p) :
    ∃ a0 a1 o0 c0 o1 c1 o2 c2 o3 c3 o4 c4 : Int, v = .agg #[.int .u64 a0, .int .i64 a1, .int .i64 o0, .int .u64 c0, .int .i64 o1, .int .u64 c1, .int .i64 o2, .int .u64 c2, .int .i64 o3, .int .u64 c3, .int .i64 o4, .int .u64 c4] ∧
      (Lit.int .u64 a0).wf = true ∧ (Lit.int .i64 a1).wf = true ∧ (Lit.int .i64 o0).wf = true ∧ (Lit.int .u64 c0).wf = true ∧ (Lit.int .i64 o1).wf = true ∧ (Lit.int .u64 c1).wf = true ∧ (Lit.int .i64 o2).wf = true ∧ (Lit.int .u64 c2).wf = true ∧ (Lit.int .i64 o3).wf = true ∧ (Lit.int .u64 c3).wf = true ∧ (Lit.int .i64 o4).wf = true ∧ (Lit.int .u64 c4).wf = true := by
  have k2 : Try.prog.cellsOf 2 = 1 := by kernel_rfl
  have k39 : Try.prog.cellsOf 39 = 1 := by kernel_rfl
  have k41 : Try.prog.cellsOf 41 = 2 := by kernel_rfl
  have k42 : Try.prog.cellsOf 42 = 10 := by kernel_rfl
  have k44 : Try.prog.cellsOf 44 = 12 := by kernel_rfl
  obtain ⟨cs, rfl, hsz⟩ := okWide_struct Try.underlying44 hv
  obtain ⟨fuel, hf⟩ := h
  obtain ⟨xs, n, _, _, _, hl, hg⟩ := DataW.trod_struct Try.underlying44 hf
  have hxl : xs.length = 3 := hl
  rw [k44] at hsz
  obtain ⟨l, hl2⟩ : ∃ l, cs.toList = l := ⟨_, rfl⟩
  have hll : l.length = 12 := by rw [← hl2]; simpa using hsz
  have hcs : cs = l.toArray := by rw [← hl2]
  subst hcs
  match l, hll with
  | [x0, x1, x2, x3, x4, x5, x6, x7, x8, x9, x10, x11], _ =>
    have h0 : DataW.trod enc Try.prog w base sp held n 39 ((([x0, x1, x2, x3, x4, x5, x6, x7, x8, x9, x10, x11] : List Value).drop 0).take (Try.prog.cellsOf 39)) = xs[0]? := hg 0 _ rfl
    have h1 : DataW.trod enc Try.prog w base sp held n 2 ((([x0, x1, x2, x3, x4, x5, x6, x7, x8, x9, x10, x11] : List Value).drop 1).take (Try.prog.cellsOf 2)) = xs[1]? := hg 1 _ rfl
    have h2 : DataW.trod enc Try.prog w base sp held n 42 ((([x0, x1, x2, x3, x4, x5, x6, x7, x8, x9, x10, x11] : List Value).drop 2).take (Try.prog.cellsOf 42)) = xs[2]? := hg 2 _ rfl
    rw [k39, List.getElem?_eq_getElem (by omega)] at h0
    rw [k2, List.getElem?_eq_getElem (by omega)] at h1
    rw [k42, List.getElem?_eq_getElem (by omega)] at h2
    obtain ⟨a0, e0, _, w0⟩ := DataW.trod_int Try.underlying39 (cs := [x0]) h0
    obtain ⟨a1, e1, _, w1⟩ := DataW.trod_int Try.underlying2 (cs := [x1]) h1
    simp only [List.cons.injEq, and_true] at e0 e1
    obtain ⟨ys, m, _, _, _, hyl, hy⟩ := DataW.trod_array (cs := [x2, x3, x4, x5, x6, x7, x8, x9, x10, x11]) Try.underlying42 h2
    have g0 : DataW.trod enc Try.prog w base sp held m 41 ((([x2, x3, x4, x5, x6, x7, x8, x9, x10, x11] : List Value).drop (0 * Try.prog.cellsOf 41)).take (Try.prog.cellsOf 41)) = ys[0]? := hy 0 (by decide)
    rw [k41, List.getElem?_eq_getElem (by omega)] at g0
    have g1 : DataW.trod enc Try.prog w base sp held m 41 ((([x2, x3, x4, x5, x6, x7, x8, x9, x10, x11] : List Value).drop (1 * Try.prog.cellsOf 41)).take (Try.prog.cellsOf 41)) = ys[1]? := hy 1 (by decide)
    rw [k41, List.getElem?_eq_getElem (by omega)] at g1
    have g2 : DataW.trod enc Try.prog w base sp held m 41 ((([x2, x3, x4, x5, x6, x7, x8, x9, x10, x11] : List Value).drop (2 * Try.prog.cellsOf 41)).take (Try.prog.cellsOf 41)) = ys[2]? := hy 2 (by decide)
    rw [k41, List.getElem?_eq_getElem (by omega)] at g2
    have g3 : DataW.trod enc Try.prog w base sp held m 41 ((([x2, x3, x4, x5, x6, x7, x8, x9, x10, x11] : List Value).drop (3 * Try.prog.cellsOf 41)).take (Try.prog.cellsOf 41)) = ys[3]? := hy 3 (by decide)
    rw [k41, List.getElem?_eq_getElem (by omega)] at g3
    have g4 : DataW.trod enc Try.prog w base sp held m 41 ((([x2, x3, x4, x5, x6, x7, x8, x9, x10, x11] : List Value).drop (4 * Try.prog.cellsOf 41)).take (Try.prog.cellsOf 41)) = ys[4]? := hy 4 (by decide)
    rw [k41, List.getElem?_eq_getElem (by omega)] at g4
    obtain ⟨o0, c0, f0, f1, v0, v1⟩ := ref_at (x := x2) (y := x3) g0
    obtain ⟨o1, c1, f2, f3, v2, v3⟩ := ref_at (x := x4) (y := x5) g1
    obtain ⟨o2, c2, f4, f5, v4, v5⟩ := ref_at (x := x6) (y := x7) g2
    obtain ⟨o3, c3, f6, f7, v6, v7⟩ := ref_at (x := x8) (y := x9) g3
    obtain ⟨o4, c4, f8, f9, v8, v9⟩ := ref_at (x := x10) (y := x11) g4
    subst e0 e1 f0 f1 f2 f3 f4 f5 f6 f7 f8 f9
    exact ⟨a0, a1, o0, c0, o1, c1, o2, c2, o3, c3, o4, c4, rfl, w0, w1, v0, v1, v2, v3, v4, v5, v6, v7, v8, v9⟩
def intIn : Value → Int
  | .int _ n => n
  | _ => 0
theorem open_b88 {r : Reach} {b0 : Nat} {v : Value} {d : DataW H} {p : List MemPlace} (hv : Value.okWide Try.prog w r b0 49 v) (h : DataW.Trod enc Try.prog w base sp held 49 v d p) :
    ∃ bl : List Int, v = .agg (nums .u8 bl).toArray ∧ bl.length = 88 ∧ ∀ n ∈ bl, (Lit.int .u8 n).wf = true := by
  have k5 : Try.prog.cellsOf 5 = 1 := by kernel_rfl
  have k49 : Try.prog.cellsOf 49 = 88 := by kernel_rfl
  simp only [Value.okWide, Try.underlying49] at hv
  obtain ⟨cs, rfl, hsz, _⟩ := hv
  rw [k49] at hsz
  obtain ⟨fuel, hf⟩ := h
  obtain ⟨xs, n, _, _, _, hl, hg⟩ := DataW.trod_array Try.underlying49 hf
  rw [k5] at hg
  have at_ : ∀ (i : Nat) (hi : i < cs.size), ∃ a : Int, cs[i] = .int .u8 a ∧ (Lit.int .u8 a).wf = true := by
    intro i hi
    have h1 : DataW.trod enc Try.prog w base sp held n 5 ((cs.toList.drop (i * 1)).take 1) = xs[i]? := hg i (by omega)
    rw [Nat.mul_one, List.getElem?_eq_getElem (by omega), List.drop_eq_getElem_cons (by simpa using hi), List.take_succ_cons, List.take_zero] at h1
    obtain ⟨a, e, _, wa⟩ := DataW.trod_int Try.underlying5 h1
    exact ⟨a, by simpa using e, wa⟩
  refine ⟨cs.toList.map intIn, ?_, by simpa using hsz, ?_⟩
  · congr 1
    apply Array.ext
    · simp [nums]
    · intro i h1 h2
      obtain ⟨a, ea, _⟩ := at_ i h1
      simp [nums, ea, intIn]
  · intro m hm
    obtain ⟨x, hx, rfl⟩ := List.mem_map.1 hm
    obtain ⟨i, hi, rfl⟩ := List.getElem_of_mem hx
    obtain ⟨a, ea, wa⟩ := at_ i (by simpa using hi)
    simp only [Array.getElem_toList, ea, intIn]
    exact wa
end
end Go.Proofs.Ytffdonpkmnngpaa.Stru
