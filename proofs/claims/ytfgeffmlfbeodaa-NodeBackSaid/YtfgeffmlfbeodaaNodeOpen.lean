/- A node that comes in by value: its rows are read. Bound to this program. -/
import Derived.Test.YtfgeffmlfbeodaaStru
import Derived.Test.YtfgeffmlfbeodaaPNodeBackx0
import Derived.OpenShut
namespace Go.Proofs.Ytfgeffmlfbeodaa.Stru
open Go Go.RowKit Go.Proofs Go.ChangeShapes Go.WideShapes Go.Deep Go.Proofs.YtfgeffmlfbeodaaW.PrintWords Go.Proofs.Ytfgeffmlfbeodaa.PNodeBack
section
variable {H : Type} {enc : TypeId × Value → H} {P : Program} {w : World} {base : Nat} {held : Bool}
theorem fam {α : Type} {p : Nat → α → Prop} : ∀ n : Nat, (∀ i, i < n → ∃ x, p i x) → ∃ L : List α, L.length = n ∧ ∀ i x, L[i]? = some x → p i x
  | 0, _ => ⟨[], rfl, fun i x h => by simp at h⟩
  | n + 1, h => by
    obtain ⟨L, hl, hp⟩ := fam n (fun i hi => h i (by omega))
    obtain ⟨x, hx⟩ := h n (by omega)
    refine ⟨L ++ [x], by simp [hl], fun i y hy => ?_⟩
    by_cases c : i < n
    · rw [List.getElem?_append_left (by omega)] at hy
      exact hp i y hy
    · rw [List.getElem?_append_right (by omega), hl] at hy
      by_cases e : i = n
      · subst e
        simp at hy
        rw [← hy]; exact hx
      · rw [List.getElem?_eq_none (by simp; omega)] at hy
        cases hy
theorem row_of {α : Type} (d : Kd α) {Q : α → Prop} {t e : TypeId} {fuel : Nat} {x : Value} {y : DataW H × List MemPlace} (ht : P.underlying t = some (.slice e)) (hC : P.cellsOf e = d.sz)
    (dec : ∀ {n : Nat} {cs : List Value} {y : DataW H × List MemPlace}, cs.length = d.sz → DataW.trod enc P w base (fun _ => true) held n e cs = some y → ∃ a : α, d.K w a cs ∧ Q a)
    (h : DataW.trod enc P w base (fun _ => true) held fuel t [x] = some y) :
    ∃ (A : Option Addr) (c : Nat) (L : List α), x = .slice A L.length c ∧ Kd.C d w A L.length L ∧ L.length ≤ c ∧ L.length ≤ 9223372036854775807 ∧ ∀ a ∈ L, Q a := by
  rcases open_slice ht h with ⟨hcs, _⟩ | ⟨a, len, cap, m, n, D, Pl, hcs, hb, hl, hm, hmm, hx, hi⟩
  · obtain rfl : x = .slice none 0 0 := by simpa using hcs
    exact ⟨none, 0, [], rfl, Kd.C_nil _ _, Nat.le_refl _, Nat.zero_le _, fun a h => by cases h⟩
  · obtain rfl : x = .slice (some a) len cap := by simpa using hcs
    have hmx : maxLen = 9223372036854775807 := by decide
    obtain ⟨L, hL, hp⟩ := fam (p := fun i (z : α) => ∃ cs', w.cells? base (a.add (i * P.cellsOf e)) (P.cellsOf e) = some cs' ∧ d.K w z cs' ∧ Q z) len (fun i hil => by
      obtain ⟨cs', h1, h2⟩ := hi i (by rw [hmm, if_pos rfl]; omega)
      obtain ⟨_, hcl, _⟩ := World.cells?_some h1
      obtain ⟨z, hz, hq⟩ := dec (hcl.trans hC) h2
      exact ⟨z, cs', h1, hz, hq⟩)
    refine ⟨some a, cap, L, by rw [hL], ⟨rfl, by omega, fun _ => ⟨a, rfl, fun j p hj => ?_⟩⟩, by omega, by omega, fun z hz => ?_⟩
    · obtain ⟨cs', h1, h2, _⟩ := hp j p hj
      rw [hC] at h1
      obtain ⟨_, hcl, hat⟩ := World.cells?_some h1
      refine ⟨cs', hcl, h2, fun i u hu => ?_⟩
      have hil : i < d.sz := by rw [← hcl]; exact (List.getElem?_eq_some_iff.1 hu).1
      rw [← Go.Deep.add_add, hat i hil, hu]
    · obtain ⟨i, hi', rfl⟩ := List.getElem_of_mem hz
      obtain ⟨_, _, _, hq⟩ := hp i _ (List.getElem?_eq_getElem hi')
      exact hq
theorem one_of {cs : List Value} (h : cs.length = 1) : ∃ x, cs = [x] := by
  match cs, h with
  | [x], _ => exact ⟨x, rfl⟩
theorem int_of {k : IntKind} {e n : Nat} {cs : List Value} {y : DataW H × List MemPlace} (he : P.underlying e = some (.int k)) (h : DataW.trod enc P w base (fun _ => true) held n e cs = some y) : ∃ a : Int, (Kd.int k).K w a cs ∧ (Lit.int k a).wf = true := by
  obtain ⟨a, e0, _, hw⟩ := DataW.trod_int he h
  exact ⟨a, e0, hw⟩
theorem sl_of {α : Type} (d : Kd α) {Q : α → Prop} {q t e : TypeId} {n : Nat} {cs : List Value} {y : DataW H × List MemPlace} (ht : P.underlying t = some (.slice e)) (hC : P.cellsOf e = d.sz)
    (dec : ∀ {n : Nat} {cs : List Value} {y : DataW H × List MemPlace}, cs.length = d.sz → DataW.trod enc P w base (fun _ => true) held n e cs = some y → ∃ a : α, d.K w a cs ∧ Q a)
    (hl : cs.length = 1) (h : DataW.trod enc P w base (fun _ => true) held n t cs = some y) : ∃ L : List α, (Kd.slice q d).K w L cs ∧ ∀ a ∈ L, Q a := by
  obtain ⟨x, rfl⟩ := one_of hl
  obtain ⟨A, c, L, rfl, h1, h2, _, h4⟩ := row_of d ht hC dec h
  exact ⟨L, ⟨A, c, rfl, h2, h1⟩, h4⟩
end
section
variable {H : Type} {enc : TypeId × Value → H} {w : World} {base : Nat} {held : Bool}
def B8 (l : List Int) : Prop := ∀ n ∈ l, (Lit.int .u8 n).wf = true
theorem by_of {n : Nat} {cs : List Value} {y : DataW H × List MemPlace} (hl : cs.length = 1) (h : DataW.trod enc Try.prog w base (fun _ => true) held n 22 cs = some y) : ∃ L : List Int, (Kd.slice 5 (Kd.int .u8)).K w L cs ∧ B8 L :=
  sl_of (Kd.int .u8) Try.underlying22 (by kernel_rfl) (fun _ h => int_of Try.underlying5 h) hl h
theorem two_of {cs : List Value} (h : cs.length = 2) : ∃ x y, cs = [x, y] := by
  match cs, h with
  | [x, y], _ => exact ⟨x, y, rfl⟩
theorem item_of {n : Nat} {cs : List Value} {y : DataW H × List MemPlace} (hl : cs.length = 2) (h : DataW.trod enc Try.prog w base (fun _ => true) held n 87 cs = some y) : ∃ a : S87, k87.K w a cs ∧ (B8 a.f0 ∧ B8 a.f1) := by
  obtain ⟨u, v, rfl⟩ := two_of hl
  obtain ⟨xs, m, _, _, _, hxl, hg⟩ := DataW.trod_struct Try.underlying87 h
  have hx : xs.length = 2 := hxl
  have k22 : Try.prog.cellsOf 22 = 1 := by kernel_rfl
  have h0 : DataW.trod enc Try.prog w base (fun _ => true) held m 22 ((([u, v] : List Value).drop 0).take (Try.prog.cellsOf 22)) = xs[0]? := hg 0 _ rfl
  have h1 : DataW.trod enc Try.prog w base (fun _ => true) held m 22 ((([u, v] : List Value).drop 1).take (Try.prog.cellsOf 22)) = xs[1]? := hg 1 _ rfl
  rw [k22, List.getElem?_eq_getElem (by omega)] at h0 h1
  obtain ⟨a, ⟨A0, c0, e0, l0, g0⟩, b0⟩ := by_of (cs := [u]) rfl h0
  obtain ⟨b, ⟨A1, c1, e1, l1, g1⟩, b1⟩ := by_of (cs := [v]) rfl h1
  simp only [List.cons.injEq, and_true] at e0 e1
  rw [e0, e1]
  exact ⟨⟨a, b⟩, k87_mk w ⟨a, b⟩ l0 g0 l1 g1, b0, b1⟩
theorem kid_of {n : Nat} {cs : List Value} {y : DataW H × List MemPlace} (hl : cs.length = 2) (h : DataW.trod enc Try.prog w base (fun _ => true) held n 90 cs = some y) : ∃ a : S90, k90.K w a cs ∧ ((Lit.int .i64 a.f0).wf = true ∧ (Lit.int .u64 a.f1).wf = true) := by
  obtain ⟨u, v, rfl⟩ := two_of hl
  obtain ⟨xs, m, _, _, _, hxl, hg⟩ := DataW.trod_struct Try.underlying90 h
  have hx : xs.length = 2 := hxl
  have k2 : Try.prog.cellsOf 2 = 1 := by kernel_rfl
  have k88 : Try.prog.cellsOf 88 = 1 := by kernel_rfl
  have h0 : DataW.trod enc Try.prog w base (fun _ => true) held m 2 ((([u, v] : List Value).drop 0).take (Try.prog.cellsOf 2)) = xs[0]? := hg 0 _ rfl
  have h1 : DataW.trod enc Try.prog w base (fun _ => true) held m 88 ((([u, v] : List Value).drop 1).take (Try.prog.cellsOf 88)) = xs[1]? := hg 1 _ rfl
  rw [k2, List.getElem?_eq_getElem (by omega)] at h0
  rw [k88, List.getElem?_eq_getElem (by omega)] at h1
  obtain ⟨a, e0, _, wa⟩ := DataW.trod_int Try.underlying2 (cs := [u]) h0
  obtain ⟨b, e1, _, wb⟩ := DataW.trod_int Try.underlying88 (cs := [v]) h1
  simp only [List.cons.injEq, and_true] at e0 e1
  rw [e0, e1]
  exact ⟨⟨a, b⟩, k90_mk w ⟨a, b⟩, wa, wb⟩
/-- A node, by value. -/
structure NodeIn (w : World) (a0 : Bool) (A1 : Option Addr) (c1 : Nat) (I : List S87) (A2 : Option Addr) (c2 : Nat) (K : List (List Int)) (A3 : Option Addr) (c3 : Nat) (T : List S90) : Prop where
  r1 : Kd.C k87 w A1 I.length I
  r2 : Kd.C (Kd.slice 5 (Kd.int .u8)) w A2 K.length K
  r3 : Kd.C k90 w A3 T.length T
  l1 : I.length ≤ c1
  l2 : K.length ≤ c2
  l3 : T.length ≤ c3
  m1 : I.length ≤ 9223372036854775807
  m2 : K.length ≤ 9223372036854775807
  m3 : T.length ≤ 9223372036854775807
  b1 : ∀ x ∈ I, B8 x.f0 ∧ B8 x.f1
  b2 : ∀ x ∈ K, B8 x
  b3 : ∀ r ∈ T, (Lit.int .i64 r.f0).wf = true ∧ (Lit.int .u64 r.f1).wf = true
set_option maxRecDepth 100000 in
theorem open_node {r : Reach} {b0 : Nat} {v : Value} {d : DataW H} {p : List MemPlace} (hv : Value.okWide Try.prog w r b0 79 v) (h : DataW.Trod enc Try.prog w base (fun _ => true) held 79 v d p) :
    ∃ a0 A1 c1 I A2 c2 K A3 c3 T, v = .agg #[.bool a0, .slice A1 I.length c1, .slice A2 K.length c2, .slice A3 T.length c3] ∧ NodeIn w a0 A1 c1 I A2 c2 K A3 c3 T := by
  obtain ⟨cs, n, rfl, sz, fl⟩ := open_agg Try.underlying79 (by kernel_rfl) (by kernel_rfl) hv h
  obtain ⟨a0, e0⟩ := fld_bool Try.underlying4 (fl 0 _ rfl)
  obtain ⟨x1, y1, e1, h1⟩ := fl 1 _ rfl
  obtain ⟨x2, y2, e2, h2⟩ := fl 2 _ rfl
  obtain ⟨x3, y3, e3, h3⟩ := fl 3 _ rfl
  obtain ⟨A1, c1, I, rfl, r1, l1, m1, b1⟩ := row_of k87 Try.underlying75 (by kernel_rfl) (fun hl h => item_of hl h) h1
  obtain ⟨A2, c2, K, rfl, r2, l2, m2, b2⟩ := row_of (Kd.slice 5 (Kd.int .u8)) Try.underlying76 (by kernel_rfl) (fun hl h => by_of hl h) h2
  obtain ⟨A3, c3, T, rfl, r3, l3, m3, b3⟩ := row_of k90 Try.underlying77 (by kernel_rfl) (fun hl h => kid_of hl h) h3
  obtain rfl : cs = #[.bool a0, .slice A1 I.length c1, .slice A2 K.length c2, .slice A3 T.length c3] := arr_of (l := [.bool a0, .slice A1 I.length c1, .slice A2 K.length c2, .slice A3 T.length c3]) sz ⟨e0, e1, e2, e3, trivial⟩
  exact ⟨a0, A1, c1, I, A2, c2, K, A3, c3, T, rfl, r1, r2, r3, l1, l2, l3, m1, m2, m3, b1, b2, b3⟩
end
end Go.Proofs.Ytfgeffmlfbeodaa.Stru
