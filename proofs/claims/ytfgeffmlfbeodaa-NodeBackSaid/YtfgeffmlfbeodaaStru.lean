/- Structs that come in by value: each field is read. No program here. -/
import Derived.Lib.SmallJoins
import Derived.Deep.Slices
import Derived.Deep.Fields
import Derived.SizedLaws
namespace Go.Proofs.Ytfgeffmlfbeodaa.Stru
open Go.ChangeShapes Go.WideShapes Go.RowKit Go.Deep
def IsRow (k : IntKind) (w : World) (a : Option Addr) (len cap : Nat) (zs : List Int) : Prop :=
  (a = none ∧ len = 0 ∧ cap = 0 ∧ zs = []) ∨
  ∃ x, a = some x ∧ len ≤ cap ∧ cap ≤ maxLen ∧ zs.length = cap ∧ (∀ i, i < zs.length → w.cell? (x.add i) = some (.int k (zs.getD i 0))) ∧ ∀ n ∈ zs, (Lit.int k n).wf = true
def AllAt (cs : Array Value) : Nat → List Value → Prop
  | _, [] => True
  | i, x :: r => cs[i]? = some x ∧ AllAt cs (i + 1) r
theorem AllAt.get {cs : Array Value} : ∀ (l : List Value) (i j : Nat), AllAt cs i l → j < l.length → cs[i + j]? = l[j]?
  | [], _, j, _, hj => absurd hj (Nat.not_lt_zero j)
  | x :: r, i, 0, h, _ => h.1
  | x :: r, i, j + 1, h, hj => by
    have := AllAt.get r (i + 1) j h.2 (by simpa using hj)
    rw [show i + (j + 1) = i + 1 + j by omega, this]; simp
theorem arr_of {cs : Array Value} {l : List Value} (hs : cs.size = l.length) (h : AllAt cs 0 l) : cs = l.toArray := by
  apply Array.ext_getElem?
  intro j
  by_cases hj : j < l.length
  · have := AllAt.get l 0 j h hj
    rw [Nat.zero_add] at this
    rw [this]; simp
  · rw [Array.getElem?_eq_none (by omega), Array.getElem?_eq_none (by simp; omega)]
section
variable {H : Type} {enc : TypeId × Value → H} {P : Program} {w : World} {base : Nat} {held : Bool}
theorem open_agg {spare : Nat → Bool} {r : Reach} {b0 : Nat} {t : TypeId} {fs : Array Field} {v : Value} {d : DataW H} {p : List MemPlace} (hs : P.underlying t = some (.struct fs)) (hone : oneCellFields P fs = true) (hC : P.cellsOf t = fs.size)
    (hv : Value.okWide P w r b0 t v) (h : DataW.Trod enc P w base spare held t v d p) :
    ∃ (cs : Array Value) (n : Nat), v = .agg cs ∧ cs.size = fs.size ∧ ∀ (j : Nat) (f : Field), fs[j]? = some f → ∃ (x : Value) (y : DataW H × List MemPlace), cs[j]? = some x ∧ DataW.trod enc P w base spare held n f.type [x] = some y := by
  obtain ⟨cs, rfl, hsz⟩ := okWide_struct hs hv
  obtain ⟨fuel, hf⟩ := h
  obtain ⟨xs, n, _, _, _, hlen, hg⟩ := DataW.trod_struct hs hf
  refine ⟨cs, n, rfl, hsz.trans hC, fun j f hj => ?_⟩
  obtain ⟨ho, hk⟩ := hone_of hone j f hj
  have hjl : j < fs.size := (Array.getElem?_eq_some_iff.1 hj).1
  have hcl : j < cs.size := by rw [hsz, hC]; exact hjl
  have h1 := hg j f hj
  rw [ho, hk] at h1
  have h2 : ((Value.agg cs).cells.toList.drop j).take 1 = [cs[j]'hcl] := by
    show ((cs.toList).drop j).take 1 = _
    rw [List.drop_eq_getElem_cons (by simpa using hcl)]
    simp
  rw [h2] at h1
  have hx : xs[j]? = some (xs[j]'(by omega)) := List.getElem?_eq_getElem (by omega)
  exact ⟨cs[j]'hcl, _, Array.getElem?_eq_getElem hcl, h1.trans hx⟩
theorem fld_int {spare : Nat → Bool} {n : Nat} {t : TypeId} {cs : Array Value} {j : Nat} {k : IntKind} (hu : P.underlying t = some (.int k)) (h : ∃ (x : Value) (y : DataW H × List MemPlace), cs[j]? = some x ∧ DataW.trod enc P w base spare held n t [x] = some y) : ∃ a, cs[j]? = some (.int k a) ∧ (Lit.int k a).wf = true := by
  obtain ⟨x, y, hx, hy⟩ := h
  obtain ⟨a, e, _, hw⟩ := DataW.trod_int hu hy
  obtain rfl : x = .int k a := by simpa using e
  exact ⟨a, hx, hw⟩
theorem fld_bool {spare : Nat → Bool} {n : Nat} {t : TypeId} {cs : Array Value} {j : Nat} (hu : P.underlying t = some .bool) (h : ∃ (x : Value) (y : DataW H × List MemPlace), cs[j]? = some x ∧ DataW.trod enc P w base spare held n t [x] = some y) : ∃ a, cs[j]? = some (.bool a) := by
  obtain ⟨x, y, hx, hy⟩ := h
  obtain ⟨a, e, _⟩ := DataW.trod_bool hu hy
  obtain rfl : x = .bool a := by simpa using e
  exact ⟨a, hx⟩
theorem fld_str {spare : Nat → Bool} {n : Nat} {t : TypeId} {cs : Array Value} {j : Nat} (hu : P.underlying t = some .string) (h : ∃ (x : Value) (y : DataW H × List MemPlace), cs[j]? = some x ∧ DataW.trod enc P w base spare held n t [x] = some y) : ∃ a : ByteArray, cs[j]? = some (.string a) ∧ a.size ≤ maxLen := by
  obtain ⟨x, y, hx, hy⟩ := h
  obtain ⟨a, e, _, hw⟩ := DataW.trod_string hu hy
  obtain rfl : x = .string a := by simpa using e
  exact ⟨a, hx, hw⟩
theorem fld_row {n : Nat} {t e : TypeId} {cs : Array Value} {j : Nat} {k : IntKind} (hu : P.underlying t = some (.slice e)) (he : P.underlying e = some (.int k)) (hc : P.cellsOf e = 1) (h : ∃ (x : Value) (y : DataW H × List MemPlace), cs[j]? = some x ∧ DataW.trod enc P w base (fun _ => true) held n t [x] = some y) :
    ∃ (a : Option Addr) (len cap : Nat) (zs : List Int), cs[j]? = some (.slice a len cap) ∧ IsRow k w a len cap zs := by
  obtain ⟨x, y, hx, hy⟩ := h
  rcases open_ints hu he hc hy with ⟨hcs, _⟩ | ⟨a, l, c, zs, hcs, _, hl, hm, hz, _, hcell, hwz⟩
  · obtain rfl : x = .slice none 0 0 := by simpa using hcs
    exact ⟨none, 0, 0, [], hx, .inl ⟨rfl, rfl, rfl, rfl⟩⟩
  · obtain rfl : x = .slice (some a) l c := by simpa using hcs
    exact ⟨some a, l, c, zs, hx, .inr ⟨_, rfl, hl, hm, by simpa using hz, hcell, hwz⟩⟩
/-- A string that lies in a field of a struct is no longer than a machine reaches. -/
theorem sized_fld {spare : Nat → Bool} {ts : List TypeId} {ds : List (DataW H)} (hsz : (DataW.weightsEach P ts ds).all (· ≤ reachBytes) = true) {t : TypeId} {fs : Array Field} (hs : P.underlying t = some (.struct fs)) (hone : oneCellFields P fs = true)
    {i0 : Nat} {d : DataW H} {p : List MemPlace} {cs : Array Value} (ht : ts[i0]? = some t) (hd : ds[i0]? = some d) (h : DataW.Trod enc P w base spare held t (.agg cs) d p) (j : Nat) (f : Field) (hj : fs[j]? = some f) (hu : P.underlying f.type = some .string) {a : ByteArray} (hc : cs[j]? = some (.string a)) : a.size ≤ 140737488351232 := by
  obtain ⟨fuel, hf⟩ := h
  obtain ⟨xs, n, _, hx, _, hlen, hg⟩ := DataW.trod_struct hs hf
  obtain ⟨ho, hk⟩ := hone_of hone j f hj
  have h1 := hg j f hj
  have hcl : j < cs.size := (Array.getElem?_eq_some_iff.1 hc).1
  have hce : cs[j]'hcl = .string a := (Array.getElem?_eq_some_iff.1 hc).2
  rw [ho, hk] at h1
  have h2 : ((Value.agg cs).cells.toList.drop j).take 1 = [.string a] := by
    show ((cs.toList).drop j).take 1 = _
    rw [List.drop_eq_getElem_cons (by simpa using hcl)]
    simp [hce]
  rw [h2] at h1
  have hjl : j < xs.length := by rw [hlen]; exact (Array.getElem?_eq_some_iff.1 hj).1
  rw [List.getElem?_eq_getElem hjl] at h1
  obtain ⟨b, e, hy, _⟩ := DataW.trod_string hu h1
  obtain rfl : a = b := by simpa using e
  obtain rfl : d = .agg (xs.map (·.1)) := congrArg (fun q => q.1) hx
  have hm : a.data.toList.length ∈ DataW.weights P t (.agg (xs.map (·.1))) := by
    unfold DataW.weights
    rw [hs]
    refine DataW.weights_mem_each (j := j) (t := f.type) (d := .lit (.string a.data.toList)) (by simp [hj]) (by simp [List.getElem?_eq_getElem hjl, hy]) _ (by simp [DataW.weights])
  have := List.all_eq_true.1 hsz _ (DataW.weights_mem_each ht hd _ hm)
  exact of_decide_eq_true this
end
end Go.Proofs.Ytfgeffmlfbeodaa.Stru
