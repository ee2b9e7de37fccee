/- Small laws of this workplace for the printed walks: a constant slice of bytes reads as its bytes. -/
import Derived.Lib.SmallJoins
import Derived.Lib.AppendStr
import Derived.Lib.SliceRun
import Derived.WalkSpells
import Derived.Test.YtfgeffmlfbeodaaWMore
namespace Go.Proofs.Ytfgeffmlfbeodaa.Own
open Go.RowKit Go.Proofs.YtfgeffmlfbeodaaW.PrintWords

theorem run_mark {P : Program} (w : World) (t e : TypeId) (C : Array Value) (n c g : Nat) (hg : g = w.heap.size) (ht : P.underlying t = some (.slice e)) (he : P.underlying e = some (.int .u8)) :
    (convert t t (.slice (some ⟨g, 0, none⟩) n c)).run P (w.alloc (.cells C e)) = .ok (.slice (some ⟨g, 0, none⟩) n c) (w.alloc (.cells C e (C.size, C.size + 1))) := by
  subst hg; exact Go.Lib.run_convert_bytes_const w t e C n c ht he

theorem step_mark {P : Program} {ops : Array Oper} {o : Oper} {a : Act} {Q : Exit → Act → World → Prop} {rest : List Oper} {W : World} (hgd : o.guard = none) (W0 : World) (t e : TypeId) (x : Operand) (C : Array Value) (n c g : Nat)
    (ho : o.op = .convert t t x) (hx : a.eval x = .slice (some ⟨g, 0, none⟩) n c) (hW : W = W0.alloc (.cells C e)) (hg : g = W0.heap.size) (ht : P.underlying t = some (.slice e)) (he : P.underlying e = some (.int .u8))
    (h : wpList P ops Q rest (a.put o.dst (.slice (some ⟨g, 0, none⟩) n c)) (W0.alloc (.cells C e (C.size, C.size + 1)))) : wpList P ops Q (o :: rest) a W := by
  refine Kd.event_run hgd (v := .slice (some ⟨g, 0, none⟩) n c) (w1 := W0.alloc (.cells C e (C.size, C.size + 1))) ?_ h
  rw [hW]
  have := run_mark (P := P) W0 t e C n c g hg ht he
  simp only [execOp, ho, hx]
  rw [Sem.run_bind, this]
  rfl

theorem C_mark (w : World) (g n : Nat) (hg : g = w.heap.size) (hm : n ≤ 9223372036854775807) (C : Array Value) (e : Nat) (fr : Nat × Nat) (xs : List Int) (hn : xs.length = n) (h : C.toList = nums .u8 xs) :
    Kd.C (Kd.int .u8) (w.alloc (.cells C e fr)) (some ⟨g, 0, none⟩) n xs := by
  refine ⟨hn, hm, fun _ => ⟨_, rfl, fun j p hj => ⟨[.int .u8 p], rfl, rfl, fun i u hu => ?_⟩⟩⟩
  cases i with
  | succ i => simp at hu
  | zero =>
    obtain rfl : Value.int .u8 p = u := by simpa using hu
    subst hg
    have hc : C[j]? = some (.int .u8 p) := by
      rw [← Array.getElem?_toList, h]; simp [nums, hj]
    have := World.cell?_alloc_mark w C e fr j
    have ha : (⟨w.heap.size, 0, none⟩ : Addr).add (j * 1 + 0) = ⟨w.heap.size, j, none⟩ := by
      simp only [Addr.add, Nat.mul_one, Nat.add_zero, Nat.zero_add]
      split
      · rename_i h0; subst h0; rfl
      · rfl
    show World.cell? _ ((⟨w.heap.size, 0, none⟩ : Addr).add (j * 1 + 0)) = _
    rw [ha, this, hc]
/-- Where a string's bytes have gone: into the row's own block, or into a new one. -/
theorem str_at {P : Program} (w : World) (base : Nat) (t u ty e : TypeId) (i : TypeInfo) (ht : P.underlying t = some (.slice e)) (hu : P.underlying u = some .string) (hi : P.info? e = some i) (hz : i.zero = some (.int .u8 0)) (hsize : i.size = 1) (hby : i.bytes = 1)
    (v : Value) (n : Nat) (xs : List Value) (hown : w.ownsRow base e 1 v n xs) (s : ByteArray) (h63 : n + s.size ≤ maxLen) (hbytes : n + s.size ≤ 140737488355328) {v' : Value} {w' : World}
    (hr : (Builtin.append_ #[t, u] ty #[v, .string s]).run P w = .ok v' w') (hnil : v' = .slice none 0 0 ↔ v = .slice none 0 0 ∧ s.size = 0) : ∀ k, v'.ownBlock = some k → v.ownBlock = some k ∨ w.heap.size ≤ k := by
  have hsmall : n + s.size ≤ 9223372036854775807 := by simp only [maxLen] at h63; omega
  intro k hk
  have hxl : xs.length = n := by simpa using hown.1
  rcases hown.2 with ⟨rfl, rfl⟩ | ⟨g, cap, cur, rfl, hbg, hg, hnc, hcm, hcs, htake⟩
  · by_cases hm : s.size = 0
    · rw [hnil.2 ⟨rfl, hm⟩] at hk; simp [Value.ownBlock] at hk
    · have h2 := Go.run_append_nil_string (P := P) w t u ty e i (.int .u8 0) ht hu hi hz s (by omega) (by omega) (by rw [hby]; omega)
      rw [h2] at hr
      injection hr with hv _
      rw [← hv] at hk
      simp [Value.ownBlock] at hk
      exact .inr (by omega)
  · by_cases hroom : n + s.size ≤ cap
    · have hcs' : cur.size = cap := by simpa using hcs
      have h2 := Go.Lib.run_append_room_string (P := P) w t u ty e i ht hu hi hsize g n cap cur hg s hroom (by omega)
      rw [h2] at hr
      injection hr with hv _
      rw [← hv] at hk
      exact .inl hk
    · have holds : ∀ j u, xs[j]? = some u → w.cell? ((⟨g, 0, none⟩ : Addr).add j) = some u := hown.cells (g := g) rfl
      have h2 := Go.Lib.run_append_grow_string (P := P) w t u ty e i (.int .u8 0) ht hu hi hz ⟨g, 0, none⟩ n cap xs (by rw [hsize]; simpa using hxl) holds s (by omega) (by omega) (by rw [hby]; exact growslice_fits (by omega) (by omega))
      rw [h2] at hr
      injection hr with hv _
      rw [← hv] at hk
      simp [Value.ownBlock] at hk
      exact .inr (by omega)
/-- A string's bytes appended to a row of the call's own, as one step of a region. -/
theorem append_str_step {P : Program} {ops : Array Oper} {o : Oper} {a : Act} {Q : Exit → Act → World → Prop} {Kc : Act → World → Prop} {w0 W : World} (base : Nat) (hw : Region.wanted o (yielded ops a.tmps) = true) (s x : Operand) (t u e : TypeId)
    (ho : o.op = .call { callee := .builtin .append, args := #[s, x], argTypes := #[t, u] })
    (ht : P.underlying t = some (.slice e)) (hu : P.underlying u = some .string) (hinfo : (P.info? e).map (fun i => (i.zero, i.size, i.bytes)) = some (some (.int .u8 0), 1, 1))
    (v : Value) (xs : List Int) (y : ByteArray) (hs : a.eval s = v) (hx : a.eval x = .string y)
    (HO : W.ownsRow base e 1 v xs.length (nums .u8 xs)) (HB : Below base w0 W) (hbase : base ≤ W.heap.size) (hl : xs.length + y.size ≤ 140737488355328)
    (h : ∀ v1 w1, w1.ownsRow base e 1 v1 (xs ++ bytesOf y).length (nums .u8 (xs ++ bytesOf y)) → Below base w0 w1 → W.grownBy w1 v.ownBlock → (∀ k, v1.ownBlock = some k → v.ownBlock = some k ∨ W.heap.size ≤ k) → Kc (a.put o.dst v1) w1) :
    if Region.wanted o (yielded ops a.tmps) = true then Oper.wp P o a W Kc Q else Kc (a.put o.dst undef) W := by
  obtain ⟨i0, hi, hzz⟩ := Option.map_eq_some_iff.1 hinfo
  simp only [Prod.mk.injEq] at hzz
  obtain ⟨hz0, hz1, hz2⟩ := hzz
  obtain ⟨v1, w1, hr1, h2, hg, hnil⟩ := Go.Lib.run_append_own_string (P := P) W base t u o.type e i0 ht hu hi hz0 hz1 hz2 v xs.length (nums .u8 xs) HO y (by simp only [maxLen]; omega) hl hbase
  have hl2 : (xs ++ bytesOf y).length = xs.length + y.size := by rw [List.length_append, bytesOf_length]
  have hc : nums .u8 (xs ++ bytesOf y) = nums .u8 xs ++ Lib.strCells y := by
    rw [nums_append]
    congr 1
    simp [nums, bytesOf, Lib.strCells]
  rw [if_pos hw]
  unfold Oper.wp execOp
  simp only [ho, resolve, invoke, builtin, Sem.run_bind, Sem.run_pure, Result.andThen_ok, List.map_toArray, List.map_cons, List.map_nil, hs, hx, hr1]
  exact h v1 w1 (by rw [hl2, hc]; exact h2) (HB.grown hg hbase (own_base HO)) hg (str_at W base t u o.type e i0 ht hu hi hz0 hz1 hz2 v xs.length (nums .u8 xs) HO y (by simp only [maxLen]; omega) hl hr1 hnil)
theorem append_str_at {P : Program} {ops : Array Oper} {o : Oper} {a : Act} {Q : Exit → Act → World → Prop} {rest : List Oper} {w0 W : World} (base : Nat) (hgd : o.guard = none) (s x : Operand) (t u e : TypeId)
    (ho : o.op = .call { callee := .builtin .append, args := #[s, x], argTypes := #[t, u] })
    (ht : P.underlying t = some (.slice e)) (hu : P.underlying u = some .string) (hinfo : (P.info? e).map (fun i => (i.zero, i.size, i.bytes)) = some (some (.int .u8 0), 1, 1))
    (v : Value) (xs : List Int) (y : ByteArray) (hs : a.eval s = v) (hx : a.eval x = .string y)
    (HO : W.ownsRow base e 1 v xs.length (nums .u8 xs)) (HB : Below base w0 W) (hbase : base ≤ W.heap.size) (hl : xs.length + y.size ≤ 140737488355328)
    (h : ∀ v1 w1, w1.ownsRow base e 1 v1 (xs ++ bytesOf y).length (nums .u8 (xs ++ bytesOf y)) → Below base w0 w1 → W.grownBy w1 v.ownBlock → (∀ k, v1.ownBlock = some k → v.ownBlock = some k ∨ W.heap.size ≤ k) → wpList P ops Q rest (a.put o.dst v1) w1) :
    wpList P ops Q (o :: rest) a W := by
  obtain ⟨i0, hi, hzz⟩ := Option.map_eq_some_iff.1 hinfo
  simp only [Prod.mk.injEq] at hzz
  obtain ⟨hz0, hz1, hz2⟩ := hzz
  obtain ⟨v1, w1, hr1, h2, hg, hnil⟩ := Go.Lib.run_append_own_string (P := P) W base t u o.type e i0 ht hu hi hz0 hz1 hz2 v xs.length (nums .u8 xs) HO y (by simp only [maxLen]; omega) hl hbase
  have hl2 : (xs ++ bytesOf y).length = xs.length + y.size := by rw [List.length_append, bytesOf_length]
  have hc : nums .u8 (xs ++ bytesOf y) = nums .u8 xs ++ Lib.strCells y := by
    rw [nums_append]
    congr 1
    simp [nums, bytesOf, Lib.strCells]
  refine Kd.event_run (v := v1) (w1 := w1) hgd ?_ (h v1 w1 (by rw [hl2, hc]; exact h2) (HB.grown hg hbase (own_base HO)) hg (str_at W base t u o.type e i0 ht hu hi hz0 hz1 hz2 v xs.length (nums .u8 xs) HO y (by simp only [maxLen]; omega) hl hr1 hnil))
  unfold execOp
  simp only [ho, resolve, invoke, builtin, Sem.run_bind, Sem.run_pure, Result.andThen_ok, List.map_toArray, List.map_cons, List.map_nil, hs, hx, hr1]
/-! Short names, so that a printed text fits the bound on a file's size. -/
section
variable {α : Type} {d : Kd α} {e : Nat} {w : World} {base : Nat} {ok : Nat → Prop} {v : Value} {xs : List α} {w0 W : World} {B : Nat}
theorem rA (h : d.R e w base ok v xs) (o : Obj) : d.R e (w.alloc o) base ok v xs := Kd.R_alloc h o
theorem rN (h : d.R e w base ok v xs) (n : Nat) : d.R e (w.drewN n) base ok v xs := Kd.R_drewN h n
theorem bA (h : Below w0.heap.size w0 W) (o : Obj) : Below w0.heap.size w0 (W.alloc o) := below_alloc h o
theorem bN (h : Below B w0 W) (n : Nat) : Below B w0 (W.drewN n) := pw_below_drewN h n
theorem bD (h : Below B w0 W) : Below B w0 W.drew := below_drew1 h
theorem rD (h : d.R e w base ok v xs) : d.R e w.drew base ok v xs := Kd.R_drew h
end
theorem nil_yes {A : Option Addr} {n c : Nat} (h : Value.slice A n c = .slice none 0 0) : A.isNone = true := by
  injection h with h1 _ _
  rw [h1]; rfl
theorem nil_no {α : Type} {d : Kd α} {e : Nat} {W : World} {base : Nat} {ok : Nat → Prop} {A : Option Addr} {n c : Nat} {xs : List α} (h : d.R e W base ok (.slice A n c) xs) (hx : ¬ xs = []) : A.isNone = false := by
  obtain ⟨_, inner, ho, _⟩ := h
  rcases ho.2 with ⟨h1, h2⟩ | ⟨g, cap, cur, h1, _⟩
  · exfalso
    have := List.eq_nil_of_length_eq_zero h2
    exact hx this
  · injection h1 with h1 _ _
    rw [h1]; rfl
theorem nil_noV {α : Type} {d : Kd α} {e : Nat} {W : World} {base : Nat} {ok : Nat → Prop} {A : Option Addr} {n c : Nat} {xs : List α} (h : Kd.V d e W base ok (.slice A n c) xs) (hx : ¬ xs = []) : A.isNone = false := by
  have hC := (Kd.V_reads' h).2.2
  have h0 : 0 < xs.length := List.length_pos_iff.2 hx
  obtain ⟨ad, hA, _⟩ := hC.2.2 h0
  rw [hA]; rfl
theorem step_isnil {P : Program} {ops : Array Oper} {o : Oper} {a : Act} {Q : Exit → Act → World → Prop} {rest : List Oper} {W : World} (hgd : o.guard = none) (t e : TypeId) (x : Operand) (t2 : TypeId) (A : Option Addr) (n c : Nat) (n' : Nat) (b : Bool)
    (ho : o.op = .binOp .eql t x (.const (.slice none n' 0)) t2) (hx : a.eval x = .slice A n c) (hb : A.isNone = b) (ht : P.underlying t = some (.slice e))
    (h : wpList P ops Q rest (a.put o.dst (.bool b)) W) : wpList P ops Q (o :: rest) a W := by
  refine Kd.event_run hgd (v := .bool b) (w1 := W) ?_ h
  have h0 := Go.Lib.run_eql_slice_nil (P := P) W t e A n c n' 0 ht
  rw [hb] at h0
  have e2 : a.eval (.const (.slice none n' 0)) = .slice none n' 0 := rfl
  have g0 : eqGuard .eql t x (.const (.slice none n' 0)) (.slice A n c) (.slice none n' 0) = (pure () : Sem Unit) := rfl
  simp only [execOp, ho, hx, e2, g0, Sem.run_bind, Sem.run_pure, Result.andThen_ok, h0]
theorem step_nnil {P : Program} {ops : Array Oper} {o : Oper} {a : Act} {Q : Exit → Act → World → Prop} {rest : List Oper} {W : World} (hgd : o.guard = none) (t e : TypeId) (x : Operand) (t2 : TypeId) (A : Option Addr) (n c : Nat) (n' : Nat) (b : Bool)
    (ho : o.op = .binOp .neq t x (.const (.slice none n' 0)) t2) (hx : a.eval x = .slice A n c) (hb : A.isNone = b) (ht : P.underlying t = some (.slice e))
    (h : wpList P ops Q rest (a.put o.dst (.bool (!b))) W) : wpList P ops Q (o :: rest) a W := by
  refine Kd.event_run hgd (v := .bool (!b)) (w1 := W) ?_ h
  have h0 := Go.run_neq_slice_nil_any (P := P) W t e A n c n' 0 ht
  rw [hb] at h0
  have e2 : a.eval (.const (.slice none n' 0)) = .slice none n' 0 := rfl
  have g0 : eqGuard .neq t x (.const (.slice none n' 0)) (.slice A n c) (.slice none n' 0) = (pure () : Sem Unit) := rfl
  simp only [execOp, ho, hx, e2, g0, Sem.run_bind, Sem.run_pure, Result.andThen_ok, h0]
end Go.Proofs.Ytfgeffmlfbeodaa.Own
