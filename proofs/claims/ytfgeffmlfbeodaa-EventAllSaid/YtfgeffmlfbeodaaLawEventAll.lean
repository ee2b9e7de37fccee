/- The row of the law EventAll, out of its walk; no condition. -/
import Derived.Test.YtfgeffmlfbeodaaRows
import Derived.Test.YtfgeffmlfbeodaaPureEventAll
import Derived.WalkKit
import Derived.ProofKit
import Derived.OpenShut
import Derived.ShutString
import Derived.ChangeOld
import Derived.Below
import Derived.SizedLaws
import Derived.Test.YtfgeffmlfbeodaaWSized
import Derived.Lib.SmallJoins
import Derived.Deep.Slices
import Derived.Deep.Fields
import Derived.Test.YtfgeffmlfbeodaaStru
namespace Go.Proofs.Ytfgeffmlfbeodaa.eventAll
open Go.ChangeShapes Go.WideShapes Go.ChangeAt Go.RowKit
open Go.ChangeMaps (open_string shut_string)
set_option linter.unusedVariables false
theorem own : ownKnob Try.prog.godebug = none := by kernel_rfl
theorem laidOut : laidOutB Try.prog = true := by kernel_rfl
def IsRow (k : IntKind) (w : World) (a : Option Addr) (len cap : Nat) (zs : List Int) : Prop :=
  (a = none ∧ len = 0 ∧ cap = 0 ∧ zs = []) ∨
  ∃ x, a = some x ∧ len ≤ cap ∧ cap ≤ maxLen ∧ zs.length = cap ∧ (∀ i, i < zs.length → w.cell? (x.add i) = some (.int k (zs.getD i 0))) ∧ ∀ n ∈ zs, (Lit.int k n).wf = true
open Go.Proofs.Ytfgeffmlfbeodaa.Stru (open_agg fld_int fld_bool fld_str fld_row arr_of sized_fld)
set_option maxRecDepth 100000 in
theorem lifted (os : Os) (started : os.Started) (H : Type) (enc : TypeId × Value → H) :
    ReturnsInHanded {} Try.checked os 3 .any (Rows.eventAllSpec.pre6 enc Try.prog Try.f3 Rows.eventAllRow.domain false) (Rows.eventAllSpec.post enc Try.prog Try.f3 false true false false) := by
  refine returnsInHanded_of_change_sized (C := Try.checked) own started (by kernel_rfl) Try.func3
    (ChangeSpec.witness6 (enc := enc) (C := Try.checked) false ⟨#[], #[.agg #[.int .i64 0, .string ByteArray.empty, .int .i64 0, .string ByteArray.empty, .slice none 0 0], .agg #[.int .i64 0, .string ByteArray.empty, .int .i64 0, .string ByteArray.empty, .slice none 0 0], .slice none 0 0], []⟩ 8 (by kernel_rfl) (by kernel_rfl) (by kernel_rfl) (by kernel_rfl)) ?_
  intro W base args ds gs before hval0 hW hcnd hsz0 _
  have hsz : (DataW.weightsEach Try.prog (Try.f3.params.toList ++ Rows.eventAllSpec.plain.varTypes Try.prog) (ds ++ gs)).all (· ≤ reachBytes) = true := hsz0
  have hval : ∀ (j : Nat) t v, Try.f3.params[j]? = some t → args[j]? = some v → Value.okWide Try.prog W .any base t v := hval0
  have hW' := hW
  obtain ⟨p, q, hA0, hV, rfl, hfz, hnd⟩ := hW
  have hA : DataW.TrodAll enc Try.prog W 0 (fun _ => true) true Try.f3.params.toList args.toList ds p := hA0
  rw [Try.params3] at hA hval hsz
  obtain ⟨v0, vs0, d0, ds0, p0, q0, hargs, rfl, rfl, h0, r0⟩ := trodAll_cons hA
  obtain ⟨v1, vs1, d1, ds1, p1, q1, rfl, rfl, rfl, h1, r1⟩ := trodAll_cons r0
  obtain ⟨v2, vs2, d2, ds2, p2, q2, rfl, rfl, rfl, h2, r2⟩ := trodAll_cons r1
  obtain ⟨rfl, rfl, rfl⟩ := trodAll_nil r2
  obtain rfl : args = #[v0, v1, v2] := by cases args; simp_all
  obtain ⟨rfl, rfl⟩ := trodVars_none hV
  have k0 := h0
  have lt0 : ∀ x ∈ p0, x.block < W.heap.size := by obtain ⟨m, hm⟩ := k0; exact DataW.trod_lt m _ _ _ hm
  obtain ⟨cs0, n0, e0, sz0, fl0⟩ := open_agg Try.underlying24 (by kernel_rfl) (by kernel_rfl) (hval 0 24 v0 rfl rfl) h0
  obtain ⟨a0_0, c0_0, w0_0⟩ := fld_int Try.underlying2 (fl0 0 _ rfl)
  obtain ⟨a0_1, c0_1, w0_1⟩ := fld_str Try.underlying9 (fl0 1 _ rfl)
  obtain ⟨a0_2, c0_2, w0_2⟩ := fld_int Try.underlying2 (fl0 2 _ rfl)
  obtain ⟨a0_3, c0_3, w0_3⟩ := fld_str Try.underlying9 (fl0 3 _ rfl)
  obtain ⟨a0_4, len0_4, cap0_4, z0_4, c0_4, w0_4⟩ := fld_row Try.underlying22 Try.underlying5 (by kernel_rfl) (fl0 4 _ rfl)
  obtain rfl : cs0 = #[.int .i64 a0_0, .string a0_1, .int .i64 a0_2, .string a0_3, .slice a0_4 len0_4 cap0_4] := arr_of (l := [.int .i64 a0_0, .string a0_1, .int .i64 a0_2, .string a0_3, .slice a0_4 len0_4 cap0_4]) sz0 ⟨c0_0, c0_1, c0_2, c0_3, c0_4, trivial⟩
  subst e0
  replace w0_1 := sized_fld hsz (i0 := 0) (t := 24) Try.underlying24 (by kernel_rfl) rfl rfl h0 1 _ rfl Try.underlying9 rfl
  replace w0_3 := sized_fld hsz (i0 := 0) (t := 24) Try.underlying24 (by kernel_rfl) rfl rfl h0 3 _ rfl Try.underlying9 rfl
  have k1 := h1
  have lt1 : ∀ x ∈ p1, x.block < W.heap.size := by obtain ⟨m, hm⟩ := k1; exact DataW.trod_lt m _ _ _ hm
  obtain ⟨cs1, n1, e1, sz1, fl1⟩ := open_agg Try.underlying24 (by kernel_rfl) (by kernel_rfl) (hval 1 24 v1 rfl rfl) h1
  obtain ⟨a1_0, c1_0, w1_0⟩ := fld_int Try.underlying2 (fl1 0 _ rfl)
  obtain ⟨a1_1, c1_1, w1_1⟩ := fld_str Try.underlying9 (fl1 1 _ rfl)
  obtain ⟨a1_2, c1_2, w1_2⟩ := fld_int Try.underlying2 (fl1 2 _ rfl)
  obtain ⟨a1_3, c1_3, w1_3⟩ := fld_str Try.underlying9 (fl1 3 _ rfl)
  obtain ⟨a1_4, len1_4, cap1_4, z1_4, c1_4, w1_4⟩ := fld_row Try.underlying22 Try.underlying5 (by kernel_rfl) (fl1 4 _ rfl)
  obtain rfl : cs1 = #[.int .i64 a1_0, .string a1_1, .int .i64 a1_2, .string a1_3, .slice a1_4 len1_4 cap1_4] := arr_of (l := [.int .i64 a1_0, .string a1_1, .int .i64 a1_2, .string a1_3, .slice a1_4 len1_4 cap1_4]) sz1 ⟨c1_0, c1_1, c1_2, c1_3, c1_4, trivial⟩
  subst e1
  replace w1_1 := sized_fld hsz (i0 := 1) (t := 24) Try.underlying24 (by kernel_rfl) rfl rfl h1 1 _ rfl Try.underlying9 rfl
  replace w1_3 := sized_fld hsz (i0 := 1) (t := 24) Try.underlying24 (by kernel_rfl) rfl rfl h1 3 _ rfl Try.underlying9 rfl
  obtain ⟨a2, len2, cap2, rfl⟩ := okWide_slice Try.underlying22 (hval 2 22 v2 rfl rfl)
  have k2 := h2
  have lt2 : ∀ x ∈ p2, x.block < W.heap.size := by obtain ⟨m, hm⟩ := k2; exact DataW.trod_lt m _ _ _ hm
  obtain ⟨z2, w2⟩ : ∃ zs, IsRow .u8 W a2 len2 cap2 zs := by
    obtain ⟨fuel, hf⟩ := h2
    rcases open_ints Try.underlying22 Try.underlying5 (by kernel_rfl) hf with ⟨hcs, _⟩ | ⟨x, l, c, zs, hcs, _, hl, hm, hz, _, hcell, hwz⟩
    · simp [Value.cells] at hcs
      obtain ⟨rfl, rfl, rfl⟩ := hcs
      exact ⟨[], .inl ⟨rfl, rfl, rfl, rfl⟩⟩
    · simp [Value.cells] at hcs
      obtain ⟨rfl, rfl, rfl⟩ := hcs
      exact ⟨zs, .inr ⟨_, rfl, hl, hm, by simpa using hz, hcell, hwz⟩⟩
  have y2 : len2 * 1 ≤ 140737488351232 := Go.Proofs.YtfgeffmlfbeodaaW.PrintWords.sized_ints hsz (j := 2) (t := 22) rfl rfl Try.underlying22 Try.underlying5 (by kernel_rfl) (by kernel_rfl) h2
  clear hA0 hval0 hsz0 hsz
  refine (Pure.walk a0_0 a0_1 a0_2 a0_3 a0_4 len0_4 cap0_4 z0_4 a1_0 a1_1 a1_2 a1_3 a1_4 len1_4 cap1_4 z1_4 a2 len2 cap2 z2 W w0_0 w0_1 w0_2 w0_3 w0_4 w1_0 w1_1 w1_2 w1_3 w1_4 w2 y2).mono fun e W' ⟨he, bel⟩ => ?_
  subst he
  exact ⟨_, rfl, _, _, _, [], _, [], hW', trodAll_mk1 (shut_bool Try.underlying4 _), (trodAll_cons_mk (Below.trod laidOut (by kernel_rfl) (of_decide_eq_true (by kernel_rfl)) k0 bel lt0) (trodAll_cons_mk (Below.trod laidOut (by kernel_rfl) (of_decide_eq_true (by kernel_rfl)) k1 bel lt1) (trodAll_cons_mk (Below.trod laidOut (by kernel_rfl) (of_decide_eq_true (by kernel_rfl)) k2 bel lt2) trodAll_mk0))), rfl, bel.frame _, fun h => by cases h⟩
theorem over : Rows.eventAllRow.holds Try.pinned (OpenSpec.ofChange Rows.eventAllSpec) :=
  OpenClaim.holds_of_wide 3 Try.f3 rfl rfl rfl rfl rfl rfl rfl ⟨rfl, rfl, rfl, rfl, rfl⟩ rfl rfl rfl rfl rfl (by kernel_rfl) Try.func3 (by kernel_rfl)
    (of_decide_eq_true (by kernel_rfl)) (by unfold Func.isWrapper; first | (rw [if_pos (by decide +kernel)]; kernel_rfl) | (rw [if_neg (by decide +kernel)]; exact ⟨rfl, rfl⟩))
    (fun os started H enc _ => lifted os started H enc)
theorem proved : Rows.EventAllSaid := over
#print axioms proved
end Go.Proofs.Ytfgeffmlfbeodaa.eventAll
namespace Go.Proofs.Ytfgeffmlfbeodaa
/-- The row, under a short name, for the claim. -/
theorem eventAll_holds : Rows.EventAllSaid := eventAll.proved
end Go.Proofs.Ytfgeffmlfbeodaa
