/- DiskNames: the evaluator finds it true of all remainders, and so of all bytes. No condition. -/
import Derived.Test.YtpjkbjpjhkcofaaEvP
import Derived.Test.YtpjkbjpjhkcofaaStDiskNames
namespace Go.Proofs.Ytpjkbjpjhkcofaa.Pure
open Go Go.RowKit Go.Proofs Go.Proofs.Ytpjkbjpjhkcofaa.Ev Go.Proofs.Ytpjkbjpjhkcofaa.StDiskNames
/-- What the letters stand for. -/
def atN (n c : Int) (k r i : Nat) : Int :=
  if i < 200 then (if i = 100 + k then n else ((i - 100 : Nat) : Int)) else if i < 400 then (if i = 200 + 10 * k + r then c else (((i - 200) % 10 : Nat) : Int)) else (if i = 400 + 10 * k + r then c else (((i - 400) % 10 : Nat) : Int))
def thN (n c : Int) (k r i : Nat) : Value := if i < 400 then .int .u8 (atN n c k r i) else .int .i64 (atN n c k r i)
@[reducible] def letters (n c : Int) (k r : Nat) : Th := ⟨thN n c k r, fun i => by unfold thN; split <;> rfl, fun i b => by unfold thN; split <;> simp⟩
theorem at_conv {k' r' : Nat} (n c : Int) (k r : Nat) (hk : k' < 10) (hr : r' ≤ k') (hr2 : r ≤ k) (hk2 : k < 10) : atN n c k r (400 + 10 * k' + r') = atN n c k r (200 + 10 * k' + r') := by
  have x1 : ¬ (400 + 10 * k' + r' < 200) := by omega
  have x2 : ¬ (400 + 10 * k' + r' < 400) := by omega
  have x3 : ¬ (200 + 10 * k' + r' < 200) := by omega
  have x4 : 200 + 10 * k' + r' < 400 := by omega
  simp only [atN, if_neg x1, if_neg x2, if_neg x3, if_pos x4]
  by_cases h : 200 + 10 * k' + r' = 200 + 10 * k + r
  · rw [if_pos h, if_pos (by omega)]
  · rw [if_neg h, if_neg (by omega)]
    rw [show (400 + 10 * k' + r' - 400) % 10 = (200 + 10 * k' + r' - 200) % 10 by omega]
theorem at_c {k' r' : Nat} (n c : Int) (k r : Nat) (h0 : 0 ≤ c) (h1 : c < 256) (hc : c % (k + 1) = r) (hk : k' < 10) (hr : r' ≤ k') (hr2 : r ≤ k) (hk2 : k < 10) : 0 ≤ atN n c k r (200 + 10 * k' + r') ∧ atN n c k r (200 + 10 * k' + r') < 256 ∧ atN n c k r (200 + 10 * k' + r') % ((k' + 1 : Nat) : Int) = r' := by
  have x3 : ¬ (200 + 10 * k' + r' < 200) := by omega
  have x4 : 200 + 10 * k' + r' < 400 := by omega
  simp only [atN, if_neg x3, if_pos x4]
  by_cases h : 200 + 10 * k' + r' = 200 + 10 * k + r
  · obtain ⟨rfl, rfl⟩ : k' = k ∧ r' = r := by omega
    rw [if_pos rfl]
    exact ⟨h0, h1, by push_cast; exact hc⟩
  · rw [if_neg h]
    have e : (200 + 10 * k' + r' - 200) % 10 = r' := by omega
    rw [e]
    exact ⟨by omega, by omega, Int.emod_eq_of_lt (by omega) (by omega)⟩
theorem pairs_mem {p : Nat × Nat} (h : p ∈ pairs) : p.1 < 10 ∧ p.2 ≤ p.1 := by
  unfold pairs at h
  obtain ⟨k, hk, h⟩ := List.mem_flatMap.1 h
  obtain ⟨r, hr, rfl⟩ := List.mem_map.1 h
  rw [List.mem_range] at hk hr
  exact ⟨hk, by show r ≤ k; omega⟩
theorem run_rem (t : TypeId) (k : IntKind) (a y : Int) (hy : y ≠ 0) (W : World) : (binOp .rem t (.int k a) (.int k y)).run Try.prog W = .ok (.int k (a.tmod y)) W := by
  simp [binOp, Op.intDiv, hy]
theorem told (n c : Int) (k r : Nat) (h0 : 0 ≤ n) (hn : n % 10 = k) (g0 : 0 ≤ c) (g1 : c < 256) (hc : c % (k + 1) = r) (hk : k < 10) (hr : r ≤ k) :
    letI : Th := letters n c k r
    CmpOk Try.prog xcN := by
  letI : Th := letters n c k r
  refine cmp_with (bs := binsN) (cs := convsN) (fun e he W => ?_) (fun e he x y W => ⟨?_, ?_⟩)
  · unfold convsN at he
    obtain ⟨p, hp, rfl⟩ := List.mem_map.1 he
    obtain ⟨q1, q2⟩ := pairs_mem hp
    show (convert 5 3 (thN n c k r (200 + 10 * p.1 + p.2))).run Try.prog W = .ok (thN n c k r (400 + 10 * p.1 + p.2)) W
    obtain ⟨b0, b1, _⟩ := at_c n c k r g0 g1 hc q1 q2 hr hk
    have e := at_conv n c k r q1 q2 hr hk
    have x1 : 200 + 10 * p.1 + p.2 < 400 := by omega
    have x2 : ¬ (400 + 10 * p.1 + p.2 < 400) := by omega
    simp only [thN, if_pos x1, if_neg x2, e]
    have hw : IntKind.i64.wrap (atN n c k r (200 + 10 * p.1 + p.2)) = atN n c k r (200 + 10 * p.1 + p.2) := by
      simp [IntKind.wrap, IntKind.bits, IntKind.signed]
      omega
    simp [convert, run_underlying Try.underlying5, run_underlying Try.underlying3, Conv.intToInt, hw]
  · unfold binsN at he
    rcases List.mem_append.1 he with he | he
    · obtain ⟨j, hj, rfl⟩ := List.mem_map.1 he; rfl
    · obtain ⟨p, hp, rfl⟩ := List.mem_map.1 he; rfl
  · unfold binsN at he
    rcases List.mem_append.1 he with he | he
    · obtain ⟨j, hj, rfl⟩ := List.mem_map.1 he
      rw [List.mem_range] at hj
      show (binOp .rem 5 (thN n c k r (100 + j)) (.int .u8 10)).run Try.prog W = .ok (.int .u8 j) W
      have x1 : 100 + j < 400 := by omega
      have e : thN n c k r (100 + j) = .int .u8 (atN n c k r (100 + j)) := by simp only [thN, if_pos x1]
      have ha : 0 ≤ atN n c k r (100 + j) ∧ atN n c k r (100 + j) % 10 = j := by
        have x1 : 100 + j < 200 := by omega
        simp only [atN, if_pos x1]
        by_cases h : 100 + j = 100 + k
        · obtain rfl : j = k := by omega
          rw [if_pos rfl]
          exact ⟨h0, hn⟩
        · rw [if_neg h]
          omega
      rw [e, run_rem _ _ _ _ (by decide), Int.tmod_eq_emod_of_nonneg ha.1, ha.2]
    · obtain ⟨p, hp, rfl⟩ := List.mem_map.1 he
      obtain ⟨q1, q2⟩ := pairs_mem hp
      show (binOp .rem 3 (thN n c k r (400 + 10 * p.1 + p.2)) (.int .i64 (p.1 + 1 : Nat))).run Try.prog W = .ok (.int .i64 p.2) W
      obtain ⟨b0, b1, b2⟩ := at_c n c k r g0 g1 hc q1 q2 hr hk
      have x2 : ¬ (400 + 10 * p.1 + p.2 < 400) := by omega
      have e : thN n c k r (400 + 10 * p.1 + p.2) = .int .i64 (atN n c k r (200 + 10 * p.1 + p.2)) := by simp only [thN, if_neg x2, at_conv n c k r q1 q2 hr hk]
      rw [e, run_rem _ _ _ _ (by omega), Int.tmod_eq_emod_of_nonneg b0, b2]
theorem byte_of {n : Int} (hw : (Lit.int .u8 n).wf = true) : 0 ≤ n ∧ n < 256 := by
  simp [Lit.wf, IntKind.min, IntKind.max, IntKind.signed, IntKind.bits] at hw
  omega
theorem walk (n c : Int) (w : World) (hn : (Lit.int .u8 n).wf = true) (hc : (Lit.int .u8 c).wf = true) : Calls Try.prog 6 #[.int .u8 n, .int .u8 c] w fun e w' => e = .returned (.bool true) ∧ Below w.heap.size w w' := by
  obtain ⟨a0, a1⟩ := byte_of hn
  obtain ⟨b0, b1⟩ := byte_of hc
  obtain ⟨k, hk⟩ : ∃ k : Nat, n % 10 = k := ⟨(n % 10).toNat, by omega⟩
  have hk10 : k < 10 := by omega
  have hpos : (0 : Int) < (k : Int) + 1 := by omega
  obtain ⟨r, hr⟩ : ∃ r : Nat, c % (k + 1) = r := ⟨(c % (k + 1)).toNat, by have := Int.emod_nonneg c (show (k : Int) + 1 ≠ 0 by omega); omega⟩
  have hrk : r ≤ k := by have := Int.emod_lt_of_pos c hpos; omega
  letI : Th := letters n c k r
  have h1 : thN n c k r (100 + k) = .int .u8 n := by
    have x1 : 100 + k < 400 := by omega
    have x2 : 100 + k < 200 := by omega
    simp only [thN, atN, if_pos x1, if_pos x2, if_true]
  have h2 : thN n c k r (200 + 10 * k + r) = .int .u8 c := by
    have x1 : 200 + 10 * k + r < 400 := by omega
    have x2 : ¬ (200 + 10 * k + r < 200) := by omega
    simp only [thN, atN, if_pos x1, if_neg x2, if_true]
  refine closed_letters mixed_here (told n c k r a0 hk b0 b1 hr hk10 hrk) (l' := [.int .u8 n, .int .u8 c]) (fun ρ D => ?_) (found k r hk10 hrk) w
  have g1 : VR ρ D (.chan (some (100 + k))) (thN n c k r (100 + k)) := .hole
  have g2 : VR ρ D (.chan (some (200 + 10 * k + r))) (thN n c k r (200 + 10 * k + r)) := .hole
  rw [h1] at g1
  rw [h2] at g2
  exact .cons g1 (.cons g2 .nil)
end Go.Proofs.Ytpjkbjpjhkcofaa.Pure
