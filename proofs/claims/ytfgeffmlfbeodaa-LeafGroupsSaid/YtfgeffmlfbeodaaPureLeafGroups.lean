/- LeafGroups: how a row is grouped. No condition. -/
import Derived.Test.YtfgeffmlfbeodaaPLeafGroupsx1
import Derived.Test.YtfgeffmlfbeodaaCrc
namespace Go.Proofs.Ytfgeffmlfbeodaa.Pure
open Go.RowKit Go.Proofs.Ytfgeffmlfbeodaa.PLeafGroups Go.Proofs.YtfgeffmlfbeodaaW.PrintWords Go.Proofs.YtfgeffmlfbeodaaW.PrintLast
set_option linter.unusedVariables false

theorem rd_at (l : List Int) (j : Nat) (hl : j < l.length) : rd l (j : Int) = l[j] := by simp [rd, List.getD_eq_getElem?_getD, List.getElem?_eq_getElem hl]
theorem w_succ (i : Nat) (h : i < 1000000) : wrap64 ((i : Int) + 1) = ((i + 1 : Nat) : Int) := by unfold wrap64; omega
theorem w_id (i : Nat) (h : i < 1000000) : wrap64 (i : Int) = (i : Int) := by unfold wrap64; omega
theorem w_pred (i : Nat) (h : i < 1000000) (h1 : 1 ≤ i) : wrap64 ((i : Int) - 1) = ((i - 1 : Nat) : Int) := by unfold wrap64; omega
theorem w_add (i j : Nat) (h : i < 1000000) (h1 : j < 1000000) : wrap64 ((i : Int) + (j : Int)) = ((i + j : Nat) : Int) := by unfold wrap64; omega
theorem w_8 (i : Nat) (h : i < 1000000) : wrap64 (8 * (i : Int)) = ((8 * i : Nat) : Int) := by unfold wrap64; omega
theorem w_sub (i j : Nat) (h : i < 1000000) (h1 : j < 1000000) (h2 : i ≤ j + 1) : ¬ wrap64 ((i : Int) - (j : Int)) > 1 := by unfold wrap64; omega
theorem mx_0 (n : Nat) : mx (n : Int) 0 = n := by unfold mx; split <;> omega
def gv (q r i : Nat) : Nat := if i < r then q + 1 else q
def gs (q r j : Nat) : List Int := (List.range j).map fun i => (gv q r i : Int)
theorem gs_len (q r j : Nat) : (gs q r j).length = j := by simp [gs]
theorem gs_succ (q r j : Nat) : gs q r (j + 1) = gs q r j ++ [(gv q r j : Int)] := by simp [gs, List.range_succ]
theorem gs_rd (q r K j : Nat) (h : j < K) : rd (gs q r K) (j : Int) = (gv q r j : Int) := by
  rw [rd_at _ _ (by rw [gs_len]; exact h)]
  simp [gs]
theorem gv_le (q r i : Nat) : q ≤ gv q r i ∧ gv q r i ≤ q + 1 := by unfold gv; split <;> omega
theorem groups_loop {n K q r : Nat} (hK : 1 ≤ K) (hK2 : K ≤ 5000) (hq : n / K = q) (hr : n % K = r) (hq2 : q ≤ 8) : ∀ (m i k : Nat), i + m = K → m + 1 ≤ k → leaf_Groups.l0 k n (gs q r i) K K i = some (gs q r K)
  | 0, i, k, hi, hk => by
    obtain ⟨k, rfl⟩ : ∃ m, k = m + 1 := ⟨k - 1, by omega⟩
    rw [leaf_Groups.l0, if_neg (by omega), show i = K by omega]
  | m + 1, i, k, hi, hk => by
    obtain ⟨k, rfl⟩ : ∃ m, k = m + 1 := ⟨k - 1, by omega⟩
    have hT : Int.tmod (n : Int) (K : Int) = (r : Int) := by
      rw [Int.tmod_eq_emod_of_nonneg (by omega), ← hr]; rfl
    have hD : Int.tdiv (n : Int) (K : Int) = (q : Int) := by
      rw [Int.tdiv_eq_ediv_of_nonneg (by omega), ← hq]; rfl
    have ih := groups_loop hK hK2 hq hr hq2 m (i + 1) k (by omega) (by omega)
    rw [gs_succ] at ih
    rw [leaf_Groups.l0, if_pos (by omega), if_neg (by omega), hT, hD]
    clear hT hD
    unfold gv at ih
    by_cases h : i < r
    · rw [if_pos h] at ih
      rw [if_pos (by omega), if_pos (by rw [gs_len]; omega), w_id q (by omega), w_succ q (by omega), w_succ i (by omega)]; exact ih
    · rw [if_neg h] at ih
      rw [if_neg (by omega), if_pos (by rw [gs_len]; omega), w_id q (by omega), w_succ i (by omega)]; exact ih
def gsum (q r i : Nat) : Nat := i * q + min i r
theorem gsum_succ (q r i : Nat) : gsum q r (i + 1) = gsum q r i + gv q r i := by
  unfold gsum gv
  rw [Nat.succ_mul]
  split <;> omega
theorem gsum_le (q r i : Nat) (hq : q ≤ 8) (hi : i ≤ 5000) : gsum q r i ≤ 45000 := by
  unfold gsum
  have : i * q ≤ 5000 * 8 := Nat.mul_le_mul hi hq
  omega
theorem law_loop {n K q r : Nat} (hn : 1 ≤ n) (hK : 1 ≤ K) (hK2 : K ≤ 5000) (hs : gsum q r K = n) (h8 : 8 * (K - 1) < n) (h1 : 1 ≤ q) (hq : q ≤ 8) (hqr : 0 < r → q ≤ 7) (h4 : 1 < K → 4 ≤ q) : ∀ (m i k : Nat), i + m = K → m + 1 ≤ k →
    pandectlaw11_LeafGroups.l0 k n (gs q r K) (gsum q r i) i = some true
  | 0, i, k, hi, hk => by
    obtain ⟨k, rfl⟩ : ∃ m, k = m + 1 := ⟨k - 1, by omega⟩
    have hiK : i = K := by omega
    subst hiK
    rw [pandectlaw11_LeafGroups.l0, gs_len, if_neg (by omega), mx_0, if_pos (by rw [hs]), if_neg (by omega), w_pred i (by omega) hK, w_8 (i - 1) (by omega), decide_eq_true (by omega)]
  | m + 1, i, k, hi, hk => by
    obtain ⟨k, rfl⟩ : ∃ m, k = m + 1 := ⟨k - 1, by omega⟩
    have ih := law_loop hn hK hK2 hs h8 h1 hq hqr h4 m (i + 1) k (by omega) (by omega)
    have hv := gv_le q r i
    have hv8 : gv q r i ≤ 8 := by unfold gv; split <;> omega
    have hsum := gsum_le q r i hq (by omega)
    rw [gsum_succ] at ih
    rw [pandectlaw11_LeafGroups.l0, gs_len, if_pos (by omega), if_pos (by omega), gs_rd q r K i (by omega), if_neg (by omega), if_neg (by omega), w_succ i (by omega), w_add (gsum q r i) (gv q r i) (by omega) (by omega)]
    by_cases hi0 : i = 0
    · subst hi0
      by_cases hk1 : 1 < K
      · have := h4 hk1
        rw [if_pos (by omega), if_neg (by omega), if_neg (by omega)]; exact ih
      · rw [if_neg (by omega), if_neg (by omega)]; exact ih
    · have hk1 : 1 < K := by omega
      have h4' := h4 hk1
      have hp := gv_le q r (i - 1)
      have hmono : gv q r i ≤ gv q r (i - 1) := by unfold gv; split <;> split <;> omega
      have h0 := gv_le q r 0
      have hz : rd (gs q r K) 0 = (gv q r 0 : Int) := gs_rd q r K 0 (by omega)
      rw [if_pos (by omega), if_neg (by omega), if_pos (by omega), w_pred i (by omega) (by omega), if_pos (by omega), if_pos (by omega), gs_rd q r K (i - 1) (by omega), if_neg (by omega), if_pos (by omega), hz, if_neg (w_sub _ _ (by omega) (by omega) (by omega))]
      exact ih
theorem LeafGroups : pandectlaw11_LeafGroups.Pure := by
  intro a0 _
  refine ⟨6000, ?_⟩
  unfold pandectlaw11_LeafGroups.f
  rw [show pandectlaw11_begun.f = some true from rfl, Option.bind_some, if_pos rfl]
  by_cases h1 : a0 > 5000
  · rw [if_pos h1]
  · rw [if_neg h1]
    unfold leaf_Groups.f
    by_cases h2 : a0 < 1
    · rw [if_pos h2, Option.bind_some, pandectlaw11_LeafGroups.l0, if_neg (by simp)]
      have hm : mx a0 0 = 0 := by unfold mx; split <;> omega
      rw [hm, if_pos rfl, if_pos h2]
    · rw [if_neg h2]
      obtain ⟨n, rfl⟩ := Int.eq_ofNat_of_zero_le (show 0 ≤ a0 by omega)
      have hn : 1 ≤ n := by omega
      have hn2 : n ≤ 5000 := by omega
      have hKe : wrap64 (Int.tdiv (wrap64 ((wrap64 ((n : Int) + 8)) - 1)) 8) = (((n + 7) / 8 : Nat) : Int) := by
        rw [show wrap64 ((n : Int) + 8) = (n : Int) + 8 by unfold wrap64; omega, show wrap64 ((n : Int) + 8 - 1) = (n : Int) + 7 by unfold wrap64; omega, Int.tdiv_eq_ediv_of_nonneg (by omega)]
        unfold wrap64; omega
      rw [hKe]
      generalize hK : (n + 7) / 8 = K
      have hK1 : 1 ≤ K := by omega
      have hK2 : K ≤ 700 := by omega
      have hdm := Nat.div_add_mod n K
      have hlt := Nat.mod_lt n (show K > 0 by omega)
      generalize hq : n / K = q at hdm
      generalize hr : n % K = r at hdm hlt
      have hb : n ≤ 8 * K ∧ 8 * (K - 1) < n := by omega
      have hq8 : q ≤ 8 := by
        rcases Nat.lt_or_ge 8 q with h | h
        · have := Nat.mul_le_mul_left K h
          omega
        · exact h
      have hqr : 0 < r → q ≤ 7 := fun h0 => by
        rcases Nat.lt_or_ge 7 q with h | h
        · have := Nat.mul_le_mul_left K h
          omega
        · exact h
      have h1 : 1 ≤ q := by
        rcases Nat.eq_zero_or_pos q with h | h
        · rw [h, Nat.mul_zero] at hdm; omega
        · exact h
      have h4 : 1 < K → 4 ≤ q := fun hk => by
        rcases Nat.lt_or_ge q 4 with h | h
        · have := Nat.mul_le_mul_left K (show q ≤ 3 by omega)
          omega
        · exact h
      have e := groups_loop (n := n) hK1 (by omega) hq hr hq8 K 0 6000 (by omega) (by omega)
      have e' : leaf_Groups.l0 6000 (n : Int) [] (K : Int) (K : Int) 0 = some (gs q r K) := e
      rw [e', Option.bind_some]
      have hs : gsum q r K = n := by unfold gsum; rw [Nat.min_eq_right (by omega)]; exact hdm
      have l := law_loop hn hK1 (by omega) hs hb.2 h1 hq8 hqr h4 K 0 6000 (by omega) (by omega)
      rw [show gsum q r 0 = 0 by unfold gsum; simp] at l
      exact l

end Go.Proofs.Ytfgeffmlfbeodaa.Pure
