/- The plain law of names: strings.ContainsFunc over 'r < 33 or r > 126' tells whether a byte lies outside 33 to 126; no program here. -/
import Derived.Shelf.GgClosure.StringsIndexFunc
import Derived.Laws.RangeString
namespace Go.Proofs.Ytfgeffmlfbeodaa.Names
open Go.Lib

def badR (r : Nat) : Bool := decide (r < 33) || decide (126 < r)
def badB (b : UInt8) : Bool := decide (b.toNat < 33) || decide (126 < b.toNat)
/-- May a name be? -/
def nameB (s : ByteArray) : Bool := decide (1 ≤ s.size) && decide (s.size ≤ 16) && !(s.data.toList.any badB)
theorem decode_high (s : ByteArray) (pos : Nat) (h : pos < s.size) (ha : 128 ≤ (s[pos]'h).toNat) : 128 ≤ (Utf8.decode s pos).1 := by
  have hg : (s.get! (pos + 0)).toNat = (s[pos]'h).toNat := by
    have : s.get! (pos + 0) = s[pos]'h := by
      show s.data[pos + 0]! = _
      rw [Nat.add_zero, getElem!_pos s.data pos h]; rfl
    rw [this]
  unfold Utf8.decode
  have hr : (128 : Nat) ≤ Utf8.runeError := by decide
  simp only [hg]
  rw [if_neg (by omega)]
  split
  · split
    · rename_i hc; simpa using hc
    · exact hr
  · split
    · split
      · rename_i hc; simp only [ge_iff_le, Bool.and_eq_true, decide_eq_true_eq] at hc; show 128 ≤ _; omega
      · exact hr
    · split
      · split
        · rename_i hc; simp only [ge_iff_le, Bool.and_eq_true, decide_eq_true_eq] at hc; show 128 ≤ _; omega
        · exact hr
      · exact hr
theorem idx_bad (s : ByteArray) : ∀ (f pos : Nat), s.size - pos ≤ f → (decide (0 ≤ idxFuncFrom badR true s f pos) = (s.data.toList.drop pos).any badB) := by
  intro f
  induction f with
  | zero =>
    intro pos hf
    have : (s.data.toList.drop pos) = [] := List.drop_of_length_le (by rw [Array.length_toList]; show s.size ≤ pos; omega)
    rw [this]; rfl
  | succ f ih =>
    intro pos hf
    unfold idxFuncFrom
    by_cases hp : pos < s.size
    · rw [if_pos hp]
      have hl : pos < s.data.toList.length := by rw [Array.length_toList]; exact hp
      have hd : s.data.toList.drop pos = s[pos]'hp :: s.data.toList.drop (pos + 1) := by
        rw [List.drop_eq_getElem_cons hl]; rfl
      rw [hd, List.any_cons]
      by_cases ha : (s[pos]'hp).toNat < 128
      · rw [decode_ascii s pos hp ha]
        by_cases hb : badR (s[pos]'hp).toNat = true
        · rw [if_pos hb]
          have : badB (s[pos]'hp) = true := hb
          rw [this]; simp
        · rw [if_neg hb, ih (pos + 1) (by omega)]
          have : badB (s[pos]'hp) = false := by
            have h2 : badB (s[pos]'hp) = badR (s[pos]'hp).toNat := rfl
            rw [h2]; simpa using hb
          rw [this]; rfl
      · have h1 := decode_high s pos hp (by omega)
        have hb : badR (Utf8.decode s pos).1 = true := by unfold badR; simp; omega
        rw [if_pos hb]
        have : badB (s[pos]'hp) = true := by unfold badB; simp; omega
        rw [this]; simp
    · rw [if_neg hp]
      have : (s.data.toList.drop pos) = [] := List.drop_of_length_le (by rw [Array.length_toList]; show s.size ≤ pos; omega)
      rw [this]; rfl
theorem contains_bad (s : ByteArray) : decide (0 ≤ idxFunc badR true s) = s.data.toList.any badB := by
  have := idx_bad s s.size 0 (by omega)
  rw [List.drop_zero] at this; exact this
end Go.Proofs.Ytfgeffmlfbeodaa.Names
