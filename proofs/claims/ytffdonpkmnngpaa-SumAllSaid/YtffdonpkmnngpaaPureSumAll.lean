/- SumAll: the program's sum is the document's, and what was lent is kept. -/
import Derived.Test.YtffdonpkmnngpaaPSumAllx1
import Derived.Test.YtffdonpkmnngpaaCrc
namespace Go.Proofs.Ytffdonpkmnngpaa.Pure
open Go.RowKit Go.Proofs.Ytffdonpkmnngpaa.PSumAll Go.Proofs.YtffdonpkmnngpaaW.PrintWords Go.Proofs.YtffdonpkmnngpaaW.PrintLast
set_option linter.unusedVariables false
section SumLoop
open Go.Proofs.Ytffdonpkmnngpaa.Crc
theorem bx32 (a b : BitVec 32) : Go.bits .xor .u32 (a.toNat : Int) (b.toNat : Int) = ((a ^^^ b).toNat : Int) := by
  have h := (a ^^^ b).isLt
  have e : Go.bits .xor .u32 (a.toNat : Int) (b.toNat : Int) = IntKind.u32.wrap ((BitVec.ofInt 32 (a.toNat : Int) ^^^ BitVec.ofInt 32 (b.toNat : Int)).toNat : Int) := rfl
  rw [e, BitVec.ofInt_natCast, BitVec.ofInt_natCast, BitVec.ofNat_toNat, BitVec.ofNat_toNat, BitVec.setWidth_eq, BitVec.setWidth_eq, Go.IntKind.wrap_u32]
  omega
theorem byte32 (x : Int) (h0 : 0 ≤ x) (h1 : x < 256) : x % 4294967296 = ((BitVec.ofInt 32 x).toNat : Int) := by
  obtain ⟨n, rfl⟩ := Int.eq_ofNat_of_zero_le h0
  rw [BitVec.ofInt_natCast, BitVec.toNat_ofNat]
  omega
theorem and1 (a : BitVec 32) : Go.bits .and .u32 (a.toNat : Int) 1 = ((a &&& 1#32).toNat : Int) := by
  have h := (a &&& 1#32).isLt
  have e : Go.bits .and .u32 (a.toNat : Int) 1 = IntKind.u32.wrap ((BitVec.ofInt 32 (a.toNat : Int) &&& 1#32).toNat : Int) := rfl
  rw [e, BitVec.ofInt_natCast, BitVec.ofNat_toNat, BitVec.setWidth_eq, Go.IntKind.wrap_u32]
  omega
theorem bstep (r : BitVec 32) : Go.bits .xor .u32 ((r.toNat : Int) / 2) ((Go.bits .and .u32 (r.toNat : Int) 1 * 2197175160) % 4294967296) = ((cstep r).toNat : Int) := by
  have e1 : ((r.toNat : Int) / (2 : Int)) = ((r >>> 1).toNat : Int) := by
    rw [BitVec.toNat_ushiftRight, Nat.shiftRight_eq_div_pow]; simp
  have e2 : (Go.bits .and .u32 (r.toNat : Int) 1 * 2197175160) % 4294967296 = ((if r.getLsbD 0 then poly else 0#32).toNat : Int) := by
    have hb : r.getLsbD 0 = decide (r.toNat % 2 = 1) := by
      rw [BitVec.getLsbD, Nat.testBit_zero]
    rw [and1, BitVec.toNat_and, hb]
    have h1 : r.toNat &&& (1#32).toNat = r.toNat % 2 := by
      show r.toNat &&& 1 = _
      rw [Nat.and_one_is_mod]
    rw [h1]
    rcases Nat.mod_two_eq_zero_or_one r.toNat with h | h <;> rw [h] <;> decide
  rw [e1, e2, bx32]; rfl
theorem sum_bits (xs : List Int) (len i : Int) : ∀ (n k : Nat) (r : BitVec 32), n ≤ 8 →
    sum_Sum.l1 (k + 1 + n) (r.toNat : Int) xs len i (8 - n) = sum_Sum.l0 k ((steps n r).toNat : Int) xs len (wrap64 (i + 1))
  | 0, k, r, _ => by
    rw [show k + 1 + 0 = k + 1 from rfl]
    simp only [sum_Sum.l1]
    rw [if_neg (by omega)]; rfl
  | n + 1, k, r, hn => by
    rw [show k + 1 + (n + 1) = (k + 1 + n) + 1 from by omega]
    simp only [sum_Sum.l1]
    rw [if_pos (by omega), bstep]
    have e : wrap64 ((8 : Int) - ((n + 1 : Nat) : Int) + 1) = 8 - (n : Int) := by unfold wrap64; omega
    rw [e, sum_bits xs len i n k (cstep r) (by omega)]
    rfl
theorem sum_loop (xs : List Int) (hb : Bytes8 xs) (hl : xs.length ≤ 140737488351232) : ∀ (n i k : Nat) (r : BitVec 32), i + n = xs.length → 10 * n + 1 ≤ k →
    sum_Sum.l0 k (r.toNat : Int) xs (xs.length : Int) (i : Int) = some (((BitVec.allOnes 32) ^^^ (xs.drop i).foldl upd r).toNat : Int)
  | 0, i, k, r, hi, hk => by
    obtain ⟨k, rfl⟩ : ∃ m, k = m + 1 := ⟨k - 1, by omega⟩
    simp only [sum_Sum.l0]
    rw [if_neg (by omega), List.drop_of_length_le (by omega)]
    have e : (4294967295 : Int) = ((BitVec.allOnes 32).toNat : Int) := by decide
    rw [e, bx32]; rfl
  | n + 1, i, k, r, hi, hk => by
    obtain ⟨k, rfl⟩ : ∃ m, k = m + 10 := ⟨k - 10, by omega⟩
    rw [show k + 10 = (k + 1 + 8) + 1 from by omega]
    simp only [sum_Sum.l0]
    rw [if_pos (by omega), if_pos (by omega), if_pos (by omega)]
    have hx : rd xs (i : Int) = xs[i]'(by omega) := by simp [rd, List.getD_eq_getElem?_getD, List.getElem?_eq_getElem (show i < xs.length by omega)]
    have hbx := hb (xs[i]'(by omega)) (List.getElem_mem (by omega))
    rw [hx, byte32 _ hbx.1 hbx.2, bx32]
    have e := sum_bits xs (xs.length : Int) (i : Int) 8 k (r ^^^ BitVec.ofInt 32 (xs[i]'(by omega))) (Nat.le_refl 8)
    rw [show (8 : Int) - ((8 : Nat) : Int) = 0 from by omega] at e
    rw [e]
    have ew : wrap64 ((i : Int) + 1) = ((i + 1 : Nat) : Int) := by unfold wrap64; omega
    rw [ew, sum_loop xs hb hl n (i + 1) k _ (by omega) (by omega)]
    rw [List.drop_eq_getElem_cons (show i < xs.length by omega)]
    rfl
/-- The sum of Bytes8, with enough rounds. -/
theorem sum_crc (xs : List Int) (hb : Bytes8 xs) (hl : xs.length ≤ 140737488351232) (k : Nat) (hk : 10 * xs.length + 1 ≤ k) : sum_Sum.f k xs = some (crc xs) := by
  unfold sum_Sum.f
  have e : (4294967295 : Int) = ((BitVec.allOnes 32).toNat : Int) := by decide
  have := sum_loop xs hb hl xs.length 0 k (BitVec.allOnes 32) (by omega) hk
  rw [e]
  exact this
end SumLoop

section RefSum
open Go.Proofs.Ytffdonpkmnngpaa.Crc
theorem half32 (r : BitVec 32) : (Int.tdiv (r.toNat : Int) (2 : Int)) % (4294967296 : Int) = ((r >>> 1).toNat : Int) := by
  have h := r.isLt
  rw [BitVec.toNat_ushiftRight, Nat.shiftRight_eq_div_pow, show (2 : Int) = ((2 : Nat) : Int) from rfl, ← Int.ofNat_tdiv]
  simp only [Nat.pow_one]
  omega
theorem lsb32 (r : BitVec 32) : Int.tmod (r.toNat : Int) (2 : Int) = if r.getLsbD 0 then (1 : Int) else 0 := by
  have hb : r.getLsbD 0 = decide (r.toNat % 2 = 1) := by rw [BitVec.getLsbD, Nat.testBit_zero]
  rw [hb, show (2 : Int) = ((2 : Nat) : Int) from rfl, ← Int.ofNat_tmod]
  rcases Nat.mod_two_eq_zero_or_one r.toNat with h | h <;> rw [h] <;> decide
theorem ref_bits (xs : List Int) (i : Int) : ∀ (n k : Nat) (r d : BitVec 32), n ≤ 8 →
    pandectref2_Sum.l1 (k + 1 + n) xs (r.toNat : Int) i (d.toNat : Int) (8 - n) = pandectref2_Sum.l0 k xs ((steps n (r ^^^ d) ^^^ (d >>> n)).toNat : Int) (wrap64 (i + 1))
  | 0, k, r, d, _ => by
    rw [show k + 1 + 0 = k + 1 from rfl]
    simp only [pandectref2_Sum.l1]
    rw [if_neg (by omega)]
    simp only [steps, BitVec.ushiftRight_zero]
    rw [BitVec.xor_assoc, BitVec.xor_self, BitVec.xor_zero]
  | n + 1, k, r, d, hn => by
    rw [show k + 1 + (n + 1) = (k + 1 + n) + 1 from by omega]
    simp only [pandectref2_Sum.l1]
    have e : wrap64 ((8 : Int) - ((n + 1 : Nat) : Int) + 1) = 8 - (n : Int) := by unfold wrap64; omega
    have hs : d >>> (n + 1) = (d >>> 1) >>> n := by rw [show n + 1 = 1 + n from by omega, BitVec.shiftRight_add]
    have hx : (r ^^^ d) >>> 1 = (r >>> 1) ^^^ (d >>> 1) := BitVec.ushiftRight_xor_distrib ..
    have hb : (r ^^^ d).getLsbD 0 = ((r.getLsbD 0) ^^ (d.getLsbD 0)) := BitVec.getLsbD_xor ..
    rw [if_pos (by omega), half32, half32, lsb32, lsb32, e]
    have ep : (2197175160 : Int) = (poly.toNat : Int) := by decide
    by_cases hq : r.getLsbD 0 = d.getLsbD 0
    · rw [if_pos (by rw [hq]), ref_bits xs i n k _ _ (by omega)]
      simp only [steps]
      rw [hs, show cstep (r ^^^ d) = (r >>> 1) ^^^ (d >>> 1) from by unfold cstep; rw [hb, hq, hx]; simp]
    · rw [if_neg (by cases h1 : r.getLsbD 0 <;> cases h2 : d.getLsbD 0 <;> simp_all), ep, bx32, ref_bits xs i n k _ _ (by omega)]
      simp only [steps]
      rw [hs, show cstep (r ^^^ d) = ((r >>> 1) ^^^ poly) ^^^ (d >>> 1) from by
        have : ((r.getLsbD 0) ^^ (d.getLsbD 0)) = true := by cases h1 : r.getLsbD 0 <;> cases h2 : d.getLsbD 0 <;> simp_all
        unfold cstep; rw [hb, hx, this, if_pos rfl]; ac_rfl]
theorem ref_loop (xs : List Int) (hb : Bytes8 xs) (hl : xs.length ≤ 140737488351232) : ∀ (n i k : Nat) (r : BitVec 32), i + n = xs.length → 10 * n + 1 ≤ k →
    pandectref2_Sum.l0 k xs (r.toNat : Int) (i : Int) = some (((BitVec.allOnes 32) ^^^ (xs.drop i).foldl upd r).toNat : Int)
  | 0, i, k, r, hi, hk => by
    obtain ⟨k, rfl⟩ : ∃ m, k = m + 1 := ⟨k - 1, by omega⟩
    simp only [pandectref2_Sum.l0]
    rw [if_neg (by omega), List.drop_of_length_le (by omega)]
    have e : (4294967295 : Int) = ((BitVec.allOnes 32).toNat : Int) := by decide
    rw [e, bx32]; rfl
  | n + 1, i, k, r, hi, hk => by
    obtain ⟨k, rfl⟩ : ∃ m, k = m + 10 := ⟨k - 10, by omega⟩
    rw [show k + 10 = (k + 1 + 8) + 1 from by omega]
    simp only [pandectref2_Sum.l0]
    rw [if_pos (by omega), if_pos (by omega)]
    have hx : rd xs (i : Int) = xs[i]'(by omega) := by simp [rd, List.getD_eq_getElem?_getD, List.getElem?_eq_getElem (show i < xs.length by omega)]
    have hbx := hb (xs[i]'(by omega)) (List.getElem_mem (by omega))
    rw [hx, byte32 _ hbx.1 hbx.2]
    have e := ref_bits xs (i : Int) 8 k r (BitVec.ofInt 32 (xs[i]'(by omega))) (Nat.le_refl 8)
    rw [show (8 : Int) - ((8 : Nat) : Int) = 0 from by omega] at e
    rw [e]
    have e0 : BitVec.ofInt 32 (xs[i]'(by omega)) >>> 8 = 0#32 := by
      apply BitVec.eq_of_toNat_eq
      have := byte32 _ hbx.1 hbx.2
      rw [BitVec.toNat_ushiftRight, Nat.shiftRight_eq_div_pow]
      show _ = 0
      omega
    have ew : wrap64 ((i : Int) + 1) = ((i + 1 : Nat) : Int) := by unfold wrap64; omega
    rw [e0, BitVec.xor_zero, ew, ref_loop xs hb hl n (i + 1) k _ (by omega) (by omega)]
    rw [List.drop_eq_getElem_cons (show i < xs.length by omega)]
    rfl
/-- The document's sum is the same. -/
theorem ref_crc (xs : List Int) (hb : Bytes8 xs) (hl : xs.length ≤ 140737488351232) (k : Nat) (hk : 10 * xs.length + 1 ≤ k) : pandectref2_Sum.f k xs = some (crc xs) := by
  unfold pandectref2_Sum.f
  have e : (4294967295 : Int) = ((BitVec.allOnes 32).toNat : Int) := by decide
  have := ref_loop xs hb hl xs.length 0 k (BitVec.allOnes 32) (by omega) hk
  rw [e]
  exact this
end RefSum

section Loan
theorem loan_loop (l : List Int) : ∀ (n k : Nat) (t : List Int) (i : Nat), i + n = 6 → l.length ≤ t.length → t.length + n < 140737488355328 → n + 1 ≤ k →
    pandectlaw0_Loaned.l0 k l t (i : Int) = some (t ++ ([224, 225, 226, 227, 228, 229] : List Int).drop i)
  | 0, k, t, i, hi, h1, h2, hk => by
    obtain ⟨k, rfl⟩ : ∃ m, k = m + 1 := ⟨k - 1, by omega⟩
    rw [pandectlaw0_Loaned.l0, if_neg (by omega), if_pos (by omega), if_pos (by omega), List.drop_of_length_le (by simp; omega), List.append_nil]
  | n + 1, k, t, i, hi, h1, h2, hk => by
    obtain ⟨k, rfl⟩ : ∃ m, k = m + 1 := ⟨k - 1, by omega⟩
    rw [pandectlaw0_Loaned.l0, if_pos (by omega), if_pos (by omega), show wrap64 ((i : Int) + 1) = ((i + 1 : Nat) : Int) from by unfold wrap64; omega]
    rw [loan_loop l n k _ (i + 1) (by omega) (by simp; omega) (by simp; omega) (by omega)]
    rw [List.append_assoc]
    congr 2
    obtain h | h | h | h | h | h : i = 0 ∨ i = 1 ∨ i = 2 ∨ i = 3 ∨ i = 4 ∨ i = 5 := by omega
    all_goals subst h; decide +kernel
theorem loan (l : List Int) (hl : l.length ≤ 140737488351232) (k : Nat) (hk : 7 ≤ k) : pandectlaw0_Loaned.f k l = some (l ++ [224, 225, 226, 227, 228, 229]) := by
  unfold pandectlaw0_Loaned.f
  rw [Option.bind_some, if_pos (by simp; omega), List.nil_append]
  exact loan_loop l 6 k l 0 rfl (Nat.le_refl _) (by omega) hk
theorem loan_take (l s : List Int) : (l ++ s).take ((l.length : Int) : Int).toNat = l := by rw [Int.toNat_natCast, List.take_left]
theorem kept (l : List Int) : pandectlaw0_Kept.f l l (l ++ [224, 225, 226, 227, 228, 229]) = some true := by
  unfold pandectlaw0_Kept.f
  rw [if_pos ⟨rfl, rfl⟩]
end Loan

open Go.Proofs.Ytffdonpkmnngpaa.Crc
theorem begun_true (k : Nat) (hk : 100 ≤ k) : pandectlaw2_begun.f k = some true :=
  at_rounds (g := pandectlaw2_begun.f) pandectlaw2_begun.mono hk (by decide +kernel)

theorem SumAll : pandectlaw2_SumAll.Pure := by
  intro l hm hs hw
  have hb := bytes_of hw
  refine ⟨10 * l.length + 100, ?_⟩
  unfold pandectlaw2_SumAll.f
  rw [begun_true _ (by omega), Option.bind_some, if_pos rfl]
  split
  · rfl
  · rw [loan l (by omega) _ (by omega), Option.bind_some, if_pos (by omega), if_pos (by simp; omega), loan_take, Option.bind_some, sum_crc l hb (by omega) _ (by omega), Option.bind_some, ref_crc l hb (by omega) _ (by omega), Option.bind_some, if_pos rfl, kept]
    rfl

end Go.Proofs.Ytffdonpkmnngpaa.Pure
