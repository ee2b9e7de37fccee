/- RecAll: records are the document's, put and taken, and what was lent is kept. -/
import Derived.Test.YtffdonpkmnngpaaPRecAllx5
import Derived.Test.YtffdonpkmnngpaaCrc
namespace Go.Proofs.Ytffdonpkmnngpaa.Pure
open Go.RowKit Go.Proofs.Ytffdonpkmnngpaa.PRecAll Go.Proofs.YtffdonpkmnngpaaW.PrintWords Go.Proofs.YtffdonpkmnngpaaW.PrintLast
set_option linter.unusedVariables false
section SumLoop
open Go.Proofs.Ytffdonpkmnngpaa.Crc
theorem bx32 (a b : BitVec 32) : Go.bits .xor .u32 (a.toNat : Int) (b.toNat : Int) = ((a ^^^ b).toNat : Int) := by
  have h := (a ^^^ b).isLt
  have e : Go.bits .xor .u32 (a.toNat : Int) (b.toNat : Int) = IntKind.u32.wrap ((BitVec.ofInt 32 (a.toNat : Int) ^^^ BitVec.ofInt 32 (b.toNat : Int)).toNat : Int) := rfl
  rw [e, BitVec.ofInt_natCast, BitVec.ofInt_natCast, BitVec.ofNat_toNat, BitVec.ofNat_toNat, BitVec.setWidth_eq, BitVec.setWidth_eq, Go.IntKind.wrap_u32]
  omega
theorem byte32 (x : Int) (h0 : 0 ≤ x) (h1 : x < 256) : x % 4294967296 = ((BitVec.ofInt 32 x).toNat : Int) := by
  obtain ⟨n, rfl⟩ := Int.eq_ofNat_of_zero_le h0
  rw [BitVec.ofInt_natCast, BitVec.toNat_ofNat]
  omega
theorem and1 (a : BitVec 32) : Go.bits .and .u32 (a.toNat : Int) 1 = ((a &&& 1#32).toNat : Int) := by
  have h := (a &&& 1#32).isLt
  have e : Go.bits .and .u32 (a.toNat : Int) 1 = IntKind.u32.wrap ((BitVec.ofInt 32 (a.toNat : Int) &&& 1#32).toNat : Int) := rfl
  rw [e, BitVec.ofInt_natCast, BitVec.ofNat_toNat, BitVec.setWidth_eq, Go.IntKind.wrap_u32]
  omega
theorem bstep (r : BitVec 32) : Go.bits .xor .u32 ((r.toNat : Int) / 2) ((Go.bits .and .u32 (r.toNat : Int) 1 * 2197175160) % 4294967296) = ((cstep r).toNat : Int) := by
  have e1 : ((r.toNat : Int) / (2 : Int)) = ((r >>> 1).toNat : Int) := by
    rw [BitVec.toNat_ushiftRight, Nat.shiftRight_eq_div_pow]; simp
  have e2 : (Go.bits .and .u32 (r.toNat : Int) 1 * 2197175160) % 4294967296 = ((if r.getLsbD 0 then poly else 0#32).toNat : Int) := by
    have hb : r.getLsbD 0 = decide (r.toNat % 2 = 1) := by
      rw [BitVec.getLsbD, Nat.testBit_zero]
    rw [and1, BitVec.toNat_and, hb]
    have h1 : r.toNat &&& (1#32).toNat = r.toNat % 2 := by
      show r.toNat &&& 1 = _
      rw [Nat.and_one_is_mod]
    rw [h1]
    rcases Nat.mod_two_eq_zero_or_one r.toNat with h | h <;> rw [h] <;> decide
  rw [e1, e2, bx32]; rfl
theorem sum_bits (xs : List Int) (len i : Int) : ∀ (n k : Nat) (r : BitVec 32), n ≤ 8 →
    sum_Sum.l1 (k + 1 + n) (r.toNat : Int) xs len i (8 - n) = sum_Sum.l0 k ((steps n r).toNat : Int) xs len (wrap64 (i + 1))
  | 0, k, r, _ => by
    rw [show k + 1 + 0 = k + 1 from rfl]
    simp only [sum_Sum.l1]
    rw [if_neg (by omega)]; rfl
  | n + 1, k, r, hn => by
    rw [show k + 1 + (n + 1) = (k + 1 + n) + 1 from by omega]
    simp only [sum_Sum.l1]
    rw [if_pos (by omega), bstep]
    have e : wrap64 ((8 : Int) - ((n + 1 : Nat) : Int) + 1) = 8 - (n : Int) := by unfold wrap64; omega
    rw [e, sum_bits xs len i n k (cstep r) (by omega)]
    rfl
theorem sum_loop (xs : List Int) (hb : Bytes8 xs) (hl : xs.length ≤ 140737488351232) : ∀ (n i k : Nat) (r : BitVec 32), i + n = xs.length → 10 * n + 1 ≤ k →
    sum_Sum.l0 k (r.toNat : Int) xs (xs.length : Int) (i : Int) = some (((BitVec.allOnes 32) ^^^ (xs.drop i).foldl upd r).toNat : Int)
  | 0, i, k, r, hi, hk => by
    obtain ⟨k, rfl⟩ : ∃ m, k = m + 1 := ⟨k - 1, by omega⟩
    simp only [sum_Sum.l0]
    rw [if_neg (by omega), List.drop_of_length_le (by omega)]
    have e : (4294967295 : Int) = ((BitVec.allOnes 32).toNat : Int) := by decide
    rw [e, bx32]; rfl
  | n + 1, i, k, r, hi, hk => by
    obtain ⟨k, rfl⟩ : ∃ m, k = m + 10 := ⟨k - 10, by omega⟩
    rw [show k + 10 = (k + 1 + 8) + 1 from by omega]
    simp only [sum_Sum.l0]
    rw [if_pos (by omega), if_pos (by omega), if_pos (by omega)]
    have hx : rd xs (i : Int) = xs[i]'(by omega) := by simp [rd, List.getD_eq_getElem?_getD, List.getElem?_eq_getElem (show i < xs.length by omega)]
    have hbx := hb (xs[i]'(by omega)) (List.getElem_mem (by omega))
    rw [hx, byte32 _ hbx.1 hbx.2, bx32]
    have e := sum_bits xs (xs.length : Int) (i : Int) 8 k (r ^^^ BitVec.ofInt 32 (xs[i]'(by omega))) (Nat.le_refl 8)
    rw [show (8 : Int) - ((8 : Nat) : Int) = 0 from by omega] at e
    rw [e]
    have ew : wrap64 ((i : Int) + 1) = ((i + 1 : Nat) : Int) := by unfold wrap64; omega
    rw [ew, sum_loop xs hb hl n (i + 1) k _ (by omega) (by omega)]
    rw [List.drop_eq_getElem_cons (show i < xs.length by omega)]
    rfl
/-- The sum of Bytes8, with enough rounds. -/
theorem sum_crc (xs : List Int) (hb : Bytes8 xs) (hl : xs.length ≤ 140737488351232) (k : Nat) (hk : 10 * xs.length + 1 ≤ k) : sum_Sum.f k xs = some (crc xs) := by
  unfold sum_Sum.f
  have e : (4294967295 : Int) = ((BitVec.allOnes 32).toNat : Int) := by decide
  have := sum_loop xs hb hl xs.length 0 k (BitVec.allOnes 32) (by omega) hk
  rw [e]
  exact this
end SumLoop

section RefSum
open Go.Proofs.Ytffdonpkmnngpaa.Crc
theorem half32 (r : BitVec 32) : (Int.tdiv (r.toNat : Int) (2 : Int)) % (4294967296 : Int) = ((r >>> 1).toNat : Int) := by
  have h := r.isLt
  rw [BitVec.toNat_ushiftRight, Nat.shiftRight_eq_div_pow, show (2 : Int) = ((2 : Nat) : Int) from rfl, ← Int.ofNat_tdiv]
  simp only [Nat.pow_one]
  omega
theorem lsb32 (r : BitVec 32) : Int.tmod (r.toNat : Int) (2 : Int) = if r.getLsbD 0 then (1 : Int) else 0 := by
  have hb : r.getLsbD 0 = decide (r.toNat % 2 = 1) := by rw [BitVec.getLsbD, Nat.testBit_zero]
  rw [hb, show (2 : Int) = ((2 : Nat) : Int) from rfl, ← Int.ofNat_tmod]
  rcases Nat.mod_two_eq_zero_or_one r.toNat with h | h <;> rw [h] <;> decide
theorem ref_bits (xs : List Int) (i : Int) : ∀ (n k : Nat) (r d : BitVec 32), n ≤ 8 →
    pandectref2_Sum.l1 (k + 1 + n) xs (r.toNat : Int) i (d.toNat : Int) (8 - n) = pandectref2_Sum.l0 k xs ((steps n (r ^^^ d) ^^^ (d >>> n)).toNat : Int) (wrap64 (i + 1))
  | 0, k, r, d, _ => by
    rw [show k + 1 + 0 = k + 1 from rfl]
    simp only [pandectref2_Sum.l1]
    rw [if_neg (by omega)]
    simp only [steps, BitVec.ushiftRight_zero]
    rw [BitVec.xor_assoc, BitVec.xor_self, BitVec.xor_zero]
  | n + 1, k, r, d, hn => by
    rw [show k + 1 + (n + 1) = (k + 1 + n) + 1 from by omega]
    simp only [pandectref2_Sum.l1]
    have e : wrap64 ((8 : Int) - ((n + 1 : Nat) : Int) + 1) = 8 - (n : Int) := by unfold wrap64; omega
    have hs : d >>> (n + 1) = (d >>> 1) >>> n := by rw [show n + 1 = 1 + n from by omega, BitVec.shiftRight_add]
    have hx : (r ^^^ d) >>> 1 = (r >>> 1) ^^^ (d >>> 1) := BitVec.ushiftRight_xor_distrib ..
    have hb : (r ^^^ d).getLsbD 0 = ((r.getLsbD 0) ^^ (d.getLsbD 0)) := BitVec.getLsbD_xor ..
    rw [if_pos (by omega), half32, half32, lsb32, lsb32, e]
    have ep : (2197175160 : Int) = (poly.toNat : Int) := by decide
    by_cases hq : r.getLsbD 0 = d.getLsbD 0
    · rw [if_pos (by rw [hq]), ref_bits xs i n k _ _ (by omega)]
      simp only [steps]
      rw [hs, show cstep (r ^^^ d) = (r >>> 1) ^^^ (d >>> 1) from by unfold cstep; rw [hb, hq, hx]; simp]
    · rw [if_neg (by cases h1 : r.getLsbD 0 <;> cases h2 : d.getLsbD 0 <;> simp_all), ep, bx32, ref_bits xs i n k _ _ (by omega)]
      simp only [steps]
      rw [hs, show cstep (r ^^^ d) = ((r >>> 1) ^^^ poly) ^^^ (d >>> 1) from by
        have : ((r.getLsbD 0) ^^ (d.getLsbD 0)) = true := by cases h1 : r.getLsbD 0 <;> cases h2 : d.getLsbD 0 <;> simp_all
        unfold cstep; rw [hb, hx, this, if_pos rfl]; ac_rfl]
theorem ref_loop (xs : List Int) (hb : Bytes8 xs) (hl : xs.length ≤ 140737488351232) : ∀ (n i k : Nat) (r : BitVec 32), i + n = xs.length → 10 * n + 1 ≤ k →
    pandectref2_Sum.l0 k xs (r.toNat : Int) (i : Int) = some (((BitVec.allOnes 32) ^^^ (xs.drop i).foldl upd r).toNat : Int)
  | 0, i, k, r, hi, hk => by
    obtain ⟨k, rfl⟩ : ∃ m, k = m + 1 := ⟨k - 1, by omega⟩
    simp only [pandectref2_Sum.l0]
    rw [if_neg (by omega), List.drop_of_length_le (by omega)]
    have e : (4294967295 : Int) = ((BitVec.allOnes 32).toNat : Int) := by decide
    rw [e, bx32]; rfl
  | n + 1, i, k, r, hi, hk => by
    obtain ⟨k, rfl⟩ : ∃ m, k = m + 10 := ⟨k - 10, by omega⟩
    rw [show k + 10 = (k + 1 + 8) + 1 from by omega]
    simp only [pandectref2_Sum.l0]
    rw [if_pos (by omega), if_pos (by omega)]
    have hx : rd xs (i : Int) = xs[i]'(by omega) := by simp [rd, List.getD_eq_getElem?_getD, List.getElem?_eq_getElem (show i < xs.length by omega)]
    have hbx := hb (xs[i]'(by omega)) (List.getElem_mem (by omega))
    rw [hx, byte32 _ hbx.1 hbx.2]
    have e := ref_bits xs (i : Int) 8 k r (BitVec.ofInt 32 (xs[i]'(by omega))) (Nat.le_refl 8)
    rw [show (8 : Int) - ((8 : Nat) : Int) = 0 from by omega] at e
    rw [e]
    have e0 : BitVec.ofInt 32 (xs[i]'(by omega)) >>> 8 = 0#32 := by
      apply BitVec.eq_of_toNat_eq
      have := byte32 _ hbx.1 hbx.2
      rw [BitVec.toNat_ushiftRight, Nat.shiftRight_eq_div_pow]
      show _ = 0
      omega
    have ew : wrap64 ((i : Int) + 1) = ((i + 1 : Nat) : Int) := by unfold wrap64; omega
    rw [e0, BitVec.xor_zero, ew, ref_loop xs hb hl n (i + 1) k _ (by omega) (by omega)]
    rw [List.drop_eq_getElem_cons (show i < xs.length by omega)]
    rfl
/-- The document's sum is the same. -/
theorem ref_crc (xs : List Int) (hb : Bytes8 xs) (hl : xs.length ≤ 140737488351232) (k : Nat) (hk : 10 * xs.length + 1 ≤ k) : pandectref2_Sum.f k xs = some (crc xs) := by
  unfold pandectref2_Sum.f
  have e : (4294967295 : Int) = ((BitVec.allOnes 32).toNat : Int) := by decide
  have := ref_loop xs hb hl xs.length 0 k (BitVec.allOnes 32) (by omega) hk
  rw [e]
  exact this
end RefSum

section Loan
theorem loan_loop (l : List Int) : ∀ (n k : Nat) (t : List Int) (i : Nat), i + n = 6 → l.length ≤ t.length → t.length + n < 140737488355328 → n + 1 ≤ k →
    pandectlaw0_Loaned.l0 k l t (i : Int) = some (t ++ ([224, 225, 226, 227, 228, 229] : List Int).drop i)
  | 0, k, t, i, hi, h1, h2, hk => by
    obtain ⟨k, rfl⟩ : ∃ m, k = m + 1 := ⟨k - 1, by omega⟩
    rw [pandectlaw0_Loaned.l0, if_neg (by omega), if_pos (by omega), if_pos (by omega), List.drop_of_length_le (by simp; omega), List.append_nil]
  | n + 1, k, t, i, hi, h1, h2, hk => by
    obtain ⟨k, rfl⟩ : ∃ m, k = m + 1 := ⟨k - 1, by omega⟩
    rw [pandectlaw0_Loaned.l0, if_pos (by omega), if_pos (by omega), show wrap64 ((i : Int) + 1) = ((i + 1 : Nat) : Int) from by unfold wrap64; omega]
    rw [loan_loop l n k _ (i + 1) (by omega) (by simp; omega) (by simp; omega) (by omega)]
    rw [List.append_assoc]
    congr 2
    obtain h | h | h | h | h | h : i = 0 ∨ i = 1 ∨ i = 2 ∨ i = 3 ∨ i = 4 ∨ i = 5 := by omega
    all_goals subst h; decide +kernel
theorem loan (l : List Int) (hl : l.length ≤ 140737488351232) (k : Nat) (hk : 7 ≤ k) : pandectlaw0_Loaned.f k l = some (l ++ [224, 225, 226, 227, 228, 229]) := by
  unfold pandectlaw0_Loaned.f
  rw [Option.bind_some, if_pos (by simp; omega), List.nil_append]
  exact loan_loop l 6 k l 0 rfl (Nat.le_refl _) (by omega) hk
theorem loan_take (l s : List Int) : (l ++ s).take ((l.length : Int) : Int).toNat = l := by rw [Int.toNat_natCast, List.take_left]
theorem kept (l : List Int) : pandectlaw0_Kept.f l l (l ++ [224, 225, 226, 227, 228, 229]) = some true := by
  unfold pandectlaw0_Kept.f
  rw [if_pos ⟨rfl, rfl⟩]
end Loan

section RecLaws
open Go.Proofs.Ytffdonpkmnngpaa.Crc
theorem rd_nat (l : List Int) (j : Nat) (hl : j < l.length) : rd l (j : Int) = l[j] := by simp [rd, List.getD_eq_getElem?_getD, List.getElem?_eq_getElem hl]
theorem rd_byte {l : List Int} (h : Bytes8 l) (j : Int) : 0 ≤ rd l j ∧ rd l j < 256 := by
  unfold rd
  rw [List.getD_eq_getElem?_getD]
  cases hj : l[j.toNat]? with
  | none => simp
  | some x => exact h x (List.mem_of_getElem? hj)
def four (n : Int) : List Int := [(n / 16777216) % 256, (n / 65536) % 256, (n / 256) % 256, n % 256]
def num (b : List Int) : Int := rd b 0 * 16777216 + rd b 1 * 65536 + rd b 2 * 256 + rd b 3
theorem num_cons (a b c d : Int) (z : List Int) : num (a :: b :: c :: d :: z) = a * 16777216 + b * 65536 + c * 256 + d := rfl
theorem num_four (n : Int) (h0 : 0 ≤ n) (h1 : n < 4294967296) (z : List Int) : num (four n ++ z) = n := by
  show num ((n / 16777216) % 256 :: (n / 65536) % 256 :: (n / 256) % 256 :: n % 256 :: z) = n
  rw [num_cons]; omega
theorem four_bytes (n : Int) : Bytes8 (four n) := fun x hx => by
  simp only [four, List.mem_cons, List.not_mem_nil, or_false] at hx
  omega
theorem or_byte (x y : Int) (hx0 : 0 ≤ x) (hx1 : x < 16777216) (hy0 : 0 ≤ y) (hy1 : y < 256) : Go.bits .or .u32 ((x * 256) % 4294967296) (y % 4294967296) = x * 256 + y := by
  have e1 : (x * 256) % 4294967296 = x * 256 := by omega
  have e2 : y % 4294967296 = y := by omega
  rw [e1, e2]
  exact Go.bits_join .u32 32 (by decide) (fun n h0 h1 => by rw [Go.IntKind.wrap_u32]; omega) 8 (x * 256) y (by omega) (by omega) (by omega) hy0 (by omega) (by omega)
theorem number_num (b : List Int) (hb : Bytes8 b) (h4 : 4 ≤ b.length) (k : Nat) (hk : 6 ≤ k) : rec_number.f k b = some (num b) := by
  obtain ⟨k, rfl⟩ : ∃ m, k = m + 5 := ⟨k - 5, by omega⟩
  match b, h4 with
  | a0 :: a1 :: a2 :: a3 :: z, _ =>
    have g0 := hb a0 (by simp)
    have g1 := hb a1 (by simp)
    have g2 := hb a2 (by simp)
    have g3 := hb a3 (by simp)
    unfold rec_number.f
    rw [if_pos (by simp only [List.length_cons]; omega), Option.bind_some]
    have e : List.take 4 (a0 :: a1 :: a2 :: a3 :: z) = [a0, a1, a2, a3] := rfl
    rw [e]
    have r : ∀ (m : Nat) (x : Int) (i : Int), 0 ≤ x → x < 16777216 → 0 ≤ i → i < 4 → rec_number.l0 (m + 1) x [a0, a1, a2, a3] (([a0, a1, a2, a3] : List Int).length : Int) i = rec_number.l0 m (x * 256 + rd [a0, a1, a2, a3] i) [a0, a1, a2, a3] (([a0, a1, a2, a3] : List Int).length : Int) (i + 1) := by
      intro m x i h0 h1 h2 h3
      have hr := rd_byte (l := [a0, a1, a2, a3]) (fun y hy => hb y (by simp at hy ⊢; rcases hy with h | h | h | h <;> simp [h])) i
      rw [rec_number.l0, if_pos (by simp only [List.length_cons, List.length_nil]; omega), if_pos h2, if_pos (by simp only [List.length_cons, List.length_nil]; omega), or_byte x _ h0 h1 hr.1 hr.2]
      rw [show wrap64 (i + 1) = i + 1 from by unfold wrap64; omega]
    have q0 : rd [a0, a1, a2, a3] 0 = a0 := rfl
    have q1 : rd [a0, a1, a2, a3] (0 + 1) = a1 := rfl
    have q2 : rd [a0, a1, a2, a3] (0 + 1 + 1) = a2 := rfl
    have q3 : rd [a0, a1, a2, a3] (0 + 1 + 1 + 1) = a3 := rfl
    rw [show k + 5 = k + 1 + 1 + 1 + 1 + 1 from rfl, r (k + 1 + 1 + 1 + 1) 0 0 (by omega) (by omega) (by omega) (by omega), q0, r (k + 1 + 1 + 1) _ _ (by omega) (by omega) (by omega) (by omega), q1, r (k + 1 + 1) _ _ (by omega) (by omega) (by omega) (by omega), q2, r (k + 1) _ _ (by omega) (by omega) (by omega) (by omega), q3]
    rw [rec_number.l0, if_neg (by simp only [List.length_cons, List.length_nil]; omega), num_cons]
    congr 1; omega

/-- A record. -/
def hd (kind : Int) (body : List Int) : List Int := four (body.length : Int) ++ [kind] ++ body
def recB (kind : Int) (body : List Int) : List Int := hd kind body ++ four (crc (hd kind body))
theorem hd_length (kind : Int) (body : List Int) : (hd kind body).length = 5 + body.length := by simp [hd, four]; omega
theorem recB_length (kind : Int) (body : List Int) : (recB kind body).length = 9 + body.length := by simp [recB, hd_length, four]; omega
theorem hd_bytes {kind : Int} {body : List Int} (hk : 0 ≤ kind ∧ kind < 256) (hb : Bytes8 body) : Bytes8 (hd kind body) := fun x hx => by
  simp only [hd, List.mem_append, List.mem_singleton] at hx
  rcases hx with (hx | rfl) | hx
  · exact four_bytes _ x hx
  · exact hk
  · exact hb x hx
theorem recB_bytes {kind : Int} {body : List Int} (hk : 0 ≤ kind ∧ kind < 256) (hb : Bytes8 body) : Bytes8 (recB kind body) := fun x hx => by
  rcases List.mem_append.1 hx with hx | hx
  · exact hd_bytes hk hb x hx
  · exact four_bytes _ x hx
theorem put_rec (kind : Int) (body : List Int) (hk : 0 ≤ kind ∧ kind < 256) (hb : Bytes8 body) (hl : body.length ≤ 4096) (k : Nat) (hr : 42000 ≤ k) : rec_Put.f k kind body = some (recB kind body, 0) := by
  unfold rec_Put.f
  rw [if_neg (by omega)]
  have e : rec_four.f ((body.length : Int) % 4294967296) = some (four (body.length : Int)) := by
    have : (body.length : Int) % 4294967296 = (body.length : Int) := by omega
    rw [this]; rfl
  have l4 : ∀ n : Int, (four n).length = 4 := fun _ => rfl
  rw [e, Option.bind_some, if_pos (by rw [l4]; omega), Option.bind_some, if_pos (by rw [List.length_append, l4]; simp only [List.length_cons, List.length_nil]; omega), Option.bind_some]
  rw [show four (body.length : Int) ++ [kind] ++ body = hd kind body from rfl]
  rw [sum_crc _ (hd_bytes hk hb) (by rw [hd_length]; omega) k (by rw [hd_length]; omega), Option.bind_some]
  have ef : ∀ n, rec_four.f n = some (four n) := fun _ => rfl
  rw [ef, Option.bind_some, if_pos (by rw [hd_length, l4]; omega)]
  rfl

/-- What Take says. -/
def takeR (b : List Int) : Int × List Int × Int × Int :=
  if b.length < 9 then (0, [], 0, 2)
  else if num b > 4096 ∨ (b.length : Int) < num b + 9 then (0, [], 0, 2)
  else if crc (b.take (5 + num b).toNat) = num (b.drop (5 + num b).toNat) then (rd b 4, (b.take (5 + num b).toNat).drop 5, num b + 9, 0)
  else (0, [], 0, 2)
theorem num_range {b : List Int} (hb : Bytes8 b) : 0 ≤ num b ∧ num b < 4294967296 := by
  have h0 := rd_byte hb 0
  have h1 := rd_byte hb 1
  have h2 := rd_byte hb 2
  have h3 := rd_byte hb 3
  unfold num; omega
theorem take_rec (b : List Int) (hb : Bytes8 b) (hl : b.length ≤ 140737488350000) (k : Nat) (hr : 42000 ≤ k) : rec_Take.f k b = some (takeR b) := by
  obtain ⟨k, rfl⟩ : ∃ m, k = m + 1 := ⟨k - 1, by omega⟩
  unfold rec_Take.f takeR
  by_cases h9 : b.length < 9
  · rw [if_pos (by omega), if_pos h9]
  · rw [if_neg (by omega), if_neg h9, number_num b hb (by omega) (k + 1) (by omega), Option.bind_some]
    have hn := num_range hb
    by_cases hs : num b > 4096
    · rw [if_pos hs, if_pos (.inl hs), rec_Take.j0, if_pos rfl]
    · rw [if_neg hs]
      have ew : wrap64 (5 + wrap64 (num b)) = 5 + num b := by
        rw [show wrap64 (num b) = num b from by unfold wrap64; omega]
        unfold wrap64; omega
      rw [ew, show wrap64 (5 + num b + 4) = num b + 9 from by unfold wrap64; omega]
      by_cases hl2 : (b.length : Int) < num b + 9
      · rw [decide_eq_true hl2, if_pos (.inr hl2), rec_Take.j0, if_pos rfl]
      · rw [decide_eq_false hl2, if_neg (by omega), rec_Take.j0, if_neg (by simp), ew]
        rw [show wrap64 (5 + num b + 4) = num b + 9 from by unfold wrap64; omega]
        clear ew
        have tb : Bytes8 (b.take (5 + num b).toNat) := fun x hx => hb x (List.mem_of_mem_take hx)
        have db : Bytes8 (b.drop (5 + num b).toNat) := fun x hx => hb x (List.mem_of_mem_drop hx)
        have tl : (b.take (5 + num b).toNat).length = (5 + num b).toNat := by rw [List.length_take]; omega
        have dl : (b.drop (5 + num b).toNat).length = b.length - (5 + num b).toNat := List.length_drop
        rw [if_pos (by omega), if_pos (by omega), sum_crc _ tb (by omega) k (by omega), Option.bind_some, number_num _ db (by omega) k (by omega), Option.bind_some]
        by_cases hc : crc (b.take (5 + num b).toNat) = num (b.drop (5 + num b).toNat)
        · rw [if_pos hc, if_pos hc, if_pos (by omega), Option.bind_some, if_pos (by omega), Option.bind_some, if_pos (by rw [List.length_drop, tl]; simp only [List.length_nil]; omega), List.nil_append]
        · rw [if_neg hc, if_neg hc]
theorem num_append {a : List Int} (h : 4 ≤ a.length) (z : List Int) : num (a ++ z) = num a := by
  match a, h with
  | a0 :: a1 :: a2 :: a3 :: t, _ => rfl
theorem num_recB (kind : Int) (body z : List Int) (hl : body.length ≤ 4096) : num (recB kind body ++ z) = body.length := by
  unfold recB hd
  rw [List.append_assoc, List.append_assoc, List.append_assoc, num_four _ (by omega) (by omega)]
theorem rd_recB (kind : Int) (body z : List Int) : rd (recB kind body ++ z) 4 = kind := by
  unfold recB hd four; rfl
theorem take_recB (kind : Int) (body z : List Int) : (recB kind body ++ z).take (5 + body.length) = hd kind body := by
  unfold recB
  rw [List.append_assoc, List.take_left' (hd_length kind body)]
theorem drop_recB (kind : Int) (body z : List Int) : (recB kind body ++ z).drop (5 + body.length) = four (crc (hd kind body)) ++ z := by
  unfold recB
  rw [List.append_assoc, List.drop_left' (hd_length kind body)]
/-- It comes back, whatever stands behind. -/
theorem takeR_back (kind : Int) (body z : List Int) (hl : body.length ≤ 4096) : takeR (recB kind body ++ z) = (kind, body, ((recB kind body).length : Int), 0) := by
  have hr := crc_range (hd kind body)
  have et : (5 + (body.length : Int)).toNat = 5 + body.length := by omega
  unfold takeR
  rw [num_recB _ _ _ hl, et, take_recB, drop_recB, num_four _ hr.1 hr.2, rd_recB]
  rw [if_neg (by rw [List.length_append, recB_length]; omega), if_neg (by rw [List.length_append, recB_length]; omega), if_pos rfl]
  have : (hd kind body).drop 5 = body := by
    unfold hd; rw [List.drop_left' (by simp [four])]
  rw [this, recB_length]
  congr 3; omega
/-- Cut off it is none. -/
theorem takeR_cut (kind : Int) (body : List Int) (hl : body.length ≤ 4096) (i : Nat) (hi : i < (recB kind body).length) : (takeR ((recB kind body).take i)).2.2.2 = 2 := by
  rw [recB_length] at hi
  have hlen : ((recB kind body).take i).length = i := by rw [List.length_take, recB_length]; omega
  unfold takeR
  rw [hlen]
  by_cases h9 : i < 9
  · rw [if_pos h9]
  · rw [if_neg h9]
    have hn : num ((recB kind body).take i) = body.length := by
      have := num_recB kind body [] hl
      rw [List.append_nil] at this
      rw [← this]
      have e : recB kind body = (recB kind body).take i ++ (recB kind body).drop i := (List.take_append_drop _ _).symm
      conv => rhs; rw [e]
      exact (num_append (by omega) _).symm
    rw [hn, if_pos (.inr (by omega))]
theorem num_set_low {b : List Int} {i : Nat} (h : 4 ≤ i) (y : Int) : num (b.set i y) = num b := by
  match b with
  | [] => rfl
  | [_] => match i, h with | i + 4, _ => rfl
  | [_, _] => match i, h with | i + 4, _ => rfl
  | [_, _, _] => match i, h with | i + 4, _ => rfl
  | a0 :: a1 :: a2 :: a3 :: t => match i, h with | i + 4, _ => rfl
theorem num_inj {u v : List Int} (hu : Bytes8 u) (hv : Bytes8 v) (lu : u.length = 4) (lv : v.length = 4) (h : num u = num v) : u = v := by
  match u, v, lu, lv with
  | [a0, a1, a2, a3], [b0, b1, b2, b3], _, _ =>
    have := hu a0 (by simp); have := hu a1 (by simp); have := hu a2 (by simp); have := hu a3 (by simp)
    have := hv b0 (by simp); have := hv b1 (by simp); have := hv b2 (by simp); have := hv b3 (by simp)
    rw [num_cons, num_cons] at h
    have h0 : a0 = b0 := by omega
    have h1 : a1 = b1 := by omega
    have h2 : a2 = b2 := by omega
    have h3 : a3 = b3 := by omega
    rw [h0, h1, h2, h3]
/-- With a byte turned (none of its length) it is none. -/
theorem takeR_turned (kind : Int) (body : List Int) (hk : 0 ≤ kind ∧ kind < 256) (hb : Bytes8 body) (hl : body.length ≤ 4096) (i : Nat) (h4 : 4 ≤ i) (hi : i < (recB kind body).length) (y : Int) (hy : 0 ≤ y ∧ y < 256) :
    ((takeR ((recB kind body).set i y)).2.2.2 = 0 ↔ y = (recB kind body)[i]) := by
  have hB := recB_bytes hk hb
  have hn := num_recB kind body [] hl
  rw [List.append_nil] at hn
  have et : (5 + (body.length : Int)).toNat = 5 + body.length := by omega
  have hlen := recB_length kind body
  have hr := crc_range (hd kind body)
  have ht := take_recB kind body []
  have hd' := drop_recB kind body []
  rw [List.append_nil] at ht hd'
  rw [List.append_nil] at hd'
  unfold takeR
  rw [List.length_set, num_set_low h4, hn, et, if_neg (by omega), if_neg (by omega)]
  rcases Nat.lt_or_ge i (5 + body.length) with hlt | hge
  · have e1 : ((recB kind body).set i y).take (5 + body.length) = (hd kind body).set i y := by
      rw [List.take_set, ht]
    have e2 : ((recB kind body).set i y).drop (5 + body.length) = four (crc (hd kind body)) := by
      rw [List.drop_set_of_lt hlt, hd']
    have e3 : (recB kind body)[i] = (hd kind body)[i]'(by rw [hd_length]; exact hlt) := by
      exact List.getElem_append_left _
    have h4' : num (four (crc (hd kind body))) = crc (hd kind body) := by
      have := num_four _ hr.1 hr.2 []
      rwa [List.append_nil] at this
    rw [e1, e2, h4', e3]
    have hc := crc_set (hd kind body) i (by rw [hd_length]; exact hlt) (hd_bytes hk hb) y hy.1 hy.2
    by_cases hq : crc ((hd kind body).set i y) = crc (hd kind body)
    · rw [if_pos hq]; exact ⟨fun _ => hc.1 hq, fun _ => rfl⟩
    · rw [if_neg hq]; exact ⟨fun h => absurd h (by decide), fun h => absurd (hc.2 h) hq⟩
  · have e1 : ((recB kind body).set i y).take (5 + body.length) = hd kind body := by
      rw [List.take_set_of_le hge, ht]
    have e2 : ((recB kind body).set i y).drop (5 + body.length) = (four (crc (hd kind body))).set (i - (5 + body.length)) y := by
      rw [List.drop_set, if_neg (by omega), hd']
    have l4 : (four (crc (hd kind body))).length = 4 := rfl
    have e3 : (recB kind body)[i] = (four (crc (hd kind body)))[i - (5 + body.length)]'(by rw [l4]; omega) := by
      have hq : (hd kind body).length ≤ i := by rw [hd_length]; exact hge
      have : (hd kind body ++ four (crc (hd kind body)))[i]? = (four (crc (hd kind body)))[i - (5 + body.length)]? := by
        rw [List.getElem?_append_right hq, hd_length]
      rw [List.getElem?_eq_getElem (show i - (5 + body.length) < (four (crc (hd kind body))).length by rw [l4]; omega)] at this
      exact Option.some.inj ((List.getElem?_eq_getElem hi).symm.trans this)
    have h4' : num (four (crc (hd kind body))) = crc (hd kind body) := by
      have := num_four _ hr.1 hr.2 []
      rwa [List.append_nil] at this
    rw [e1, e2, e3]
    have fb := four_bytes (crc (hd kind body))
    have sb : Bytes8 ((four (crc (hd kind body))).set (i - (5 + body.length)) y) := fun x hx => by
      rcases List.mem_or_eq_of_mem_set hx with hx | rfl
      · exact fb x hx
      · exact hy
    by_cases hq : crc (hd kind body) = num ((four (crc (hd kind body))).set (i - (5 + body.length)) y)
    · rw [if_pos hq]
      refine ⟨fun _ => ?_, fun _ => rfl⟩
      have hs := num_inj sb fb (by rw [List.length_set]; rfl) rfl (by rw [← hq, h4'])
      have := congrArg (fun l => l[i - (5 + body.length)]?) hs
      simp only [List.getElem?_set_self (show i - (5 + body.length) < (four (crc (hd kind body))).length by rw [l4]; omega), List.getElem?_eq_getElem (show i - (5 + body.length) < (four (crc (hd kind body))).length by rw [l4]; omega), Option.some.injEq] at this
      exact this
    · rw [if_neg hq]
      refine ⟨fun h => absurd h (by decide), fun h => absurd ?_ hq⟩
      rw [h, List.set_getElem_self, h4']
end RecLaws

section RefRec
open Go.Proofs.Ytffdonpkmnngpaa.Crc
theorem wrap_u64 (x : Int) (h0 : 0 ≤ x) (h1 : x < 18446744073709551616) : IntKind.u64.wrap x = x := by rw [Go.IntKind.wrap_u64]; omega
theorem high_step (m : Nat) (x : Int) (xs : List Int) (i : Int) (h0 : 0 ≤ x) (h1 : x < 4294967296) (hi : 0 ≤ i) (hl : i < (xs.length : Int)) (hs : i < 100) :
    pandectref2_High.l0 (m + 1) x xs i = pandectref2_High.l0 m (x / 256) (xs.set i.toNat (x % 256)) (i - 1) := by
  rw [pandectref2_High.l0, if_pos (by omega), if_pos hi, if_pos hl, Int.tdiv_eq_ediv_of_nonneg h0, Int.tmod_eq_emod_of_nonneg h0, wrap_u64 _ (by omega) (by omega), show x % 256 % 256 = x % 256 from by omega, show wrap64 (i - 1) = i - 1 from by unfold wrap64; omega]
theorem high4 (n : Int) (h0 : 0 ≤ n) (h1 : n < 4294967296) (k : Nat) (hk : 5 ≤ k) : pandectref2_High.f k n 4 = some (four n) := by
  obtain ⟨k, rfl⟩ : ∃ m, k = m + 5 := ⟨k - 5, by omega⟩
  unfold pandectref2_High.f
  rw [if_pos (by omega), if_pos (by decide), show wrap64 (4 - 1) = 3 from by unfold wrap64; omega]
  rw [show (List.replicate (4 : Int).toNat (0 : Int)) = [0, 0, 0, 0] from rfl]
  rw [show k + 5 = k + 1 + 1 + 1 + 1 + 1 from rfl, high_step _ _ _ _ h0 h1 (by omega) (by decide) (by omega)]
  rw [show ((3 : Int) - 1) = 2 from rfl, show (3 : Int).toNat = 3 from rfl]
  rw [high_step _ _ _ _ (by omega) (by omega) (by omega) (by simp) (by omega), show ((2 : Int) - 1) = 1 from rfl, show (2 : Int).toNat = 2 from rfl]
  rw [high_step _ _ _ _ (by omega) (by omega) (by omega) (by simp) (by omega), show ((1 : Int) - 1) = 0 from rfl, show (1 : Int).toNat = 1 from rfl]
  rw [high_step _ _ _ _ (by omega) (by omega) (by omega) (by simp) (by omega), show ((0 : Int) - 1) = -1 from rfl, show (0 : Int).toNat = 0 from rfl]
  rw [pandectref2_High.l0, if_neg (by omega)]
  simp only [List.set, four]
  congr 2
  · omega
  · congr 1
    omega
theorem num4 (l : List Int) (hb : Bytes8 l) (h4 : l.length = 4) (k : Nat) (hk : 5 ≤ k) : pandectref2_Num.f k l = some (num l) := by
  obtain ⟨k, rfl⟩ : ∃ m, k = m + 5 := ⟨k - 5, by omega⟩
  match l, h4 with
  | [a0, a1, a2, a3], _ =>
    have g0 := hb a0 (by simp)
    have g1 := hb a1 (by simp)
    have g2 := hb a2 (by simp)
    have g3 := hb a3 (by simp)
    have r : ∀ (m : Nat) (x : Int) (i : Int), 0 ≤ x → x < 16777216 → 0 ≤ i → i < 4 → pandectref2_Num.l0 (m + 1) [a0, a1, a2, a3] x i = pandectref2_Num.l0 m [a0, a1, a2, a3] (x * 256 + rd [a0, a1, a2, a3] i) (i + 1) := by
      intro m x i h0 h1 h2 h3
      have hr := rd_byte (l := [a0, a1, a2, a3]) hb i
      rw [pandectref2_Num.l0, if_pos (by simp only [List.length_cons, List.length_nil]; omega), if_pos h2, wrap_u64 _ hr.1 (by omega), wrap_u64 (x * 256) (by omega) (by omega), wrap_u64 _ (by omega) (by omega)]
      rw [show wrap64 (i + 1) = i + 1 from by unfold wrap64; omega]
    have q0 : rd [a0, a1, a2, a3] 0 = a0 := rfl
    have q1 : rd [a0, a1, a2, a3] (0 + 1) = a1 := rfl
    have q2 : rd [a0, a1, a2, a3] (0 + 1 + 1) = a2 := rfl
    have q3 : rd [a0, a1, a2, a3] (0 + 1 + 1 + 1) = a3 := rfl
    unfold pandectref2_Num.f
    rw [show k + 5 = k + 1 + 1 + 1 + 1 + 1 from rfl, r (k + 1 + 1 + 1 + 1) 0 0 (by omega) (by omega) (by omega) (by omega), q0, r (k + 1 + 1 + 1) _ _ (by omega) (by omega) (by omega) (by omega), q1, r (k + 1 + 1) _ _ (by omega) (by omega) (by omega) (by omega), q2, r (k + 1) _ _ (by omega) (by omega) (by omega) (by omega), q3]
    rw [pandectref2_Num.l0, if_neg (by simp only [List.length_cons, List.length_nil]; omega), num_cons]
    congr 1; omega
/-- What Put says. -/
def putR (kind : Int) (body : List Int) : List Int × Int := if body.length > 4096 then ([], 4) else (recB kind body, 0)
theorem put_all (kind : Int) (body : List Int) (hk : 0 ≤ kind ∧ kind < 256) (hb : Bytes8 body) (k : Nat) (hr : 42000 ≤ k) : rec_Put.f k kind body = some (putR kind body) := by
  unfold putR
  by_cases h : body.length > 4096
  · rw [if_pos h]; unfold rec_Put.f; rw [if_pos (by omega)]
  · rw [if_neg h]; exact put_rec kind body hk hb (by omega) k hr
theorem crc_range (l : List Int) : 0 ≤ crc l ∧ crc l < 4294967296 := by
  unfold crc
  have := (BitVec.allOnes 32 ^^^ reg l).isLt
  omega
theorem ref_put (kind : Int) (body : List Int) (hk : 0 ≤ kind ∧ kind < 256) (hb : Bytes8 body) (k : Nat) (hr : 42000 ≤ k) : pandectref2_PutRec.f k kind body = some (putR kind body) := by
  unfold putR pandectref2_PutRec.f
  by_cases h : body.length > 4096
  · rw [if_pos h, if_pos (by omega)]
  · have l4 : ∀ n : Int, (four n).length = 4 := fun _ => rfl
    have hc := crc_range (hd kind body)
    rw [if_neg h, if_neg (by omega), wrap_u64 _ (by omega) (by omega), high4 _ (by omega) (by omega) k (by omega), Option.bind_some, if_pos (by rw [l4]; omega), Option.bind_some, if_pos (by rw [List.length_append, l4]; simp only [List.length_cons, List.length_nil]; omega), Option.bind_some]
    rw [show four (body.length : Int) ++ [kind] ++ body = hd kind body from rfl]
    rw [ref_crc _ (hd_bytes hk hb) (by rw [hd_length]; omega) k (by rw [hd_length]; omega), Option.bind_some, wrap_u64 _ (by omega) (by omega), high4 _ hc.1 hc.2 k (by omega), Option.bind_some, if_pos (by rw [hd_length, l4]; omega)]
    rfl
theorem ref_take (b : List Int) (hb : Bytes8 b) (hl : b.length ≤ 140737488350000) (k : Nat) (hr : 42000 ≤ k) : pandectref2_TakeRec.f k b = some (takeR b) := by
  obtain ⟨k, rfl⟩ : ∃ m, k = m + 1 := ⟨k - 1, by omega⟩
  unfold pandectref2_TakeRec.f takeR
  by_cases h9 : b.length < 9
  · rw [if_pos (by omega), if_pos h9]
  · have hn := num_range hb
    have e4 : num (b.take 4) = num b := by
      have := num_append (a := b.take 4) (by rw [List.length_take]; omega) (b.drop 4)
      rw [List.take_append_drop] at this
      exact this.symm
    rw [if_neg (by omega), if_neg h9, if_pos (by omega), num4 (b.take 4) (fun x hx => hb x (List.mem_of_mem_take hx)) (by rw [List.length_take]; omega) (k + 1) (by omega), Option.bind_some, e4]
    by_cases hs : num b > 4096
    · rw [if_pos hs, if_pos (.inl hs), pandectref2_TakeRec.j0, if_pos rfl]
    · rw [if_neg hs, wrap_u64 _ (by omega) (by omega), wrap_u64 (num b + 9) (by omega) (by omega)]
      have ew : wrap64 (wrap64 (num b) + 5) = 5 + num b := by
        rw [show wrap64 (num b) = num b from by unfold wrap64; omega]
        unfold wrap64; omega
      by_cases hl2 : (b.length : Int) < num b + 9
      · rw [decide_eq_true hl2, if_pos (.inr hl2), pandectref2_TakeRec.j0, if_pos rfl]
      · rw [decide_eq_false hl2, if_neg (by omega), pandectref2_TakeRec.j0, if_neg (by simp), ew]
        rw [show wrap64 (5 + num b + 4) = num b + 9 from by unfold wrap64; omega]
        clear ew
        have tb : Bytes8 (b.take (5 + num b).toNat) := fun x hx => hb x (List.mem_of_mem_take hx)
        have db : Bytes8 ((b.take (num b + 9).toNat).drop (5 + num b).toNat) := fun x hx => hb x (List.mem_of_mem_take (List.mem_of_mem_drop hx))
        have tl : (b.take (5 + num b).toNat).length = (5 + num b).toNat := by rw [List.length_take]; omega
        have dl : ((b.take (num b + 9).toNat).drop (5 + num b).toNat).length = 4 := by rw [List.length_drop, List.length_take]; omega
        have hcr := crc_range (b.take (5 + num b).toNat)
        have ed : num ((b.take (num b + 9).toNat).drop (5 + num b).toNat) = num (b.drop (5 + num b).toNat) := by
          have h := num_append (a := (b.take (num b + 9).toNat).drop (5 + num b).toNat) (by omega) (b.drop (num b + 9).toNat)
          rw [← h]
          congr 1
          have e := List.take_append_drop (num b + 9).toNat b
          have e2 : (b.take (num b + 9).toNat ++ b.drop (num b + 9).toNat).drop (5 + num b).toNat = b.drop (5 + num b).toNat := by rw [e]
          rw [List.drop_append_of_le_length (by rw [List.length_take]; omega)] at e2
          exact e2
        rw [if_pos (by omega), if_pos (by omega), ref_crc _ tb (by omega) k (by omega), Option.bind_some, if_pos (by omega), if_pos (by omega), num4 _ db dl k (by omega), Option.bind_some, wrap_u64 _ hcr.1 (by omega), ed]
        by_cases hc : crc (b.take (5 + num b).toNat) = num (b.drop (5 + num b).toNat)
        · rw [if_pos hc, if_pos hc, if_pos (by omega), Option.bind_some, if_pos (by omega), Option.bind_some, if_pos (by rw [List.length_drop, tl]; simp only [List.length_nil]; omega), List.nil_append]
        · rw [if_neg hc, if_neg hc]
end RefRec

open Go.Proofs.Ytffdonpkmnngpaa.Crc
theorem begun_true (k : Nat) (hk : 100 ≤ k) : pandectlaw3_begun.f k = some true :=
  at_rounds (g := pandectlaw3_begun.f) pandectlaw3_begun.mono hk (by decide +kernel)
theorem bytes_zeros (n : Nat) : Bytes8 (List.replicate n 0) := fun x hx => by
  rw [(List.mem_replicate.1 hx).2]; omega
theorem join (k : Nat) (hk : 50000 ≤ k) (kind : Int) (l1 l2 : List Int) (long : Bool) (hd : 0 ≤ kind ∧ kind < 256) (h1 : Bytes8 l1) (h2 : Bytes8 l2) (n1 : l1.length ≤ 200) (n2 : l2.length ≤ 200) :
    pandectlaw3_RecAll.j0 (k + 1) kind l1 l2 long false = some true := by
  rw [pandectlaw3_RecAll.j0, if_neg (by simp)]
  cases long with
  | true =>
    rw [if_pos rfl, show wrap64 (3996 + (l1.length : Int)) = 3996 + (l1.length : Int) from by unfold wrap64; omega, if_pos (by omega), if_pos (by omega), Option.bind_some]
    generalize hz : List.replicate (3996 + (l1.length : Int)).toNat (0 : Int) = z
    have bz : Bytes8 z := by rw [← hz]; exact bytes_zeros _
    have lz : z.length ≤ 4196 := by rw [← hz, List.length_replicate]; omega
    rw [loan z (by omega) k (by omega), Option.bind_some, if_pos (by omega), if_pos (by simp; omega), loan_take, Option.bind_some]
    rw [loan l2 (by omega) k (by omega), Option.bind_some, if_pos (by omega), if_pos (by simp; omega), loan_take, Option.bind_some]
    rw [put_all kind z hd bz k (by omega), Option.bind_some, ref_put kind z hd bz k (by omega), Option.bind_some, take_rec l2 h2 (by omega) k (by omega), Option.bind_some, ref_take l2 h2 (by omega) k (by omega), Option.bind_some]
    rw [if_pos rfl, if_pos rfl, if_pos rfl, if_pos rfl, if_pos rfl, if_pos rfl, kept, Option.bind_some, if_pos rfl, kept]
    rfl
  | false =>
    rw [if_neg (by simp)]
    rw [loan l1 (by omega) k (by omega), Option.bind_some, if_pos (by omega), if_pos (by simp; omega), loan_take, Option.bind_some]
    rw [loan l2 (by omega) k (by omega), Option.bind_some, if_pos (by omega), if_pos (by simp; omega), loan_take, Option.bind_some]
    rw [put_all kind l1 hd h1 k (by omega), Option.bind_some, ref_put kind l1 hd h1 k (by omega), Option.bind_some, take_rec l2 h2 (by omega) k (by omega), Option.bind_some, ref_take l2 h2 (by omega) k (by omega), Option.bind_some]
    rw [if_pos rfl, if_pos rfl, if_pos rfl, if_pos rfl, if_pos rfl, if_pos rfl, kept, Option.bind_some, if_pos rfl, kept]
    rfl

theorem RecAll : pandectlaw3_RecAll.Pure := by
  intro kind l1 l2 long hd m1 s1 w1 m2 s2 w2
  have b1 := bytes_of w1
  have b2 := bytes_of w2
  have hk : 0 ≤ kind ∧ kind < 256 := bytes_of (l := [kind]) (fun x hx => by rw [List.mem_singleton.1 hx]; exact hd) kind (by simp)
  refine ⟨50001, ?_⟩
  unfold pandectlaw3_RecAll.f
  rw [begun_true _ (by omega), Option.bind_some, if_pos rfl]
  by_cases c1 : (l1.length : Int) > 200
  · rw [if_pos c1, pandectlaw3_RecAll.j0, if_pos rfl]
  · rw [if_neg c1]
    by_cases c2 : (l2.length : Int) > 200
    · rw [decide_eq_true c2, pandectlaw3_RecAll.j0, if_pos rfl]
    · rw [decide_eq_false c2]
      exact join 50000 (by omega) kind l1 l2 long hk b1 b2 (by omega) (by omega)

end Go.Proofs.Ytffdonpkmnngpaa.Pure
