/- SumSums: of three texts of one length the sum of what is odd in them is what is odd in their sums. No condition. -/
import Derived.Test.YtffdonpkmnngpaaPSumSumsx1
import Derived.Test.YtffdonpkmnngpaaCrc
namespace Go.Proofs.Ytffdonpkmnngpaa.Pure
open Go.RowKit Go.Proofs.Ytffdonpkmnngpaa.PSumSums Go.Proofs.YtffdonpkmnngpaaW.PrintWords Go.Proofs.YtffdonpkmnngpaaW.PrintLast
set_option linter.unusedVariables false
section SumLoop
open Go.Proofs.Ytffdonpkmnngpaa.Crc
theorem bx32 (a b : BitVec 32) : Go.bits .xor .u32 (a.toNat : Int) (b.toNat : Int) = ((a ^^^ b).toNat : Int) := by
  have h := (a ^^^ b).isLt
  have e : Go.bits .xor .u32 (a.toNat : Int) (b.toNat : Int) = IntKind.u32.wrap ((BitVec.ofInt 32 (a.toNat : Int) ^^^ BitVec.ofInt 32 (b.toNat : Int)).toNat : Int) := rfl
  rw [e, BitVec.ofInt_natCast, BitVec.ofInt_natCast, BitVec.ofNat_toNat, BitVec.ofNat_toNat, BitVec.setWidth_eq, BitVec.setWidth_eq, Go.IntKind.wrap_u32]
  omega
theorem byte32 (x : Int) (h0 : 0 ≤ x) (h1 : x < 256) : x % 4294967296 = ((BitVec.ofInt 32 x).toNat : Int) := by
  obtain ⟨n, rfl⟩ := Int.eq_ofNat_of_zero_le h0
  rw [BitVec.ofInt_natCast, BitVec.toNat_ofNat]
  omega
theorem and1 (a : BitVec 32) : Go.bits .and .u32 (a.toNat : Int) 1 = ((a &&& 1#32).toNat : Int) := by
  have h := (a &&& 1#32).isLt
  have e : Go.bits .and .u32 (a.toNat : Int) 1 = IntKind.u32.wrap ((BitVec.ofInt 32 (a.toNat : Int) &&& 1#32).toNat : Int) := rfl
  rw [e, BitVec.ofInt_natCast, BitVec.ofNat_toNat, BitVec.setWidth_eq, Go.IntKind.wrap_u32]
  omega
theorem bstep (r : BitVec 32) : Go.bits .xor .u32 ((r.toNat : Int) / 2) ((Go.bits .and .u32 (r.toNat : Int) 1 * 2197175160) % 4294967296) = ((cstep r).toNat : Int) := by
  have e1 : ((r.toNat : Int) / (2 : Int)) = ((r >>> 1).toNat : Int) := by
    rw [BitVec.toNat_ushiftRight, Nat.shiftRight_eq_div_pow]; simp
  have e2 : (Go.bits .and .u32 (r.toNat : Int) 1 * 2197175160) % 4294967296 = ((if r.getLsbD 0 then poly else 0#32).toNat : Int) := by
    have hb : r.getLsbD 0 = decide (r.toNat % 2 = 1) := by
      rw [BitVec.getLsbD, Nat.testBit_zero]
    rw [and1, BitVec.toNat_and, hb]
    have h1 : r.toNat &&& (1#32).toNat = r.toNat % 2 := by
      show r.toNat &&& 1 = _
      rw [Nat.and_one_is_mod]
    rw [h1]
    rcases Nat.mod_two_eq_zero_or_one r.toNat with h | h <;> rw [h] <;> decide
  rw [e1, e2, bx32]; rfl
theorem sum_bits (xs : List Int) (len i : Int) : ∀ (n k : Nat) (r : BitVec 32), n ≤ 8 →
    sum_Sum.l1 (k + 1 + n) (r.toNat : Int) xs len i (8 - n) = sum_Sum.l0 k ((steps n r).toNat : Int) xs len (wrap64 (i + 1))
  | 0, k, r, _ => by
    rw [show k + 1 + 0 = k + 1 from rfl]
    simp only [sum_Sum.l1]
    rw [if_neg (by omega)]; rfl
  | n + 1, k, r, hn => by
    rw [show k + 1 + (n + 1) = (k + 1 + n) + 1 from by omega]
    simp only [sum_Sum.l1]
    rw [if_pos (by omega), bstep]
    have e : wrap64 ((8 : Int) - ((n + 1 : Nat) : Int) + 1) = 8 - (n : Int) := by unfold wrap64; omega
    rw [e, sum_bits xs len i n k (cstep r) (by omega)]
    rfl
theorem sum_loop (xs : List Int) (hb : Bytes8 xs) (hl : xs.length ≤ 140737488351232) : ∀ (n i k : Nat) (r : BitVec 32), i + n = xs.length → 10 * n + 1 ≤ k →
    sum_Sum.l0 k (r.toNat : Int) xs (xs.length : Int) (i : Int) = some (((BitVec.allOnes 32) ^^^ (xs.drop i).foldl upd r).toNat : Int)
  | 0, i, k, r, hi, hk => by
    obtain ⟨k, rfl⟩ : ∃ m, k = m + 1 := ⟨k - 1, by omega⟩
    simp only [sum_Sum.l0]
    rw [if_neg (by omega), List.drop_of_length_le (by omega)]
    have e : (4294967295 : Int) = ((BitVec.allOnes 32).toNat : Int) := by decide
    rw [e, bx32]; rfl
  | n + 1, i, k, r, hi, hk => by
    obtain ⟨k, rfl⟩ : ∃ m, k = m + 10 := ⟨k - 10, by omega⟩
    rw [show k + 10 = (k + 1 + 8) + 1 from by omega]
    simp only [sum_Sum.l0]
    rw [if_pos (by omega), if_pos (by omega), if_pos (by omega)]
    have hx : rd xs (i : Int) = xs[i]'(by omega) := by simp [rd, List.getD_eq_getElem?_getD, List.getElem?_eq_getElem (show i < xs.length by omega)]
    have hbx := hb (xs[i]'(by omega)) (List.getElem_mem (by omega))
    rw [hx, byte32 _ hbx.1 hbx.2, bx32]
    have e := sum_bits xs (xs.length : Int) (i : Int) 8 k (r ^^^ BitVec.ofInt 32 (xs[i]'(by omega))) (Nat.le_refl 8)
    rw [show (8 : Int) - ((8 : Nat) : Int) = 0 from by omega] at e
    rw [e]
    have ew : wrap64 ((i : Int) + 1) = ((i + 1 : Nat) : Int) := by unfold wrap64; omega
    rw [ew, sum_loop xs hb hl n (i + 1) k _ (by omega) (by omega)]
    rw [List.drop_eq_getElem_cons (show i < xs.length by omega)]
    rfl
/-- The sum of Bytes8, with enough rounds. -/
theorem sum_crc (xs : List Int) (hb : Bytes8 xs) (hl : xs.length ≤ 140737488351232) (k : Nat) (hk : 10 * xs.length + 1 ≤ k) : sum_Sum.f k xs = some (crc xs) := by
  unfold sum_Sum.f
  have e : (4294967295 : Int) = ((BitVec.allOnes 32).toNat : Int) := by decide
  have := sum_loop xs hb hl xs.length 0 k (BitVec.allOnes 32) (by omega) hk
  rw [e]
  exact this
end SumLoop

open Go.Proofs.Ytffdonpkmnngpaa.Crc
theorem begun_true (k : Nat) (hk : 100 ≤ k) : pandectlaw2_begun.f k = some true :=
  at_rounds (g := pandectlaw2_begun.f) pandectlaw2_begun.mono hk (by decide +kernel)

def odd3 (a b c : List Int) (m : Nat) : List Int := (List.range m).map fun (j : Nat) => Go.bits .xor .u8 (Go.bits .xor .u8 (rd a (j : Int)) (rd b (j : Int))) (rd c (j : Int))
theorem odd3_length (a b c : List Int) (m : Nat) : (odd3 a b c m).length = m := by simp [odd3]
theorem rd_byte {l : List Int} (h : Bytes8 l) (j : Nat) : 0 ≤ rd l j ∧ rd l j < 256 := by
  unfold rd
  rw [List.getD_eq_getElem?_getD]
  cases hj : l[(j : Int).toNat]? with
  | none => simp
  | some x => exact h x (List.mem_of_getElem? hj)
theorem odd3_bytes {a b c : List Int} (ha : Bytes8 a) (hb : Bytes8 b) (hc : Bytes8 c) (m : Nat) : Bytes8 (odd3 a b c m) := fun x hx => by
  obtain ⟨j, _, rfl⟩ := List.mem_map.1 hx
  exact (bx8_bytes _ _ (bx8_bytes _ _ (rd_byte ha j) (rd_byte hb j)).1 (rd_byte hc j)).1
theorem diffs_getElem (u v : List Int) (j : Nat) (hu : j < u.length) (hv : j < v.length) : (diffs u v)[j]? = some (BitVec.ofInt 32 u[j] ^^^ BitVec.ofInt 32 v[j]) := by
  have hz : j < (u.zip v).length := by simp; omega
  rw [diffs, List.getElem?_map, List.getElem?_eq_getElem hz, List.getElem_zip]; rfl
theorem odd3_diffs {a b c : List Int} (ha : Bytes8 a) (hb : Bytes8 b) (hc : Bytes8 c) (m : Nat) (h0 : m ≤ a.length) (h1 : m ≤ b.length) (h2 : m ≤ c.length) :
    diffs (odd3 a b c m) (c.take m) = diffs (a.take m) (b.take m) := by
  apply List.ext_getElem?
  intro j
  rcases Nat.lt_or_ge j m with hj | hj
  · rw [diffs_getElem _ _ j (by rw [odd3_length]; exact hj) (by simp; omega), diffs_getElem _ _ j (by simp; omega) (by simp; omega)]
    have e : (odd3 a b c m)[j]'(by rw [odd3_length]; exact hj) = Go.bits .xor .u8 (Go.bits .xor .u8 (rd a j) (rd b j)) (rd c j) := by simp [odd3]
    have r : ∀ (l : List Int) (hl : j < l.length), rd l (j : Int) = l[j] := fun l hl => by simp [rd, List.getD_eq_getElem?_getD, List.getElem?_eq_getElem hl]
    have h := bx8_bytes _ _ (rd_byte ha j) (rd_byte hb j)
    rw [e, (bx8_bytes _ _ h.1 (rd_byte hc j)).2, h.2, r a (by omega), r b (by omega), r c (by omega), List.getElem_take, List.getElem_take, List.getElem_take, BitVec.xor_assoc, BitVec.xor_self, BitVec.xor_zero]
  · rw [List.getElem?_eq_none (by simp [diffs, odd3_length]; omega), List.getElem?_eq_none (by simp [diffs]; omega)]

theorem set_mid (X : List Int) (i m : Nat) (hX : X.length = m) (hi : i < m) (x : Int) (hx : X[i]'(by omega) = x) :
    (X.take i ++ List.replicate (m - i) 0).set i x = X.take (i + 1) ++ List.replicate (m - (i + 1)) 0 := by
  have e : m - i = (m - (i + 1)) + 1 := by omega
  rw [e, List.replicate_succ, List.set_append_right _ _ (by simp; omega)]
  have : i - (X.take i).length = 0 := by simp; omega
  rw [this, List.set_cons_zero, List.take_succ_eq_append_getElem (by omega), hx]
  simp

theorem fin (k : Nat) (a b c : List Int) (m : Nat) (hm : m ≤ 60) (h0 : m ≤ a.length) (h1 : m ≤ b.length) (h2 : m ≤ c.length) (ha : Bytes8 a) (hb : Bytes8 b) (hc : Bytes8 c) (hk : 1000 ≤ k) :
    ((sum_Sum.f k (odd3 a b c m)).bind fun t112 => (if 0 ≤ (m : Int) then (if (m : Int) ≤ (a.length : Int) then ((sum_Sum.f k (a.take (m : Int).toNat)).bind fun t114 => (if (m : Int) ≤ (b.length : Int) then ((sum_Sum.f k (b.take (m : Int).toNat)).bind fun t116 => (if (m : Int) ≤ (c.length : Int) then ((sum_Sum.f k (c.take (m : Int).toNat)).bind fun t118 => (some (t112 == (Go.bits .xor .u32 (Go.bits .xor .u32 t114 t116) t118)))) else (none))) else (none))) else (none)) else (none))) = some true := by
  have tb : ∀ {l : List Int}, Bytes8 l → Bytes8 (l.take m) := fun h x hx => h x (List.mem_of_mem_take hx)
  rw [sum_crc _ (odd3_bytes ha hb hc m) (by rw [odd3_length]; omega) k (by rw [odd3_length]; omega)]
  simp only [Option.bind_some, Int.toNat_natCast]
  rw [if_pos (by omega), if_pos (by omega), sum_crc _ (tb ha) (by simp; omega) k (by simp; omega)]
  simp only [Option.bind_some]
  rw [if_pos (by omega), sum_crc _ (tb hb) (by simp; omega) k (by simp; omega)]
  simp only [Option.bind_some]
  rw [if_pos (by omega), sum_crc _ (tb hc) (by simp; omega) k (by simp; omega)]
  simp only [Option.bind_some, Option.some.injEq, beq_iff_eq]
  have e := crc_three (odd3 a b c m) (a.take m) (b.take m) (c.take m) (by rw [odd3_length]; simp; omega) (by rw [odd3_length]; simp; omega) (by rw [odd3_length]; simp; omega) (odd3_diffs ha hb hc m h0 h1 h2)
  unfold crc
  rw [bx32, bx32, e]
  congr 2
  have x3 : ∀ o p q r : BitVec 32, o ^^^ (p ^^^ q ^^^ r) = (o ^^^ p) ^^^ (o ^^^ q) ^^^ (o ^^^ r) := fun o p q r => by
    have : (o ^^^ p) ^^^ (o ^^^ q) ^^^ (o ^^^ r) = (o ^^^ o) ^^^ (o ^^^ (p ^^^ q ^^^ r)) := by ac_rfl
    rw [this, BitVec.xor_self, BitVec.zero_xor]
  exact x3 _ _ _ _

theorem loop (a b c : List Int) (m : Nat) (hm : m ≤ 60) (h0 : m ≤ a.length) (h1 : m ≤ b.length) (h2 : m ≤ c.length) (ha : Bytes8 a) (hb : Bytes8 b) (hc : Bytes8 c) : ∀ (n i k : Nat), i + n = m → 1001 + n ≤ k →
    pandectlaw2_SumSums.l0 k a b c (m : Int) ((odd3 a b c m).take i ++ List.replicate (m - i) 0) (i : Int) = some true
  | 0, i, k, hi, hk => by
    obtain ⟨k, rfl⟩ : ∃ q, k = q + 1 := ⟨k - 1, by omega⟩
    simp only [pandectlaw2_SumSums.l0]
    rw [if_neg (by omega), show m - i = 0 from by omega, List.replicate_zero, List.append_nil, List.take_of_length_le (by rw [odd3_length]; omega)]
    exact fin k a b c m hm h0 h1 h2 ha hb hc (by omega)
  | n + 1, i, k, hi, hk => by
    obtain ⟨k, rfl⟩ : ∃ q, k = q + 1 := ⟨k - 1, by omega⟩
    simp only [pandectlaw2_SumSums.l0]
    rw [if_pos (by omega), if_pos (by omega), if_pos (by omega), if_pos (by omega), if_pos (by omega), if_pos (by simp [odd3_length]; omega)]
    have ew : wrap64 ((i : Int) + 1) = ((i + 1 : Nat) : Int) := by unfold wrap64; omega
    rw [ew, Int.toNat_natCast, set_mid (odd3 a b c m) i m (odd3_length ..) (by omega) _ (by simp [odd3])]
    exact loop a b c m hm h0 h1 h2 ha hb hc n (i + 1) k (by omega) (by omega)

theorem SumSums : pandectlaw2_SumSums.Pure := by
  intro a b c _ ha1 ha _ hb1 hb _ hc1 hc
  have ha := bytes_of ha
  have hb := bytes_of hb
  have hc := bytes_of hc
  refine ⟨2000, ?_⟩
  unfold pandectlaw2_SumSums.f
  rw [begun_true 2000 (by omega)]
  simp only [Option.bind_some, if_true]
  have em : mn (mn (mn (a.length : Int) (b.length : Int)) (c.length : Int)) 60 = ((min (min (min a.length b.length) c.length) 60 : Nat) : Int) := by unfold mn; (repeat' split) <;> omega
  rw [em]
  generalize hm : min (min (min a.length b.length) c.length) 60 = m
  rw [if_pos (by omega), if_pos (by omega), Int.toNat_natCast]
  have := loop a b c m (by omega) (by omega) (by omega) (by omega) ha hb hc m 0 2000 (by omega) (by omega)
  simpa using this

end Go.Proofs.Ytffdonpkmnngpaa.Pure
