/- SumTurned: where a bit, or any of 32 bits in a row, is turned the sum is another one. No condition. -/
import Derived.Test.YtffdonpkmnngpaaPSumTurnedx2
import Derived.Test.YtffdonpkmnngpaaCrc
namespace Go.Proofs.Ytffdonpkmnngpaa.Pure
open Go.RowKit Go.Proofs.Ytffdonpkmnngpaa.PSumTurned Go.Proofs.YtffdonpkmnngpaaW.PrintWords Go.Proofs.YtffdonpkmnngpaaW.PrintLast
set_option linter.unusedVariables false
section SumLoop
open Go.Proofs.Ytffdonpkmnngpaa.Crc
theorem bx32 (a b : BitVec 32) : Go.bits .xor .u32 (a.toNat : Int) (b.toNat : Int) = ((a ^^^ b).toNat : Int) := by
  have h := (a ^^^ b).isLt
  have e : Go.bits .xor .u32 (a.toNat : Int) (b.toNat : Int) = IntKind.u32.wrap ((BitVec.ofInt 32 (a.toNat : Int) ^^^ BitVec.ofInt 32 (b.toNat : Int)).toNat : Int) := rfl
  rw [e, BitVec.ofInt_natCast, BitVec.ofInt_natCast, BitVec.ofNat_toNat, BitVec.ofNat_toNat, BitVec.setWidth_eq, BitVec.setWidth_eq, Go.IntKind.wrap_u32]
  omega
theorem byte32 (x : Int) (h0 : 0 ≤ x) (h1 : x < 256) : x % 4294967296 = ((BitVec.ofInt 32 x).toNat : Int) := by
  obtain ⟨n, rfl⟩ := Int.eq_ofNat_of_zero_le h0
  rw [BitVec.ofInt_natCast, BitVec.toNat_ofNat]
  omega
theorem and1 (a : BitVec 32) : Go.bits .and .u32 (a.toNat : Int) 1 = ((a &&& 1#32).toNat : Int) := by
  have h := (a &&& 1#32).isLt
  have e : Go.bits .and .u32 (a.toNat : Int) 1 = IntKind.u32.wrap ((BitVec.ofInt 32 (a.toNat : Int) &&& 1#32).toNat : Int) := rfl
  rw [e, BitVec.ofInt_natCast, BitVec.ofNat_toNat, BitVec.setWidth_eq, Go.IntKind.wrap_u32]
  omega
theorem bstep (r : BitVec 32) : Go.bits .xor .u32 ((r.toNat : Int) / 2) ((Go.bits .and .u32 (r.toNat : Int) 1 * 2197175160) % 4294967296) = ((cstep r).toNat : Int) := by
  have e1 : ((r.toNat : Int) / (2 : Int)) = ((r >>> 1).toNat : Int) := by
    rw [BitVec.toNat_ushiftRight, Nat.shiftRight_eq_div_pow]; simp
  have e2 : (Go.bits .and .u32 (r.toNat : Int) 1 * 2197175160) % 4294967296 = ((if r.getLsbD 0 then poly else 0#32).toNat : Int) := by
    have hb : r.getLsbD 0 = decide (r.toNat % 2 = 1) := by
      rw [BitVec.getLsbD, Nat.testBit_zero]
    rw [and1, BitVec.toNat_and, hb]
    have h1 : r.toNat &&& (1#32).toNat = r.toNat % 2 := by
      show r.toNat &&& 1 = _
      rw [Nat.and_one_is_mod]
    rw [h1]
    rcases Nat.mod_two_eq_zero_or_one r.toNat with h | h <;> rw [h] <;> decide
  rw [e1, e2, bx32]; rfl
theorem sum_bits (xs : List Int) (len i : Int) : ∀ (n k : Nat) (r : BitVec 32), n ≤ 8 →
    sum_Sum.l1 (k + 1 + n) (r.toNat : Int) xs len i (8 - n) = sum_Sum.l0 k ((steps n r).toNat : Int) xs len (wrap64 (i + 1))
  | 0, k, r, _ => by
    rw [show k + 1 + 0 = k + 1 from rfl]
    simp only [sum_Sum.l1]
    rw [if_neg (by omega)]; rfl
  | n + 1, k, r, hn => by
    rw [show k + 1 + (n + 1) = (k + 1 + n) + 1 from by omega]
    simp only [sum_Sum.l1]
    rw [if_pos (by omega), bstep]
    have e : wrap64 ((8 : Int) - ((n + 1 : Nat) : Int) + 1) = 8 - (n : Int) := by unfold wrap64; omega
    rw [e, sum_bits xs len i n k (cstep r) (by omega)]
    rfl
theorem sum_loop (xs : List Int) (hb : Bytes8 xs) (hl : xs.length ≤ 140737488351232) : ∀ (n i k : Nat) (r : BitVec 32), i + n = xs.length → 10 * n + 1 ≤ k →
    sum_Sum.l0 k (r.toNat : Int) xs (xs.length : Int) (i : Int) = some (((BitVec.allOnes 32) ^^^ (xs.drop i).foldl upd r).toNat : Int)
  | 0, i, k, r, hi, hk => by
    obtain ⟨k, rfl⟩ : ∃ m, k = m + 1 := ⟨k - 1, by omega⟩
    simp only [sum_Sum.l0]
    rw [if_neg (by omega), List.drop_of_length_le (by omega)]
    have e : (4294967295 : Int) = ((BitVec.allOnes 32).toNat : Int) := by decide
    rw [e, bx32]; rfl
  | n + 1, i, k, r, hi, hk => by
    obtain ⟨k, rfl⟩ : ∃ m, k = m + 10 := ⟨k - 10, by omega⟩
    rw [show k + 10 = (k + 1 + 8) + 1 from by omega]
    simp only [sum_Sum.l0]
    rw [if_pos (by omega), if_pos (by omega), if_pos (by omega)]
    have hx : rd xs (i : Int) = xs[i]'(by omega) := by simp [rd, List.getD_eq_getElem?_getD, List.getElem?_eq_getElem (show i < xs.length by omega)]
    have hbx := hb (xs[i]'(by omega)) (List.getElem_mem (by omega))
    rw [hx, byte32 _ hbx.1 hbx.2, bx32]
    have e := sum_bits xs (xs.length : Int) (i : Int) 8 k (r ^^^ BitVec.ofInt 32 (xs[i]'(by omega))) (Nat.le_refl 8)
    rw [show (8 : Int) - ((8 : Nat) : Int) = 0 from by omega] at e
    rw [e]
    have ew : wrap64 ((i : Int) + 1) = ((i + 1 : Nat) : Int) := by unfold wrap64; omega
    rw [ew, sum_loop xs hb hl n (i + 1) k _ (by omega) (by omega)]
    rw [List.drop_eq_getElem_cons (show i < xs.length by omega)]
    rfl
/-- The sum of Bytes8, with enough rounds. -/
theorem sum_crc (xs : List Int) (hb : Bytes8 xs) (hl : xs.length ≤ 140737488351232) (k : Nat) (hk : 10 * xs.length + 1 ≤ k) : sum_Sum.f k xs = some (crc xs) := by
  unfold sum_Sum.f
  have e : (4294967295 : Int) = ((BitVec.allOnes 32).toNat : Int) := by decide
  have := sum_loop xs hb hl xs.length 0 k (BitVec.allOnes 32) (by omega) hk
  rw [e]
  exact this
end SumLoop

open Go.Proofs.Ytffdonpkmnngpaa.Crc
theorem begun_true (k : Nat) (hk : 100 ≤ k) : pandectlaw2_begun.f k = some true :=
  at_rounds (g := pandectlaw2_begun.f) pandectlaw2_begun.mono hk (by decide +kernel)
theorem rd_nat (l : List Int) (j : Nat) (hl : j < l.length) : rd l (j : Int) = l[j] := by simp [rd, List.getD_eq_getElem?_getD, List.getElem?_eq_getElem hl]
theorem rd_byte {l : List Int} (h : Bytes8 l) (j : Int) : 0 ≤ rd l j ∧ rd l j < 256 := by
  unfold rd
  rw [List.getD_eq_getElem?_getD]
  cases hj : l[j.toNat]? with
  | none => simp
  | some x => exact h x (List.mem_of_getElem? hj)
def wb (a2 : Int) (j : Nat) : Int := (shr .u32 a2 (8 * (j : Int))) % 256
theorem wb_byte (a2 : Int) (j : Nat) : 0 ≤ wb a2 j ∧ wb a2 j < 256 := by unfold wb; omega
def V (b : List Int) (a2 : Int) (κ i : Nat) : List Int := (List.range i).map fun (j : Nat) => Go.bits .xor .u8 (rd b ((κ + j : Nat) : Int)) (wb a2 j)
theorem V_length (b : List Int) (a2 : Int) (κ i : Nat) : (V b a2 κ i).length = i := by simp [V]
theorem V_succ (b : List Int) (a2 : Int) (κ i : Nat) : V b a2 κ (i + 1) = V b a2 κ i ++ [Go.bits .xor .u8 (rd b ((κ + i : Nat) : Int)) (wb a2 i)] := by
  simp [V, List.range_succ]
def X7 (b : List Int) (a2 : Int) (κ i : Nat) : List Int := b.take κ ++ V b a2 κ i ++ b.drop (κ + i)
def X9 (a2 : Int) (i : Nat) : Bool := (List.range i).any fun j => wb a2 j != 0
theorem X9_succ (a2 : Int) (i : Nat) : X9 a2 (i + 1) = (X9 a2 i || (wb a2 i != 0)) := by simp [X9, List.range_succ]
theorem X7_length (b : List Int) (a2 : Int) (κ i : Nat) (h : κ + i ≤ b.length) : (X7 b a2 κ i).length = b.length := by
  simp [X7, V_length]; omega
theorem X7_set (b : List Int) (a2 : Int) (κ i : Nat) (h : κ + i < b.length) :
    (X7 b a2 κ i).set (κ + i) (Go.bits .xor .u8 (rd (X7 b a2 κ i) ((κ + i : Nat) : Int)) (wb a2 i)) = X7 b a2 κ (i + 1) := by
  have hl : (b.take κ ++ V b a2 κ i).length = κ + i := by simp [V_length]; omega
  have e1 : rd (X7 b a2 κ i) ((κ + i : Nat) : Int) = rd b ((κ + i : Nat) : Int) := by
    rw [rd_nat _ _ (by rw [X7_length _ _ _ _ (by omega)]; exact h), rd_nat _ _ h]
    unfold X7
    rw [List.getElem_append_right (by omega)]
    simp [hl]
  rw [e1]
  unfold X7
  rw [List.set_append_right _ _ (by omega), V_succ]
  have e2 : b.drop (κ + i) = b[κ + i] :: b.drop (κ + (i + 1)) := List.drop_eq_getElem_cons h
  rw [e2, show κ + i - (b.take κ ++ V b a2 κ i).length = 0 from by omega, List.set_cons_zero]
  simp
theorem X7_bytes {b : List Int} (hb : Bytes8 b) (a2 : Int) (κ i : Nat) : Bytes8 (X7 b a2 κ i) := by
  intro x hx
  unfold X7 at hx
  rcases List.mem_append.1 hx with hx | hx
  · rcases List.mem_append.1 hx with hx | hx
    · exact hb x (List.mem_of_mem_take hx)
    · obtain ⟨j, _, rfl⟩ := List.mem_map.1 hx
      exact (bx8_bytes _ _ (rd_byte hb _) (wb_byte a2 j)).1
  · exact hb x (List.mem_of_mem_drop hx)
theorem X7_crc {b : List Int} (hb : Bytes8 b) (a2 : Int) (κ m : Nat) (h4 : m ≤ 4) (h : κ + m ≤ b.length) : (crc (X7 b a2 κ m) != crc b) = X9 a2 m := by
  have e : b = b.take κ ++ (b.drop κ).take m ++ b.drop (κ + m) := by
    rw [List.append_assoc, ← List.drop_drop, List.take_append_drop, List.take_append_drop]
  have hV : Bytes8 (V b a2 κ m) := fun x hx => by
    obtain ⟨j, _, rfl⟩ := List.mem_map.1 hx
    exact (bx8_bytes _ _ (rd_byte hb _) (wb_byte a2 j)).1
  have hw := crc_window (b.take κ) (V b a2 κ m) ((b.drop κ).take m) (b.drop (κ + m)) (by rw [V_length]; simp; omega) (by rw [V_length]; exact h4) hV (fun x hx => hb x (List.mem_of_mem_drop (List.mem_of_mem_take hx)))
  rw [← e] at hw
  have hv : V b a2 κ m = (b.drop κ).take m ↔ ∀ j, j < m → wb a2 j = 0 := by
    constructor
    · intro he j hj
      have hj1 := congrArg (fun l => l[j]?) he
      have g1 : (V b a2 κ m)[j]? = some (Go.bits .xor .u8 (rd b ((κ + j : Nat) : Int)) (wb a2 j)) := by
        simp [V, hj]
      have g2 : ((b.drop κ).take m)[j]? = some (rd b ((κ + j : Nat) : Int)) := by
        rw [rd_nat _ _ (by omega)]
        simp [hj, List.getElem?_eq_getElem (show κ + j < b.length by omega)]
      simp only [g1, g2, Option.some.injEq] at hj1
      exact (bx8_zero _ _ (rd_byte hb _) (wb_byte a2 j)).1 hj1
    · intro hz
      apply List.ext_getElem?
      intro j
      rcases Nat.lt_or_ge j m with hj | hj
      · have g1 : (V b a2 κ m)[j]? = some (Go.bits .xor .u8 (rd b ((κ + j : Nat) : Int)) (wb a2 j)) := by
          simp [V, hj]
        have g2 : ((b.drop κ).take m)[j]? = some (rd b ((κ + j : Nat) : Int)) := by
          rw [rd_nat _ _ (by omega)]
          simp [hj, List.getElem?_eq_getElem (show κ + j < b.length by omega)]
        rw [g1, g2, (bx8_zero _ _ (rd_byte hb _) (wb_byte a2 j)).2 (hz j hj)]
      · rw [List.getElem?_eq_none (by rw [V_length]; exact hj), List.getElem?_eq_none (by simp; omega)]
  have h9 : X9 a2 m = false ↔ ∀ j, j < m → wb a2 j = 0 := by simp [X9]
  cases hx : X9 a2 m with
  | false =>
    have := hw.2 (hv.2 (h9.1 hx))
    unfold X7
    rw [this]; simp
  | true =>
    have : crc (X7 b a2 κ m) ≠ crc b := fun he => by
      have := h9.2 (hv.1 (hw.1 he))
      rw [this] at hx; cases hx
    simpa using this
theorem crc_bit {b : List Int} (hb : Bytes8 b) (p : Nat) (hp : p < b.length) (y : Int) (h0 : 0 < y) (h1 : y < 256) : (crc (b.set p (Go.bits .xor .u8 (rd b (p : Int)) y)) != crc b) = true := by
  have hx := bx8_bytes _ _ (rd_byte hb (p : Int)) ⟨by omega, h1⟩
  have : crc (b.set p (Go.bits .xor .u8 (rd b (p : Int)) y)) ≠ crc b := by
    rw [Ne, crc_set b p hp hb _ hx.1.1 hx.1.2, ← rd_nat b p hp, bx8_zero _ _ (rd_byte hb _) ⟨by omega, h1⟩]
    omega
  simpa using this
theorem set_bytes {b : List Int} (hb : Bytes8 b) (p : Nat) (y : Int) (h : 0 ≤ y ∧ y < 256) : Bytes8 (b.set p y) := fun x hx => by
  rcases List.mem_or_eq_of_mem_set hx with hx | rfl
  · exact hb x hx
  · exact h
theorem shl_bit (q : Nat) (hq : q < 8) : 0 < shl .u8 1 (q : Int) ∧ shl .u8 1 (q : Int) < 256 := by
  have : ∀ q : Fin 8, 0 < shl .u8 1 ((q.val : Nat) : Int) ∧ shl .u8 1 ((q.val : Nat) : Int) < 256 := by decide
  exact this ⟨q, hq⟩
theorem tail (b : List Int) (hb : Bytes8 b) (h1 : 1 ≤ b.length) (h2 : b.length ≤ 150) (a1 : Int) (ha0 : 0 ≤ a1) (ha1 : a1 < 65536) (a2 : Int) (κ m : Nat) (h4 : m ≤ 4) (h : κ + m ≤ b.length) (k : Nat) (hk : 1600 ≤ k) :
    pandectlaw2_SumTurned.j2 k b a1 (X7 b a2 κ m) (X9 a2 m) = some true := by
  obtain ⟨k, rfl⟩ : ∃ q, k = q + 1 := ⟨k - 1, by omega⟩
  obtain ⟨a, rfl⟩ := Int.eq_ofNat_of_zero_le ha0
  rw [pandectlaw2_SumTurned.j2, Option.bind_some, if_pos (by simp only [List.length_nil]; omega), Option.bind_some]
  have w1 : wrap64 ((a : Int)) = (a : Int) := by unfold wrap64; omega
  have w2 : wrap64 (8 * (b.length : Int)) = ((8 * b.length : Nat) : Int) := by unfold wrap64; omega
  rw [w1, w2]
  have t1 : Int.tmod (a : Int) ((8 * b.length : Nat) : Int) = ((a % (8 * b.length) : Nat) : Int) := rfl
  rw [t1]
  generalize hn : a % (8 * b.length) = n
  have hn8 : n < 8 * b.length := by rw [← hn]; exact Nat.mod_lt _ (by omega)
  have t2 : Int.tdiv (n : Int) 8 = ((n / 8 : Nat) : Int) := rfl
  have t3 : Int.tmod (n : Int) 8 = ((n % 8 : Nat) : Int) := rfl
  have w3 : wrap64 (((n / 8 : Nat) : Int)) = ((n / 8 : Nat) : Int) := by unfold wrap64; omega
  rw [t2, t3, w3]
  clear t1 hn t2 t3 w3 w1 w2
  have n8 : n / 8 < b.length := by omega
  have z1 : (0 : Int) ≤ ((n / 8 : Nat) : Int) := Int.natCast_nonneg _
  have z2 : (0 : Int) ≤ ((n % 8 : Nat) : Int) := Int.natCast_nonneg _
  have z3 : ((n / 8 : Nat) : Int) < ((([] : List Int) ++ b).length : Int) := by rw [List.nil_append]; exact Int.ofNat_lt.2 n8
  rw [if_neg (by omega), if_pos z1, if_pos z3, if_pos z2]
  rw [sum_crc _ (X7_bytes hb a2 κ m) (by rw [X7_length _ _ _ _ h]; omega) k (by rw [X7_length _ _ _ _ h]; omega), sum_crc _ hb (by omega) k (by omega)]
  simp only [Option.bind_some, List.nil_append, Int.toNat_natCast]
  rw [if_pos (by rw [X7_crc hb a2 κ m h4 h]; simp)]
  have hs := shl_bit (n % 8) (by omega)
  have hp : n / 8 < b.length := by omega
  rw [sum_crc _ (set_bytes hb (n / 8) _ (bx8_bytes _ _ (rd_byte hb _) ⟨by omega, hs.2⟩).1) (by rw [List.length_set]; omega) k (by rw [List.length_set]; omega)]
  simp only [Option.bind_some]
  rw [crc_bit hb (n / 8) hp _ hs.1 hs.2]
theorem loop (b : List Int) (hb : Bytes8 b) (h1 : 1 ≤ b.length) (h2 : b.length ≤ 150) (a1 : Int) (ha0 : 0 ≤ a1) (ha1 : a1 < 65536) (a2 : Int) (κ m : Nat) (hκ : κ < b.length) (hm : m = min 4 (b.length - κ)) : ∀ (n i k : Nat), i + n = m → 1700 + n ≤ k →
    pandectlaw2_SumTurned.l0 k b a1 a2 (X7 b a2 κ i) (κ : Int) (X9 a2 i) (i : Int) = some true
  | 0, i, k, hi, hk => by
    obtain ⟨k, rfl⟩ : ∃ q, k = q + 1 := ⟨k - 1, by omega⟩
    have him : i = m := by omega
    simp only [pandectlaw2_SumTurned.l0]
    have ht := tail b hb h1 h2 a1 ha0 ha1 a2 κ m (by omega) (by omega) k (by omega)
    rw [him]
    by_cases h4 : (m : Int) < 4
    · rw [if_pos h4, if_neg (by rw [X7_length _ _ _ _ (by omega)]; unfold wrap64; omega)]
      exact ht
    · rw [if_neg h4]
      exact ht
  | n + 1, i, k, hi, hk => by
    obtain ⟨k, rfl⟩ : ∃ q, k = q + 1 := ⟨k - 1, by omega⟩
    simp only [pandectlaw2_SumTurned.l0]
    have w1 : wrap64 ((κ : Int) + (i : Int)) = ((κ + i : Nat) : Int) := by unfold wrap64; omega
    have w2 : wrap64 (8 * (i : Int)) = 8 * (i : Int) := by unfold wrap64; omega
    have w3 : wrap64 ((i : Int) + 1) = ((i + 1 : Nat) : Int) := by unfold wrap64; omega
    rw [w1, w2, w3]
    clear w1 w2 w3
    rw [if_pos (by omega), if_pos (by rw [X7_length _ _ _ _ (by omega)]; omega), if_pos (by omega), if_pos (by omega), Option.bind_some, Int.toNat_natCast]
    have e := X7_set b a2 κ i (by omega)
    unfold wb at e
    rw [e]
    have hr := loop b hb h1 h2 a1 ha0 ha1 a2 κ m hκ hm n (i + 1) k (by omega) (by omega)
    rw [X9_succ] at hr
    cases hx : X9 a2 i with
    | true => rw [if_pos rfl]; rw [hx] at hr; simpa using hr
    | false => rw [if_neg (by simp)]; rw [hx] at hr; simpa [wb] using hr
theorem SumTurned : pandectlaw2_SumTurned.Pure := by
  intro b a1 a2 _ _ hb w1 w2
  have hb := bytes_of hb
  have hr : 0 ≤ a1 ∧ a1 < 65536 := by
    simp [Lit.wf, IntKind.min, IntKind.max, IntKind.signed, IntKind.bits] at w1
    omega
  obtain ⟨k, hk⟩ : ∃ k : Nat, 2999 ≤ k := ⟨2999, Nat.le_refl _⟩
  refine ⟨k + 1, ?_⟩
  unfold pandectlaw2_SumTurned.f
  rw [begun_true (k + 1) (by omega)]
  simp only [Option.bind_some, if_true]
  by_cases h1 : (b.length : Int) < 1
  · rw [if_pos h1]; simp only [pandectlaw2_SumTurned.j0, if_true]
  · rw [if_neg h1]
    by_cases h2 : (b.length : Int) > 150
    · rw [decide_eq_true h2]; simp only [pandectlaw2_SumTurned.j0, if_true]
    · rw [decide_eq_false h2]
      rw [pandectlaw2_SumTurned.j0, if_neg (by simp), Option.bind_some, if_pos (by simp only [List.length_nil]; omega), if_neg (by omega)]
      obtain ⟨a, rfl⟩ := Int.eq_ofNat_of_zero_le hr.1
      have w1 : wrap64 ((a : Int)) = (a : Int) := by unfold wrap64; omega
      have t1 : Int.tmod (a : Int) (b.length : Int) = ((a % b.length : Nat) : Int) := rfl
      rw [w1, t1]
      clear w1 t1
      have hκ : a % b.length < b.length := Nat.mod_lt _ (by omega)
      have := loop b hb (by omega) (by omega) (a : Int) hr.1 hr.2 a2 (a % b.length) _ hκ rfl (min 4 (b.length - a % b.length)) 0 k (by omega) (by omega)
      simpa [X7, V, X9] using this

end Go.Proofs.Ytffdonpkmnngpaa.Pure
