/- SlotTurns: slots that are written by turns: the last one that is whole holds. The pure part; no condition. -/
import Derived.Test.YtffdonpkmnngpaaPSlotTurnsx3
import Derived.Test.YtffdonpkmnngpaaCrc
namespace Go.Proofs.Ytffdonpkmnngpaa.Pure
open Go.RowKit Go.Proofs.Ytffdonpkmnngpaa.PSlotTurns Go.Proofs.YtffdonpkmnngpaaW.PrintWords Go.Proofs.YtffdonpkmnngpaaW.PrintLast
set_option linter.unusedVariables false
section SumLoop
open Go.Proofs.Ytffdonpkmnngpaa.Crc
theorem bx32 (a b : BitVec 32) : Go.bits .xor .u32 (a.toNat : Int) (b.toNat : Int) = ((a ^^^ b).toNat : Int) := by
  have h := (a ^^^ b).isLt
  have e : Go.bits .xor .u32 (a.toNat : Int) (b.toNat : Int) = IntKind.u32.wrap ((BitVec.ofInt 32 (a.toNat : Int) ^^^ BitVec.ofInt 32 (b.toNat : Int)).toNat : Int) := rfl
  rw [e, BitVec.ofInt_natCast, BitVec.ofInt_natCast, BitVec.ofNat_toNat, BitVec.ofNat_toNat, BitVec.setWidth_eq, BitVec.setWidth_eq, Go.IntKind.wrap_u32]
  omega
theorem byte32 (x : Int) (h0 : 0 ≤ x) (h1 : x < 256) : x % 4294967296 = ((BitVec.ofInt 32 x).toNat : Int) := by
  obtain ⟨n, rfl⟩ := Int.eq_ofNat_of_zero_le h0
  rw [BitVec.ofInt_natCast, BitVec.toNat_ofNat]
  omega
theorem and1 (a : BitVec 32) : Go.bits .and .u32 (a.toNat : Int) 1 = ((a &&& 1#32).toNat : Int) := by
  have h := (a &&& 1#32).isLt
  have e : Go.bits .and .u32 (a.toNat : Int) 1 = IntKind.u32.wrap ((BitVec.ofInt 32 (a.toNat : Int) &&& 1#32).toNat : Int) := rfl
  rw [e, BitVec.ofInt_natCast, BitVec.ofNat_toNat, BitVec.setWidth_eq, Go.IntKind.wrap_u32]
  omega
theorem bstep (r : BitVec 32) : Go.bits .xor .u32 ((r.toNat : Int) / 2) ((Go.bits .and .u32 (r.toNat : Int) 1 * 2197175160) % 4294967296) = ((cstep r).toNat : Int) := by
  have e1 : ((r.toNat : Int) / (2 : Int)) = ((r >>> 1).toNat : Int) := by
    rw [BitVec.toNat_ushiftRight, Nat.shiftRight_eq_div_pow]; simp
  have e2 : (Go.bits .and .u32 (r.toNat : Int) 1 * 2197175160) % 4294967296 = ((if r.getLsbD 0 then poly else 0#32).toNat : Int) := by
    have hb : r.getLsbD 0 = decide (r.toNat % 2 = 1) := by
      rw [BitVec.getLsbD, Nat.testBit_zero]
    rw [and1, BitVec.toNat_and, hb]
    have h1 : r.toNat &&& (1#32).toNat = r.toNat % 2 := by
      show r.toNat &&& 1 = _
      rw [Nat.and_one_is_mod]
    rw [h1]
    rcases Nat.mod_two_eq_zero_or_one r.toNat with h | h <;> rw [h] <;> decide
  rw [e1, e2, bx32]; rfl
theorem sum_bits (xs : List Int) (len i : Int) : ∀ (n k : Nat) (r : BitVec 32), n ≤ 8 →
    sum_Sum.l1 (k + 1 + n) (r.toNat : Int) xs len i (8 - n) = sum_Sum.l0 k ((steps n r).toNat : Int) xs len (wrap64 (i + 1))
  | 0, k, r, _ => by
    rw [show k + 1 + 0 = k + 1 from rfl]
    simp only [sum_Sum.l1]
    rw [if_neg (by omega)]; rfl
  | n + 1, k, r, hn => by
    rw [show k + 1 + (n + 1) = (k + 1 + n) + 1 from by omega]
    simp only [sum_Sum.l1]
    rw [if_pos (by omega), bstep]
    have e : wrap64 ((8 : Int) - ((n + 1 : Nat) : Int) + 1) = 8 - (n : Int) := by unfold wrap64; omega
    rw [e, sum_bits xs len i n k (cstep r) (by omega)]
    rfl
theorem sum_loop (xs : List Int) (hb : Bytes8 xs) (hl : xs.length ≤ 140737488351232) : ∀ (n i k : Nat) (r : BitVec 32), i + n = xs.length → 10 * n + 1 ≤ k →
    sum_Sum.l0 k (r.toNat : Int) xs (xs.length : Int) (i : Int) = some (((BitVec.allOnes 32) ^^^ (xs.drop i).foldl upd r).toNat : Int)
  | 0, i, k, r, hi, hk => by
    obtain ⟨k, rfl⟩ : ∃ m, k = m + 1 := ⟨k - 1, by omega⟩
    simp only [sum_Sum.l0]
    rw [if_neg (by omega), List.drop_of_length_le (by omega)]
    have e : (4294967295 : Int) = ((BitVec.allOnes 32).toNat : Int) := by decide
    rw [e, bx32]; rfl
  | n + 1, i, k, r, hi, hk => by
    obtain ⟨k, rfl⟩ : ∃ m, k = m + 10 := ⟨k - 10, by omega⟩
    rw [show k + 10 = (k + 1 + 8) + 1 from by omega]
    simp only [sum_Sum.l0]
    rw [if_pos (by omega), if_pos (by omega), if_pos (by omega)]
    have hx : rd xs (i : Int) = xs[i]'(by omega) := by simp [rd, List.getD_eq_getElem?_getD, List.getElem?_eq_getElem (show i < xs.length by omega)]
    have hbx := hb (xs[i]'(by omega)) (List.getElem_mem (by omega))
    rw [hx, byte32 _ hbx.1 hbx.2, bx32]
    have e := sum_bits xs (xs.length : Int) (i : Int) 8 k (r ^^^ BitVec.ofInt 32 (xs[i]'(by omega))) (Nat.le_refl 8)
    rw [show (8 : Int) - ((8 : Nat) : Int) = 0 from by omega] at e
    rw [e]
    have ew : wrap64 ((i : Int) + 1) = ((i + 1 : Nat) : Int) := by unfold wrap64; omega
    rw [ew, sum_loop xs hb hl n (i + 1) k _ (by omega) (by omega)]
    rw [List.drop_eq_getElem_cons (show i < xs.length by omega)]
    rfl
/-- The sum of Bytes8, with enough rounds. -/
theorem sum_crc (xs : List Int) (hb : Bytes8 xs) (hl : xs.length ≤ 140737488351232) (k : Nat) (hk : 10 * xs.length + 1 ≤ k) : sum_Sum.f k xs = some (crc xs) := by
  unfold sum_Sum.f
  have e : (4294967295 : Int) = ((BitVec.allOnes 32).toNat : Int) := by decide
  have := sum_loop xs hb hl xs.length 0 k (BitVec.allOnes 32) (by omega) hk
  rw [e]
  exact this
end SumLoop

section Be
open Go.Proofs.Ytffdonpkmnngpaa.Crc
/-- A number in so many bytes, the highest first. -/
def be : Nat → Int → List Int
  | 0, _ => []
  | n + 1, v => (v / 256 ^ n) % 256 :: be n v
def nmF (a : Int) (l : List Int) : Int := l.foldl (fun a c => a * 256 + c) a
def nm (l : List Int) : Int := nmF 0 l
theorem be_length (n : Nat) (v : Int) : (be n v).length = n := by
  induction n with
  | zero => rfl
  | succ n ih => simp [be, ih]
theorem be_bytes (n : Nat) (v : Int) : Bytes8 (be n v) := by
  induction n with
  | zero => intro x hx; simp [be] at hx
  | succ n ih =>
    intro x hx
    rcases List.mem_cons.1 hx with rfl | h
    · exact ⟨Int.emod_nonneg _ (by decide), Int.emod_lt_of_pos _ (by decide)⟩
    · exact ih x h
theorem nat_mod_split (v m : Nat) : v % (m * 256) = (v / m % 256) * m + v % m := by
  rw [Nat.mod_mul, Nat.mul_comm m, Nat.add_comm]
theorem pw (n : Nat) : (256 : Int) ^ n = ((256 ^ n : Nat) : Int) := by rw [Int.natCast_pow]; rfl
theorem pw_pos (n : Nat) : (0 : Int) < 256 ^ n := Int.pow_pos (by decide)
theorem nmF_be (n : Nat) (v : Nat) : ∀ a : Int, nmF a (be n (v : Int)) = a * 256 ^ n + ((v % 256 ^ n : Nat) : Int) := by
  induction n with
  | zero => intro a; simp [be, nmF, Nat.mod_one]
  | succ n ih =>
    intro a
    have e : nmF a (be (n + 1) (v : Int)) = nmF (a * 256 + ((v : Int) / 256 ^ n) % 256) (be n (v : Int)) := rfl
    rw [e, ih]
    have h1 : ((v : Int) / 256 ^ n) % 256 = ((v / 256 ^ n % 256 : Nat) : Int) := by rw [pw]; rfl
    rw [h1, Nat.pow_succ, nat_mod_split]
    have h2 : (256 : Int) ^ (n + 1) = 256 ^ n * 256 := Int.pow_succ ..
    rw [h2, Int.natCast_add, Int.natCast_mul, ← pw, Int.add_mul, Int.mul_assoc, Int.mul_comm (256 : Int) (256 ^ n), Int.add_assoc]
theorem nm_be (n : Nat) (v : Int) (h0 : 0 ≤ v) (h1 : v < 256 ^ n) : nm (be n v) = v := by
  obtain ⟨m, rfl⟩ := Int.eq_ofNat_of_zero_le h0
  unfold nm
  rw [nmF_be, Int.zero_mul, Int.zero_add, Nat.mod_eq_of_lt]
  have : ((m : Nat) : Int) < ((256 ^ n : Nat) : Int) := by rw [← pw]; exact h1
  exact Int.ofNat_lt.1 this
theorem nmF_append (a : Int) (l r : List Int) : nmF a (l ++ r) = nmF (nmF a l) r := by simp [nmF]
theorem nmF_bound (l : List Int) (hl : Bytes8 l) : ∀ a : Int, a * 256 ^ l.length ≤ nmF a l ∧ nmF a l < (a + 1) * 256 ^ l.length := by
  induction l with
  | nil => intro a; simp [nmF]; omega
  | cons x l ih =>
    intro a
    have hx := hl x (by simp)
    have := ih (fun y hy => hl y (List.mem_cons_of_mem _ hy)) (a * 256 + x)
    have e : nmF a (x :: l) = nmF (a * 256 + x) l := rfl
    rw [e, List.length_cons]
    have hp : (0 : Int) < 256 ^ l.length := pw_pos _
    have h2 : (256 : Int) ^ (l.length + 1) = 256 * 256 ^ l.length := by rw [Int.pow_succ, Int.mul_comm]
    rw [h2, ← Int.mul_assoc, ← Int.mul_assoc]
    have h3 : a * 256 * 256 ^ l.length ≤ (a * 256 + x) * 256 ^ l.length := Int.mul_le_mul_of_nonneg_right (by omega) (Int.le_of_lt hp)
    have h4 : (a * 256 + x + 1) * 256 ^ l.length ≤ (a + 1) * 256 * 256 ^ l.length := Int.mul_le_mul_of_nonneg_right (by omega) (Int.le_of_lt hp)
    omega
theorem nm_range {l : List Int} (hl : Bytes8 l) : 0 ≤ nm l ∧ nm l < 256 ^ l.length := by
  have := nmF_bound l hl 0
  simp at this
  exact this
theorem be_nmF (l : List Int) (hl : Bytes8 l) : ∀ a : Int, 0 ≤ a → be l.length (nmF a l) = l := by
  induction l with
  | nil => intro a _; rfl
  | cons x l ih =>
    intro a ha
    have hx := hl x (by simp)
    have hl' : Bytes8 l := fun y hy => hl y (List.mem_cons_of_mem _ hy)
    have e : nmF a (x :: l) = nmF (a * 256 + x) l := rfl
    rw [e, List.length_cons, be, ih hl' _ (by omega)]
    have hb := nmF_bound l hl' (a * 256 + x)
    have hp : (0 : Int) < 256 ^ l.length := pw_pos _
    have hd : nmF (a * 256 + x) l / 256 ^ l.length = a * 256 + x := by
      apply Int.le_antisymm
      · have := Int.ediv_lt_of_lt_mul hp hb.2; omega
      · exact (Int.le_ediv_iff_mul_le hp).2 hb.1
    rw [hd]
    congr 1
    omega
theorem be_nm (l : List Int) (hl : Bytes8 l) : be l.length (nm l) = l := be_nmF l hl 0 (by omega)
theorem be_inj {n : Nat} {u v : Int} (hu : 0 ≤ u ∧ u < 256 ^ n) (hv : 0 ≤ v ∧ v < 256 ^ n) (h : be n u = be n v) : u = v := by
  rw [← nm_be n u hu.1 hu.2, h, nm_be n v hv.1 hv.2]
theorem nm_inj {l r : List Int} (hl : Bytes8 l) (hr : Bytes8 r) (hlen : l.length = r.length) (h : nm l = nm r) : l = r := by
  rw [← be_nm l hl, ← be_nm r hr, h, hlen]
end Be

section Loops
open Go.Proofs.Ytffdonpkmnngpaa.Crc
theorem shr_byte (K : IntKind) (hK : K.bits = 64) (v : Int) (n : Nat) (hn : n < 8) : shr K v (wrap64 (8 * (n : Int))) = v / 256 ^ n := by
  unfold shr
  rw [hK, show wrap64 (8 * (n : Int)) = 8 * (n : Int) from by unfold wrap64; omega, show (8 * (n : Int)).toNat = 8 * n from by omega, Nat.min_eq_left (by omega), Int.pow_mul]
  rfl
/-- A loop that puts a number's bytes, the highest first. -/
theorem put_loop {L : Nat → List Int → Int → Int → Option (List Int)} (K : IntKind) (hK : K.bits = 64)
    (hL : ∀ k b v i, L (k + 1) b v i = if i ≥ 0 then (if 0 ≤ (wrap64 (8 * i)) then (if b.length < 140737488355328 then (L k (b ++ [(shr K v (wrap64 (8 * i))) % 256]) v (wrap64 (i - 1))) else (none)) else (none)) else (some b)) (v : Int) :
    ∀ (n k : Nat) (b : List Int), n ≤ 8 → n + 1 ≤ k → b.length + n ≤ 140737488355328 → L k b v ((n : Int) - 1) = some (b ++ be n v)
  | 0, k, b, _, hk, _ => by
    obtain ⟨k, rfl⟩ : ∃ m, k = m + 1 := ⟨k - 1, by omega⟩
    rw [hL, if_neg (by omega)]; simp [be]
  | n + 1, k, b, hn, hk, hb => by
    obtain ⟨k, rfl⟩ : ∃ m, k = m + 1 := ⟨k - 1, by omega⟩
    rw [show (((n + 1 : Nat) : Int) - 1) = (n : Int) from by omega, hL, if_pos (by omega), if_pos (by unfold wrap64; omega), if_pos (by omega), shr_byte K hK v n (by omega), show wrap64 ((n : Int) - 1) = (n : Int) - 1 from by unfold wrap64; omega,
      put_loop K hK hL v n k _ (by omega) (by omega) (by simp only [List.length_append, List.length_cons, List.length_nil]; omega)]
    simp [be]
theorem or64 (x y : Int) (hx0 : 0 ≤ x) (hx1 : x < 72057594037927936) (hy0 : 0 ≤ y) (hy1 : y < 256) : Go.bits .or .u64 (x * 256) y = x * 256 + y :=
  Go.bits_join .u64 64 (by decide) (fun n h0 h1 => by rw [Go.IntKind.wrap_u64]; omega) 8 (x * 256) y (by omega) (by omega) (by omega) hy0 (by omega) (by omega)
theorem wrap_u64' (x : Int) (h0 : 0 ≤ x) (h1 : x < 18446744073709551616) : IntKind.u64.wrap x = x := by rw [Go.IntKind.wrap_u64]; omega
theorem ofInt64_congr {x y : Int} (h : x % 18446744073709551616 = y % 18446744073709551616) : BitVec.ofInt 64 x = BitVec.ofInt 64 y := by
  apply BitVec.eq_of_toNat_eq
  rw [BitVec.toNat_ofInt, BitVec.toNat_ofInt]
  show (x % (18446744073709551616 : Int)).toNat = (y % (18446744073709551616 : Int)).toNat
  rw [h]
theorem or_i64 (X X' Y Y' : Int) (hx : X % 18446744073709551616 = X' % 18446744073709551616) (hy : Y % 18446744073709551616 = Y' % 18446744073709551616) : Go.bits .or .i64 X Y = wrap64 (Go.bits .or .u64 X' Y') := by
  have e1 : Go.bits .or .i64 X Y = IntKind.i64.wrap ((BitVec.ofInt 64 X ||| BitVec.ofInt 64 Y).toNat : Int) := rfl
  have e2 : Go.bits .or .u64 X' Y' = IntKind.u64.wrap ((BitVec.ofInt 64 X' ||| BitVec.ofInt 64 Y').toNat : Int) := rfl
  have hb := (BitVec.ofInt 64 X' ||| BitVec.ofInt 64 Y').isLt
  rw [e1, e2, ofInt64_congr hx, ofInt64_congr hy, wrap_u64' _ (by omega) (by omega)]
  exact i64_w _
theorem rd_at (l : List Int) (j : Nat) (hl : j < l.length) : rd l (j : Int) = l[j] := by simp [rd, List.getD_eq_getElem?_getD, List.getElem?_eq_getElem hl]
theorem nm_take_succ (l : List Int) (i : Nat) (hi : i < l.length) : nm (l.take (i + 1)) = nm (l.take i) * 256 + l[i] := by
  rw [List.take_succ_eq_append_getElem hi]; unfold nm; rw [nmF_append]; rfl
theorem nm_small {l : List Int} (hl : Bytes8 l) (h : l.length ≤ 7) : 0 ≤ nm l ∧ nm l < 72057594037927936 := by
  have h1 := nm_range hl
  refine ⟨h1.1, Int.lt_of_lt_of_le h1.2 ?_⟩
  have : (256 : Nat) ^ l.length ≤ 256 ^ 7 := Nat.pow_le_pow_right (by decide) h
  rw [pw]
  exact Int.ofNat_le.2 this
theorem nm_u64 {l : List Int} (hl : Bytes8 l) (h : l.length ≤ 8) : 0 ≤ nm l ∧ nm l < 18446744073709551616 := by
  have h1 := nm_range hl
  refine ⟨h1.1, Int.lt_of_lt_of_le h1.2 ?_⟩
  have : (256 : Nat) ^ l.length ≤ 256 ^ 8 := Nat.pow_le_pow_right (by decide) h
  rw [pw]
  exact Int.ofNat_le.2 this
/-- A loop that reads a number, unsigned. -/
theorem num_loop {L : Nat → Int → List Int → Int → Int → Option Int}
    (hL : ∀ k a xs len i, L (k + 1) a xs len i = if i < len then (if 0 ≤ i then (if i < (xs.length : Int) then (L k (Go.bits .or .u64 (IntKind.u64.wrap (a * 256)) (IntKind.u64.wrap (rd xs i))) xs len (wrap64 (i + 1))) else (none)) else (none)) else (some a))
    (l : List Int) (hb : Bytes8 l) (h8 : l.length ≤ 8) : ∀ (n i k : Nat), i + n = l.length → n + 1 ≤ k → L k (nm (l.take i)) l (l.length : Int) (i : Int) = some (nm l)
  | 0, i, k, hi, hk => by
    obtain ⟨k, rfl⟩ : ∃ m, k = m + 1 := ⟨k - 1, by omega⟩
    rw [hL, if_neg (by omega), List.take_of_length_le (by omega)]
  | n + 1, i, k, hi, hk => by
    obtain ⟨k, rfl⟩ : ∃ m, k = m + 1 := ⟨k - 1, by omega⟩
    have hx := hb (l[i]'(by omega)) (List.getElem_mem (by omega))
    have hs := nm_small (l := l.take i) (fun x hx => hb x (List.mem_of_mem_take hx)) (by rw [List.length_take]; omega)
    rw [hL, if_pos (by omega), if_pos (by omega), if_pos (by omega), rd_at l i (by omega), wrap_u64' _ (by omega) (by omega), wrap_u64' _ (by omega) (by omega), or64 _ _ (by omega) (by omega) (by omega) (by omega),
      show wrap64 ((i : Int) + 1) = ((i + 1 : Nat) : Int) from by unfold wrap64; omega, ← nm_take_succ l i (by omega)]
    exact num_loop hL l hb h8 n (i + 1) k (by omega) (by omega)
/-- A loop that reads a number, signed. -/
theorem num_loop_i {L : Nat → Int → List Int → Int → Int → Option Int}
    (hL : ∀ k a xs len i, L (k + 1) a xs len i = if i < len then (if 0 ≤ i then (if i < (xs.length : Int) then (L k (Go.bits .or .i64 (wrap64 (a * 256)) (wrap64 (rd xs i))) xs len (wrap64 (i + 1))) else (none)) else (none)) else (some a))
    (l : List Int) (hb : Bytes8 l) (h8 : l.length ≤ 8) : ∀ (n i k : Nat), i + n = l.length → n + 1 ≤ k → L k (wrap64 (nm (l.take i))) l (l.length : Int) (i : Int) = some (wrap64 (nm l))
  | 0, i, k, hi, hk => by
    obtain ⟨k, rfl⟩ : ∃ m, k = m + 1 := ⟨k - 1, by omega⟩
    rw [hL, if_neg (by omega), List.take_of_length_le (by omega)]
  | n + 1, i, k, hi, hk => by
    obtain ⟨k, rfl⟩ : ∃ m, k = m + 1 := ⟨k - 1, by omega⟩
    have hx := hb (l[i]'(by omega)) (List.getElem_mem (by omega))
    have hs := nm_small (l := l.take i) (fun x hx => hb x (List.mem_of_mem_take hx)) (by rw [List.length_take]; omega)
    rw [hL, if_pos (by omega), if_pos (by omega), if_pos (by omega), rd_at l i (by omega), or_i64 _ (nm (l.take i) * 256) _ (l[i]'(by omega)) (by unfold wrap64; omega) (by unfold wrap64; omega), or64 _ _ (by omega) (by omega) (by omega) (by omega),
      show wrap64 ((i : Int) + 1) = ((i + 1 : Nat) : Int) from by unfold wrap64; omega, ← nm_take_succ l i (by omega)]
    exact num_loop_i hL l hb h8 n (i + 1) k (by omega) (by omega)
end Loops

section Slot
open Go.Proofs.Ytffdonpkmnngpaa.Crc
def slotH (gen : Int) (body : List Int) : List Int := [80, 68] ++ be 8 gen ++ be 1 (body.length : Int) ++ body ++ List.replicate (113 - body.length) 0
def slotB (gen : Int) (body : List Int) : List Int := slotH gen body ++ be 4 (crc (slotH gen body))
def putS (gen : Int) (body : List Int) : List Int × Int := if body.length > 113 then ([], 4) else (slotB gen body, 0)
theorem slotH_length {gen : Int} {body : List Int} (h : body.length ≤ 113) : (slotH gen body).length = 124 := by
  simp only [slotH, List.length_append, be_length, List.length_replicate, List.length_cons, List.length_nil]; omega
theorem slotB_length {gen : Int} {body : List Int} (h : body.length ≤ 113) : (slotB gen body).length = 128 := by
  rw [slotB, List.length_append, slotH_length h, be_length]
theorem slotH_bytes {gen : Int} {body : List Int} (hb : Bytes8 body) : Bytes8 (slotH gen body) := fun x hx => by
  simp only [slotH, List.mem_append] at hx
  rcases hx with (((h | h) | h) | h) | h
  · simp at h; omega
  · exact be_bytes _ _ x h
  · exact be_bytes _ _ x h
  · exact hb x h
  · have := List.eq_of_mem_replicate h; omega
theorem slotB_bytes {gen : Int} {body : List Int} (hb : Bytes8 body) : Bytes8 (slotB gen body) := fun x hx => by
  rcases List.mem_append.1 hx with h | h
  · exact slotH_bytes hb x h
  · exact be_bytes _ _ x h
theorem slot_put_be (v : Int) (n k : Nat) (b : List Int) (hn : n ≤ 8) (hk : n + 1 ≤ k) (hb : b.length + n ≤ 140737488355328) : slot_put.f k b v (n : Int) = some (b ++ be n v) := by
  unfold slot_put.f
  rw [show wrap64 ((n : Int) - 1) = (n : Int) - 1 from by unfold wrap64; omega]
  exact put_loop .u64 rfl (fun k b v i => by rw [slot_put.l0]) v n k b hn hk hb
theorem put_slot (gen : Int) (body : List Int) (hb : Bytes8 body) (k : Nat) (hk : 1300 ≤ k) : slot_Put.f k gen body = some (putS gen body) := by
  unfold slot_Put.f putS
  by_cases h : body.length > 113
  · rw [if_pos (by omega), if_pos h]
  · have hs := slotH_length (gen := gen) (body := body) (by omega)
    have h8 : slot_put.f k [80, 68] gen 8 = some ([80, 68] ++ be 8 gen) := slot_put_be gen 8 k _ (by omega) (by omega) (by simp)
    have h1 : slot_put.f k ([80, 68] ++ be 8 gen) (IntKind.u64.wrap (body.length : Int)) 1 = some ([80, 68] ++ be 8 gen ++ be 1 (body.length : Int)) := by
      rw [wrap_u64' _ (by omega) (by omega)]
      exact slot_put_be _ 1 k _ (by omega) (by omega) (by simp [be_length])
    have hl : ([80, 68] ++ be 8 gen ++ be 1 (body.length : Int) ++ body).length = 11 + body.length := by
      simp only [List.length_append, be_length, List.length_cons, List.length_nil]
    have hH : [80, 68] ++ be 8 gen ++ be 1 (body.length : Int) ++ body ++ List.replicate (124 - ([80, 68] ++ be 8 gen ++ be 1 (body.length : Int) ++ body).length) 0 = slotH gen body := by
      rw [hl, slotH, show 124 - (11 + body.length) = 113 - body.length from by omega]
    have hc := crc_range (slotH gen body)
    rw [if_neg (by omega), if_neg h, h8, Option.bind_some, h1, Option.bind_some, if_pos (by omega), hH, sum_crc _ (slotH_bytes hb) (by omega) k (by omega), Option.bind_some, wrap_u64' _ hc.1 (by omega),
      show (4 : Int) = ((4 : Nat) : Int) from rfl, slot_put_be _ 4 k _ (by omega) (by omega) (by omega), Option.bind_some]
    rfl
theorem str_eq {a b : List Int} (ha : Bytes8 a) (hb : Bytes8 b) : ((strOfNums a).toList == (strOfNums b).toList) = decide (a = b) := by
  have hi : ∀ (l : List Int), Bytes8 l → (strOfNums l).toList.map (fun c => ((c.toNat : Nat) : Int)) = l := by
    intro l hl
    induction l with
    | nil => simp [strOfNums]
    | cons x l ih =>
      have hx := hl x (by simp)
      have e : (strOfNums (x :: l)).toList = UInt8.ofNat x.toNat :: (strOfNums l).toList := by simp [strOfNums]
      rw [e, List.map_cons, ih (fun y hy => hl y (List.mem_cons_of_mem _ hy))]
      congr 1
      simp; omega
  by_cases h : a = b
  · rw [h]; simp
  · rw [decide_eq_false h]
    rw [beq_eq_false_iff_ne]
    intro h2
    apply h
    rw [← hi a ha, ← hi b hb, h2]
def genS (b : List Int) : Int := nm ((b.take 10).drop 2)
def bodyS (b : List Int) : List Int := (b.take (11 + (rd b 10).toNat)).drop 11
def takeS (b : List Int) : Int × List Int × Int := if b.length = 128 ∧ rd b 10 ≤ 113 ∧ slotB (genS b) (bodyS b) = b then (genS b, bodyS b, 0) else (0, [], 2)
theorem rd_byte8 {l : List Int} (h : Bytes8 l) (j : Int) : 0 ≤ rd l j ∧ rd l j < 256 := by
  unfold rd
  rw [List.getD_eq_getElem?_getD]
  cases hg : l[j.toNat]? with
  | none => simp
  | some x => exact h x (List.mem_of_getElem? hg)
theorem bytes_part {l : List Int} (h : Bytes8 l) (i j : Nat) : Bytes8 ((l.take i).drop j) := fun x hx => h x (List.mem_of_mem_take (List.mem_of_mem_drop hx))
theorem take_slot (b : List Int) (hb : Bytes8 b) (k : Nat) (hk : 1320 ≤ k) : slot_Take.f k b = some (takeS b) := by
  have hr := rd_byte8 hb 10
  unfold slot_Take.f takeS
  obtain ⟨k, rfl⟩ : ∃ m, k = m + 1 := ⟨k - 1, by omega⟩
  by_cases h : b.length = 128
  · rw [if_pos (by omega), if_pos (by omega), slot_Take.j0, show wrap64 (rd b 10) = rd b 10 from by unfold wrap64; omega]
    by_cases h2 : rd b 10 > 113
    · rw [if_pos (decide_eq_true h2), if_neg (by omega)]
    · have hl : ((b.take 10).drop 2).length = 8 := by simp; omega
      have hB8 := bytes_part hb 10 2
      rw [if_neg (by simpa using h2), if_pos (by omega), if_pos (by omega), Option.bind_some]
      have hloop : ∀ (n i k : Nat), i + n = 8 → n + 1300 ≤ k → slot_Take.l0 k b (nm (((b.take 10).drop 2).take i)) ((b.take 10).drop 2) (((b.take 10).drop 2).length : Int) (i : Int) = slot_Take.l0 (k - n) b (genS b) ((b.take 10).drop 2) 8 8 := by
        intro n
        induction n with
        | zero =>
          intro i k hi hk
          obtain rfl : i = 8 := by omega
          rw [List.take_of_length_le (by omega), hl]
          rfl
        | succ n ih =>
          intro i k hi hk
          obtain ⟨k, rfl⟩ : ∃ m, k = m + 1 := ⟨k - 1, by omega⟩
          have hx := hB8 (((b.take 10).drop 2)[i]'(by omega)) (List.getElem_mem (by omega))
          have hs := nm_small (l := ((b.take 10).drop 2).take i) (fun x hx => hB8 x (List.mem_of_mem_take hx)) (by rw [List.length_take]; omega)
          rw [slot_Take.l0, if_pos (by omega), if_pos (by omega), if_pos (by omega), rd_at _ i (by omega), wrap_u64' _ (by omega) (by omega), wrap_u64' _ (by omega) (by omega), or64 _ _ (by omega) (by omega) (by omega) (by omega),
            show wrap64 ((i : Int) + 1) = ((i + 1 : Nat) : Int) from by unfold wrap64; omega, ← nm_take_succ _ i (by omega), ih (i + 1) k (by omega) (by omega)]
          congr 1; omega
      have h0 := hloop 8 0 k (by omega) (by omega)
      rw [List.take_zero] at h0
      refine Eq.trans h0 ?_
      obtain ⟨k, rfl⟩ : ∃ m, k = m + 9 := ⟨k - 9, by omega⟩
      rw [show k + 9 - 8 = k + 1 from by omega, slot_Take.l0, if_neg (by omega), Option.bind_some, show wrap64 (rd b 10) = rd b 10 from by unfold wrap64; omega, show wrap64 (11 + rd b 10) = 11 + rd b 10 from by unfold wrap64; omega,
        if_pos (by omega), if_pos (by omega), if_pos (by omega), Option.bind_some]
      have hbo : (b.take (11 + rd b 10).toNat).drop 11 = bodyS b := by rw [bodyS, show (11 + rd b 10).toNat = 11 + (rd b 10).toNat from by omega]
      have hlb : (bodyS b).length = (rd b 10).toNat := by rw [bodyS, List.length_drop, List.length_take]; omega
      have hBb : Bytes8 (bodyS b) := bytes_part hb _ _
      rw [hbo, if_pos (by rw [hlb]; simp; omega), Option.bind_some, List.nil_append, put_slot _ _ hBb k (by omega), Option.bind_some]
      have hp : putS (genS b) (bodyS b) = (slotB (genS b) (bodyS b), 0) := by rw [putS, if_neg (by omega)]
      rw [hp]
      unfold bytes_Equal.f
      rw [Option.bind_some, str_eq (slotB_bytes hBb) hb]
      by_cases h3 : slotB (genS b) (bodyS b) = b
      · rw [if_pos (decide_eq_true h3), if_pos ⟨h, by omega, h3⟩]
      · rw [if_neg (by rw [decide_eq_false h3]; decide), if_neg (fun hh => h3 hh.2.2)]
  · rw [if_neg (by omega), slot_Take.j0, if_pos rfl, if_neg (fun hh => h hh.1)]
def betterS (a b : List Int) : Int × Int × List Int × Int := if (takeS b).2.2 = 0 then (if (takeS a).2.2 = 0 then (if (takeS b).1 > (takeS a).1 then (1, (takeS b).1, (takeS b).2.1, 0) else (0, (takeS a).1, (takeS a).2.1, (takeS a).2.2)) else (1, (takeS b).1, (takeS b).2.1, 0)) else (0, (takeS a).1, (takeS a).2.1, (takeS a).2.2)
theorem better_slot (a b : List Int) (ha : Bytes8 a) (hb : Bytes8 b) (k : Nat) (hk : 1320 ≤ k) : slot_Better.f k a b = some (betterS a b) := by
  unfold slot_Better.f betterS
  rw [take_slot a ha k hk, Option.bind_some, take_slot b hb k hk, Option.bind_some]
  split
  · split
    · split <;> rfl
    · rfl
  · rfl
/-- What was put is taken. -/
theorem genS_slotB (gen : Int) (body : List Int) (hg : 0 ≤ gen ∧ gen < 18446744073709551616) : genS (slotB gen body) = gen := by
  have e : ((slotB gen body).take 10).drop 2 = be 8 gen := by
    have : slotB gen body = [80, 68] ++ (be 8 gen ++ (be 1 (body.length : Int) ++ body ++ List.replicate (113 - body.length) 0 ++ be 4 (crc (slotH gen body)))) := by simp [slotB, slotH]
    rw [this]
    have h8 := be_length 8 gen
    rw [List.take_append, List.drop_append]
    simp [h8]
  rw [genS, e, nm_be 8 gen hg.1 hg.2]
theorem be1 (v : Int) (h : 0 ≤ v ∧ v < 256) : be 1 v = [v] := by simp [be]; omega
theorem slotB_split (gen : Int) (body : List Int) (h : body.length ≤ 113) : slotB gen body = ([80, 68] ++ be 8 gen) ++ ((body.length : Int) :: (body ++ (List.replicate (113 - body.length) 0 ++ be 4 (crc (slotH gen body))))) := by
  simp [slotB, slotH, be1 (body.length : Int) (by omega)]
theorem rd_slotB (gen : Int) (body : List Int) (h : body.length ≤ 113) : rd (slotB gen body) 10 = body.length := by
  have h8 : ([80, 68] ++ be 8 gen).length = 10 := by simp [be_length]
  rw [slotB_split gen body h, rd, show ((10 : Int)).toNat = 10 from rfl, List.getD_eq_getElem?_getD, List.getElem?_append_right (by omega), h8]
  rfl
theorem bodyS_slotB (gen : Int) (body : List Int) (h : body.length ≤ 113) : bodyS (slotB gen body) = body := by
  have h8 : ([80, 68] ++ be 8 gen).length = 10 := by simp [be_length]
  rw [bodyS, rd_slotB gen body h, slotB_split gen body h, Int.toNat_natCast]
  have e : ([80, 68] ++ be 8 gen) ++ ((body.length : Int) :: (body ++ (List.replicate (113 - body.length) 0 ++ be 4 (crc (slotH gen body))))) = ([80, 68] ++ be 8 gen ++ [(body.length : Int)]) ++ body ++ (List.replicate (113 - body.length) 0 ++ be 4 (crc (slotH gen body))) := by simp
  have h11 : ([80, 68] ++ be 8 gen ++ [(body.length : Int)]).length = 11 := by simp [be_length]
  rw [e, List.take_append_of_le_length (by simp only [List.length_append] at h11 ⊢; omega), List.take_of_length_le (by rw [List.length_append, h11]; omega), List.drop_append_of_le_length (by omega), List.drop_of_length_le (by omega), List.nil_append]
theorem take_back (gen : Int) (body : List Int) (hg : 0 ≤ gen ∧ gen < 18446744073709551616) (h : body.length ≤ 113) : takeS (slotB gen body) = (gen, body, 0) := by
  unfold takeS
  rw [genS_slotB gen body hg, bodyS_slotB gen body h, if_pos ⟨slotB_length h, by rw [rd_slotB gen body h]; omega, rfl⟩]
/-- A slot with a byte turned is none. -/
theorem take_turned (gen : Int) (body : List Int) (hb : Bytes8 body) (h : body.length ≤ 113) (i : Nat) (hi : i < 128) (y : Int) (hy : 0 ≤ y ∧ y < 256) (hne : y ≠ (slotB gen body)[i]'(by rw [slotB_length h]; exact hi)) : takeS ((slotB gen body).set i y) = (0, [], 2) := by
  have hS := slotB_length (gen := gen) h
  have hH := slotH_length (gen := gen) h
  have hB := slotB_bytes (gen := gen) hb
  have hBH := slotH_bytes (gen := gen) hb
  unfold takeS
  rw [if_neg]
  rintro ⟨hl, hr, he⟩
  have hB' : Bytes8 ((slotB gen body).set i y) := fun x hx => by
    rcases List.mem_or_eq_of_mem_set hx with h | h
    · exact hB x h
    · rw [h]; exact hy
  have hl' : (bodyS ((slotB gen body).set i y)).length ≤ 113 := by
    rw [bodyS, List.length_drop, List.length_take]; have := rd_byte8 hB' 10; omega
  generalize hg' : genS ((slotB gen body).set i y) = g' at he
  generalize hb' : bodyS ((slotB gen body).set i y) = b' at he hl'
  have hH' := slotH_length (gen := g') hl'
  by_cases h4 : i < 124
  · have e1 : (slotB gen body).set i y = (slotH gen body).set i y ++ be 4 (crc (slotH gen body)) := by rw [slotB, List.set_append_left _ _ (by omega)]
    rw [e1, slotB] at he
    have e2 := List.append_inj he (by rw [hH', List.length_set, hH])
    have e3 : crc (slotH gen body) = crc ((slotH gen body).set i y) := by
      rw [← e2.1]
      exact (be_inj (n := 4) ⟨(crc_range _).1, (crc_range _).2⟩ ⟨(crc_range _).1, (crc_range _).2⟩ e2.2).symm
    have e4 := (crc_set (slotH gen body) i (by omega) hBH y hy.1 hy.2).1 e3.symm
    apply hne
    rw [e4]
    simp only [slotB]
    rw [List.getElem_append_left]
  · have e1 : (slotB gen body).set i y = slotH gen body ++ (be 4 (crc (slotH gen body))).set (i - 124) y := by rw [slotB, List.set_append_right _ _ (by omega), hH]
    rw [e1, slotB] at he
    have e2 := List.append_inj he (by rw [hH', hH])
    rw [e2.1] at e2
    have e3 := e2.2
    have hlen := be_length 4 (crc (slotH gen body))
    have e5 : (be 4 (crc (slotH gen body)))[i - 124]'(by omega) = y := by
      have : ((be 4 (crc (slotH gen body))).set (i - 124) y)[i - 124]'(by rw [List.length_set]; omega) = y := List.getElem_set_self ..
      rw [← this]
      congr 1
    apply hne
    rw [← e5]
    simp only [slotB]
    rw [List.getElem_append_right (by omega)]
    simp only [hH]
end Slot

theorem take_none (b : List Int) (h : b.head? ≠ some 80) : takeS b = (0, [], 2) := by
  unfold takeS
  rw [if_neg]
  rintro ⟨_, _, h3⟩
  apply h
  rw [← h3]
  rfl
theorem bytes_small (l : List Int) (h : l.all (fun x => decide (0 ≤ x) && decide (x < 256)) = true) : Go.Proofs.Ytffdonpkmnngpaa.Crc.Bytes8 l := fun x hx => by
  have := List.all_eq_true.1 h x hx
  simpa using this
theorem bytes_zeros (n : Nat) : Go.Proofs.Ytffdonpkmnngpaa.Crc.Bytes8 (List.replicate n 0) := fun x hx => by
  have := List.eq_of_mem_replicate hx; omega
theorem begun_true (k : Nat) (hk : 1320 ≤ k) : pandectlaw4_begun.f k = some true := by
  have b1 : Go.Proofs.Ytffdonpkmnngpaa.Crc.Bytes8 [120] := bytes_small _ (by decide)
  have b2 : Go.Proofs.Ytffdonpkmnngpaa.Crc.Bytes8 [121] := bytes_small _ (by decide)
  have p1 : putS 5 [120] = (slotB 5 [120], 0) := if_neg (by decide)
  have p2 : putS 6 [121] = (slotB 6 [121], 0) := if_neg (by decide)
  have t1 := take_back 5 [120] (by omega) (by decide)
  have t2 := take_back 6 [121] (by omega) (by decide)
  have w1 : betterS (slotB 5 [120]) (slotB 6 [121]) = (1, 6, [121], 0) := by
    unfold betterS
    rw [t1, t2]
    decide
  have w2 : betterS (List.replicate 128 0) [] = (0, 0, [], 2) := by
    unfold betterS
    rw [take_none [] (by decide), take_none (List.replicate 128 0) (by decide)]
    decide
  have l1 := slotB_length (gen := 5) (body := [120]) (by decide)
  unfold pandectlaw4_begun.f
  rw [put_slot 5 [120] b1 k (by omega), Option.bind_some, put_slot 6 [121] b2 k (by omega), Option.bind_some, p1, p2, better_slot _ _ (slotB_bytes b1) (slotB_bytes b2) k (by omega), Option.bind_some, if_pos (by decide), better_slot _ _ (bytes_zeros _) (bytes_small [] (by decide)) k (by omega), Option.bind_some, take_slot [] (bytes_small [] (by decide)) k (by omega), Option.bind_some, w1, w2, take_none [] (by decide)]
  rw [if_pos rfl, if_pos (by rw [l1]; rfl)]
  decide +kernel

open Go.Proofs.Ytffdonpkmnngpaa.Crc
theorem str_eq2 {a b : List Int} (ha : Bytes8 a) (hb : Bytes8 b) : ((strOfNums a).toList = (strOfNums b).toList) ↔ a = b := by
  have h := str_eq ha hb
  rw [← decide_eq_true_iff (p := a = b), ← h, beq_iff_eq]
def none3 : Int × List Int × Int := (0, [], 2)
def G (g : Nat) : Int := (g : Int)
theorem w_u64 (a i : Nat) (ha : a < 4294967296) (hi : i ≤ 10) : IntKind.u64.wrap ((IntKind.u64.wrap (a : Int)) + (IntKind.u64.wrap (i : Int))) = ((a + i : Nat) : Int) := by
  rw [wrap_u64' (a : Int) (by omega) (by omega), wrap_u64' (i : Int) (by omega) (by omega), wrap_u64' _ (by omega) (by omega)]
  omega
theorem w_i (i : Nat) (h : i ≤ 20) : wrap64 ((i : Int) + 1) = ((i + 1 : Nat) : Int) := by unfold wrap64; omega
theorem w_p (i : Nat) (h : i ≤ 20) (h1 : 1 ≤ i) : wrap64 ((i : Int) - 1) = ((i - 1 : Nat) : Int) := by unfold wrap64; omega
theorem w_small (p : Nat) (h : p < 2) : wrap64 (p : Int) = (p : Int) := by unfold wrap64; omega
theorem u_add (g : Nat) (h : g < 5000000000) : IntKind.u64.wrap ((g : Int) + 1) = ((g + 1 : Nat) : Int) := by rw [wrap_u64' _ (by omega) (by omega)]; omega
theorem u_sub (g : Nat) (h : g < 5000000000) (h1 : 1 ≤ g) : IntKind.u64.wrap ((g : Int) - 1) = ((g - 1 : Nat) : Int) := by rw [wrap_u64' _ (by omega) (by omega)]; omega
theorem tm2 (g : Nat) : Int.tmod (g : Int) 2 = ((g % 2 : Nat) : Int) := by rw [Int.tmod_eq_emod_of_nonneg (by omega)]; rfl
theorem tm128 (g : Nat) : Int.tmod (g : Int) 128 = ((g % 128 : Nat) : Int) := by rw [Int.tmod_eq_emod_of_nonneg (by omega)]; rfl
theorem rdL (x : List (List Int)) (i : Nat) (h : i < x.length) : rd_L1 x (i : Int) = x[i] := by simp [rd_L1, List.getD_eq_getElem?_getD, List.getElem?_eq_getElem h]
/-- What the better one of the two is, where the one at p is new. -/
theorem better_new (s t : List Int) (g : Nat) (body : List Int) (hs : takeS s = ((g : Int), body, 0)) (ht : takeS t = none3 ∨ ∃ b, takeS t = (((g - 1 : Nat) : Int), b, 0) ∧ 1 ≤ g) :
    betterS s t = (0, (g : Int), body, 0) ∧ betterS t s = (1, (g : Int), body, 0) := by
  unfold betterS
  rcases ht with ht | ⟨b, ht, h1⟩
  · rw [hs, ht]; simp [none3]
  · rw [hs, ht]
    constructor
    · first | (simp; done) | (simp; omega)
    · first | (simp; done) | (simp; omega)
theorem better_old (s t : List Int) (g : Int) (body : List Int) (hs : takeS s = none3) (ht : takeS t = (g, body, 0)) :
    betterS s t = (1, g, body, 0) ∧ betterS t s = (0, g, body, 0) := by
  unfold betterS
  rw [hs, ht]
  simp [none3]
theorem better_none (s t : List Int) (hs : takeS s = none3) (ht : takeS t = none3) : betterS s t = (0, 0, [], 2) := by
  unfold betterS
  rw [hs, ht]
  simp [none3]
/-- The slots as they stand ahead of the round i: the one that isn't written next tells what was written last. -/
structure Stand (a : Nat) (l : List (List Int)) (i : Nat) (x : List (List Int)) : Prop where
  two : x.length = 2
  len : ∀ (j : Nat) (h : j < x.length), (x[j]).length = 128 ∧ Bytes8 x[j]
  old : ∀ (h : (a + i + 1) % 2 < x.length), takeS (x[(a + i + 1) % 2]) = if i = 0 then none3 else (((a + i - 1 : Nat) : Int), rd_L1 l ((i - 1 : Nat) : Int), 0)
theorem set_rows {x : List (List Int)} {p : Nat} {r : List Int} (hr : r.length = 128 ∧ Bytes8 r) (hx : ∀ (j : Nat) (h : j < x.length), (x[j]).length = 128 ∧ Bytes8 x[j]) (j : Nat) (h : j < (x.set p r).length) : ((x.set p r)[j]).length = 128 ∧ Bytes8 (x.set p r)[j] := by
  rw [List.getElem_set]
  split
  · exact hr
  · exact hx j (by simpa using h)
theorem rd_nonneg_tm (at_ : Nat) : at_ % 128 < 128 := Nat.mod_lt _ (by omega)
theorem rounds (a at_ y : Nat) (l : List (List Int)) (ha : a < 4294967296) (hy : y < 256) (hl : l.length ≤ 10) (hb : ∀ r ∈ l, Bytes8 r) :
    ∀ (m i k : Nat) (x : List (List Int)), i + m = l.length → 1400 + 2 * m ≤ k → Stand a l i x → pandectlaw4_SlotTurns.l0 k a l at_ y x i = some true
  | 0, i, k, x, hi, hk, _ => by
    obtain ⟨k, rfl⟩ : ∃ m, k = m + 1 := ⟨k - 1, by omega⟩
    rw [pandectlaw4_SlotTurns.l0, if_neg (by omega)]
  | m + 1, i, k, x, hi, hk, S => by
    obtain ⟨k, rfl⟩ : ∃ m, k = m + 2 := ⟨k - 2, by omega⟩
    have hil : i < l.length := by omega
    rw [pandectlaw4_SlotTurns.l0, if_pos (by omega), if_pos (by omega)]
    have hbody : Bytes8 (rd_L1 l (i : Int)) := by rw [rdL l i hil]; exact hb _ (List.getElem_mem hil)
    by_cases hlen : ((rd_L1 l (i : Int)).length : Int) > 100
    · rw [if_pos hlen]
    · rw [if_neg hlen, w_u64 a i ha (by omega), put_slot _ _ hbody (k + 1) (by omega), Option.bind_some]
      have h113 : (rd_L1 l (i : Int)).length ≤ 113 := by omega
      have ep : putS ((a + i : Nat) : Int) (rd_L1 l (i : Int)) = (slotB ((a + i : Nat) : Int) (rd_L1 l (i : Int)), 0) := if_neg (by omega)
      rw [ep, if_pos rfl]
      generalize hg : a + i = g at S
      have hgb : g < 5000000000 := by omega
      generalize hbd : rd_L1 l (i : Int) = body at hbody hlen h113
      have B1 := slotB_length (gen := (g : Int)) h113
      have B2 := slotB_bytes (gen := (g : Int)) hbody
      have TB := take_back (g : Int) body (by omega) h113
      have TT : ∀ z : Int, (0 ≤ z ∧ z < 256) → (∀ h : at_ % 128 < (slotB (g : Int) body).length, z ≠ (slotB (g : Int) body)[at_ % 128]) → takeS ((slotB (g : Int) body).set (at_ % 128) z) = (0, [], 2) := fun z hz hne => take_turned (g : Int) body hbody h113 _ (rd_nonneg_tm at_) z hz (hne _)
      generalize slotB (g : Int) body = B at B1 B2 TB TT
      have hx0 : ((B.length : Int) != 128) = false := by rw [B1]; rfl
      dsimp only
      rw [hx0, pandectlaw4_SlotTurns.j2, if_neg (by simp), Option.bind_some, if_pos (by simp; omega), Option.bind_some, List.nil_append, tm128, tm2, if_pos (by omega), if_pos (by omega), if_pos (by omega), if_pos (by have := S.two; omega), Option.bind_some, if_pos (by have := S.two; omega), if_pos (by have := S.two; omega)]
      rw [Int.toNat_natCast, Int.toNat_natCast]
      have hpos : at_ % 128 < B.length := by rw [B1]; exact rd_nonneg_tm at_
      have hby := B2 B[at_ % 128] (List.getElem_mem hpos)
      rw [rd_at B (at_ % 128) hpos]
      have hX := bx8_bytes B[at_ % 128] (y : Int) hby (by omega)
      have hZ := bx8_zero B[at_ % 128] (y : Int) hby (by omega)
      generalize Go.bits .xor .u8 B[at_ % 128] (y : Int) = z at hX hZ
      have hT1 : (B.set (at_ % 128) z).length = 128 ∧ Bytes8 (B.set (at_ % 128) z) := by
        refine ⟨by simp [B1], fun v hv => ?_⟩
        rcases List.mem_or_eq_of_mem_set hv with h | h
        · exact B2 v h
        · rw [h]; exact hX.1
      have hT2 : takeS (B.set (at_ % 128) z) = if y = 0 then ((g : Int), body, 0) else none3 := by
        by_cases h0 : y = 0
        · rw [if_pos h0]
          have : z = B[at_ % 128] := hZ.2 (by omega)
          rw [this, List.set_getElem_self]
          exact TB
        · rw [if_neg h0]
          exact TT z hX.1 (fun _ e => h0 (by have := hZ.1 e; omega))
      generalize B.set (at_ % 128) z = torn at hT1 hT2
      have hp2 : g % 2 < x.length := by have := S.two; omega
      have hq2 : (g + 1) % 2 < x.length := by have := S.two; omega
      have hbet : Bytes8 (rd_L1 (x.set (g % 2) torn) 0) ∧ Bytes8 (rd_L1 (x.set (g % 2) torn) 1) := by
        have e0 := rdL (x.set (g % 2) torn) 0 (by simp; have := S.two; omega)
        have e1 := rdL (x.set (g % 2) torn) 1 (by simp; have := S.two; omega)
        have e0' : rd_L1 (x.set (g % 2) torn) 0 = (x.set (g % 2) torn)[0]'(by simp; have := S.two; omega) := e0
        have e1' : rd_L1 (x.set (g % 2) torn) 1 = (x.set (g % 2) torn)[1]'(by simp; have := S.two; omega) := e1
        rw [e0', e1']
        exact ⟨(set_rows hT1 S.len 0 _).2, (set_rows hT1 S.len 1 _).2⟩
      rw [better_slot _ _ hbet.1 hbet.2 k (by omega), Option.bind_some]
      have hold : takeS x[(g + 1) % 2] = if i = 0 then none3 else (((g - 1 : Nat) : Int), rd_L1 l ((i - 1 : Nat) : Int), 0) := by
        have h := S.old (by rw [hg]; exact hq2)
        simp only [hg] at h
        exact h
      have hlen2 : ((rd_L1 x ((g % 2 : Nat) : Int)).length : Int) = 128 := by rw [rdL x _ hp2]; exact_mod_cast (S.len _ hp2).1
      -- which rows the better one is told of
      have hB : (g % 2 = 0 → betterS (rd_L1 (x.set (g % 2) torn) 0) (rd_L1 (x.set (g % 2) torn) 1) = betterS torn x[(g + 1) % 2]) ∧ (g % 2 = 1 → betterS (rd_L1 (x.set (g % 2) torn) 0) (rd_L1 (x.set (g % 2) torn) 1) = betterS x[(g + 1) % 2] torn) := by
        have h2 := S.two
        match x, h2 with
        | [u, v], _ =>
          constructor
          · intro h
            have h' : (g + 1) % 2 = 1 := by omega
            simp only [h, h']
            rfl
          · intro h
            have h' : (g + 1) % 2 = 0 := by omega
            simp only [h, h']
            rfl
      have hnext : Stand a l (i + 1) (x.set (g % 2) B) := by
        refine ⟨by simp [S.two], fun j hj => set_rows ⟨B1, B2⟩ S.len j hj, fun hj => ?_⟩
        have e : (a + (i + 1) + 1) % 2 = g % 2 := by omega
        have e2 : a + (i + 1) - 1 = g := by omega
        simp only [e, e2]
        rw [List.getElem_set_self, TB, if_neg (by omega), Nat.add_sub_cancel, hbd]
      have hnext' : Stand a l (i + 1) ((x.set (g % 2) torn).set (g % 2) B) := by rw [List.set_set]; exact hnext
      have ih := rounds a at_ y l ha hy hl hb m (i + 1) k _ (by omega) (by omega) hnext'
      have hpm : g % 2 < 2 := Nat.mod_lt _ (by omega)
      have hold' : takeS x[(g + 1) % 2] = none3 ∨ ∃ b, takeS x[(g + 1) % 2] = (((g - 1 : Nat) : Int), b, 0) ∧ 1 ≤ g := by
        have hold := hold
        by_cases h0 : i = 0
        · rw [if_pos h0] at hold; exact .inl hold
        · rw [if_neg h0] at hold; exact .inr ⟨_, hold, by omega⟩
      by_cases hy0 : y = 0
      · rw [if_pos hy0] at hT2
        obtain ⟨n1, n2⟩ := better_new torn x[(g + 1) % 2] g body hT2 hold'
        have hbt : betterS (rd_L1 (x.set (g % 2) torn) 0) (rd_L1 (x.set (g % 2) torn) 1) = (((g % 2 : Nat) : Int), (g : Int), body, 0) := by
          rcases (show g % 2 = 0 ∨ g % 2 = 1 by omega) with h | h
          · rw [hB.1 h, n1, h]; rfl
          · rw [hB.2 h, n2, h]; rfl
        rw [hbt, if_pos (show ((y : Nat) : Int) = 0 by omega)]
        by_cases h0 : i = 0
        · rw [if_pos (by omega), if_pos rfl, if_pos (w_small _ hpm).symm, if_pos rfl, if_pos (by omega), if_pos (by omega), hbd, if_pos rfl, if_pos hlen2, w_i i (by omega)]
          exact ih
        · rw [if_neg (by omega), if_pos rfl, if_pos (w_small _ hpm).symm, if_pos rfl, if_pos (by omega), if_pos (by omega), hbd, if_pos rfl, if_pos hlen2, w_i i (by omega)]
          exact ih
      · rw [if_neg hy0] at hT2
        rw [if_neg (show ¬ ((y : Nat) : Int) = 0 by omega)]
        by_cases h0 : i = 0
        · rw [if_pos h0] at hold
          have hbt : betterS (rd_L1 (x.set (g % 2) torn) 0) (rd_L1 (x.set (g % 2) torn) 1) = (0, 0, [], 2) := by
            rcases (show g % 2 = 0 ∨ g % 2 = 1 by omega) with h | h
            · rw [hB.1 h, better_none _ _ hT2 hold]
            · rw [hB.2 h, better_none _ _ hold hT2]
          rw [hbt, if_pos (by omega), if_pos rfl, if_pos hlen2, w_i i (by omega)]
          exact ih
        · rw [if_neg h0] at hold
          obtain ⟨n1, n2⟩ := better_old torn x[(g + 1) % 2] _ _ hT2 hold
          have hbt : betterS (rd_L1 (x.set (g % 2) torn) 0) (rd_L1 (x.set (g % 2) torn) 1) = ((((g + 1) % 2 : Nat) : Int), ((g - 1 : Nat) : Int), rd_L1 l ((i - 1 : Nat) : Int), 0) := by
            rcases (show g % 2 = 0 ∨ g % 2 = 1 by omega) with h | h
            · rw [hB.1 h, n1, show (g + 1) % 2 = 1 by omega]; rfl
            · rw [hB.2 h, n2, show (g + 1) % 2 = 0 by omega]; rfl
          rw [hbt, if_neg (by omega), if_pos rfl, u_add g hgb, tm2, if_pos (w_small _ (Nat.mod_lt _ (by omega))).symm, u_sub g hgb (by omega), if_pos rfl, w_p i (by omega) (by omega), if_pos (by omega), if_pos (by omega), if_pos rfl, if_pos hlen2, w_i i (by omega)]
          exact ih
theorem SlotTurns (a0 : Int) (l1 : List (List Int)) (a2 a3 : Int) (h0 : 0 ≤ a0 ∧ a0 < 4294967296) (h1 : ∀ r ∈ l1, Bytes8 r) (h2 : 0 ≤ a2 ∧ a2 < 256) (h3 : 0 ≤ a3 ∧ a3 < 256) : pandectlaw4_SlotTurns.f 1500 a0 l1 a2 a3 = some true := by
  unfold pandectlaw4_SlotTurns.f
  rw [begun_true _ (by omega), Option.bind_some, if_pos rfl]
  by_cases c1 : (l1.length : Int) < 1
  · rw [if_pos c1, pandectlaw4_SlotTurns.j0, if_pos rfl]
  · rw [if_neg c1]
    by_cases c2 : (l1.length : Int) > 10
    · rw [decide_eq_true c2, pandectlaw4_SlotTurns.j0, if_pos rfl]
    · rw [decide_eq_false c2, pandectlaw4_SlotTurns.j0, if_neg (by simp), if_pos (by omega)]
      obtain ⟨a, rfl⟩ := Int.eq_ofNat_of_zero_le h0.1
      obtain ⟨p, rfl⟩ := Int.eq_ofNat_of_zero_le h2.1
      obtain ⟨y, rfl⟩ := Int.eq_ofNat_of_zero_le h3.1
      have hz : takeS (List.replicate 128 0) = none3 := take_none _ (by decide)
      refine rounds a p y l1 (by omega) (by omega) (by omega) h1 l1.length 0 1499 _ (by omega) (by omega) ⟨rfl, fun j hj => ?_, fun hj => ?_⟩
      · match j, hj with
        | 0, _ => exact ⟨by simp, bytes_zeros 128⟩
        | 1, _ => exact ⟨by simp, bytes_zeros 128⟩
      · rw [if_pos rfl]
        rcases (show (a + 0 + 1) % 2 = 0 ∨ (a + 0 + 1) % 2 = 1 by omega) with h | h
        · simp only [h]; exact hz
        · simp only [h]; exact hz

end Go.Proofs.Ytffdonpkmnngpaa.Pure
