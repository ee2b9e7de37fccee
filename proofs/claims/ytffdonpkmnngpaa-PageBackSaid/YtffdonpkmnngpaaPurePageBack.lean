/- PageBack: a page comes back, and with a byte turned, or with one more, it is none. No condition. -/
import Derived.Test.YtffdonpkmnngpaaPPageBackx6
import Derived.Test.YtffdonpkmnngpaaCrc
namespace Go.Proofs.Ytffdonpkmnngpaa.Pure
open Go.RowKit Go.Proofs.Ytffdonpkmnngpaa.PPageBack Go.Proofs.YtffdonpkmnngpaaW.PrintWords Go.Proofs.YtffdonpkmnngpaaW.PrintLast
set_option linter.unusedVariables false
section SumLoop
open Go.Proofs.Ytffdonpkmnngpaa.Crc
theorem bx32 (a b : BitVec 32) : Go.bits .xor .u32 (a.toNat : Int) (b.toNat : Int) = ((a ^^^ b).toNat : Int) := by
  have h := (a ^^^ b).isLt
  have e : Go.bits .xor .u32 (a.toNat : Int) (b.toNat : Int) = IntKind.u32.wrap ((BitVec.ofInt 32 (a.toNat : Int) ^^^ BitVec.ofInt 32 (b.toNat : Int)).toNat : Int) := rfl
  rw [e, BitVec.ofInt_natCast, BitVec.ofInt_natCast, BitVec.ofNat_toNat, BitVec.ofNat_toNat, BitVec.setWidth_eq, BitVec.setWidth_eq, Go.IntKind.wrap_u32]
  omega
theorem byte32 (x : Int) (h0 : 0 ≤ x) (h1 : x < 256) : x % 4294967296 = ((BitVec.ofInt 32 x).toNat : Int) := by
  obtain ⟨n, rfl⟩ := Int.eq_ofNat_of_zero_le h0
  rw [BitVec.ofInt_natCast, BitVec.toNat_ofNat]
  omega
theorem and1 (a : BitVec 32) : Go.bits .and .u32 (a.toNat : Int) 1 = ((a &&& 1#32).toNat : Int) := by
  have h := (a &&& 1#32).isLt
  have e : Go.bits .and .u32 (a.toNat : Int) 1 = IntKind.u32.wrap ((BitVec.ofInt 32 (a.toNat : Int) &&& 1#32).toNat : Int) := rfl
  rw [e, BitVec.ofInt_natCast, BitVec.ofNat_toNat, BitVec.setWidth_eq, Go.IntKind.wrap_u32]
  omega
theorem bstep (r : BitVec 32) : Go.bits .xor .u32 ((r.toNat : Int) / 2) ((Go.bits .and .u32 (r.toNat : Int) 1 * 2197175160) % 4294967296) = ((cstep r).toNat : Int) := by
  have e1 : ((r.toNat : Int) / (2 : Int)) = ((r >>> 1).toNat : Int) := by
    rw [BitVec.toNat_ushiftRight, Nat.shiftRight_eq_div_pow]; simp
  have e2 : (Go.bits .and .u32 (r.toNat : Int) 1 * 2197175160) % 4294967296 = ((if r.getLsbD 0 then poly else 0#32).toNat : Int) := by
    have hb : r.getLsbD 0 = decide (r.toNat % 2 = 1) := by
      rw [BitVec.getLsbD, Nat.testBit_zero]
    rw [and1, BitVec.toNat_and, hb]
    have h1 : r.toNat &&& (1#32).toNat = r.toNat % 2 := by
      show r.toNat &&& 1 = _
      rw [Nat.and_one_is_mod]
    rw [h1]
    rcases Nat.mod_two_eq_zero_or_one r.toNat with h | h <;> rw [h] <;> decide
  rw [e1, e2, bx32]; rfl
theorem sum_bits (xs : List Int) (len i : Int) : ∀ (n k : Nat) (r : BitVec 32), n ≤ 8 →
    sum_Sum.l1 (k + 1 + n) (r.toNat : Int) xs len i (8 - n) = sum_Sum.l0 k ((steps n r).toNat : Int) xs len (wrap64 (i + 1))
  | 0, k, r, _ => by
    rw [show k + 1 + 0 = k + 1 from rfl]
    simp only [sum_Sum.l1]
    rw [if_neg (by omega)]; rfl
  | n + 1, k, r, hn => by
    rw [show k + 1 + (n + 1) = (k + 1 + n) + 1 from by omega]
    simp only [sum_Sum.l1]
    rw [if_pos (by omega), bstep]
    have e : wrap64 ((8 : Int) - ((n + 1 : Nat) : Int) + 1) = 8 - (n : Int) := by unfold wrap64; omega
    rw [e, sum_bits xs len i n k (cstep r) (by omega)]
    rfl
theorem sum_loop (xs : List Int) (hb : Bytes8 xs) (hl : xs.length ≤ 140737488351232) : ∀ (n i k : Nat) (r : BitVec 32), i + n = xs.length → 10 * n + 1 ≤ k →
    sum_Sum.l0 k (r.toNat : Int) xs (xs.length : Int) (i : Int) = some (((BitVec.allOnes 32) ^^^ (xs.drop i).foldl upd r).toNat : Int)
  | 0, i, k, r, hi, hk => by
    obtain ⟨k, rfl⟩ : ∃ m, k = m + 1 := ⟨k - 1, by omega⟩
    simp only [sum_Sum.l0]
    rw [if_neg (by omega), List.drop_of_length_le (by omega)]
    have e : (4294967295 : Int) = ((BitVec.allOnes 32).toNat : Int) := by decide
    rw [e, bx32]; rfl
  | n + 1, i, k, r, hi, hk => by
    obtain ⟨k, rfl⟩ : ∃ m, k = m + 10 := ⟨k - 10, by omega⟩
    rw [show k + 10 = (k + 1 + 8) + 1 from by omega]
    simp only [sum_Sum.l0]
    rw [if_pos (by omega), if_pos (by omega), if_pos (by omega)]
    have hx : rd xs (i : Int) = xs[i]'(by omega) := by simp [rd, List.getD_eq_getElem?_getD, List.getElem?_eq_getElem (show i < xs.length by omega)]
    have hbx := hb (xs[i]'(by omega)) (List.getElem_mem (by omega))
    rw [hx, byte32 _ hbx.1 hbx.2, bx32]
    have e := sum_bits xs (xs.length : Int) (i : Int) 8 k (r ^^^ BitVec.ofInt 32 (xs[i]'(by omega))) (Nat.le_refl 8)
    rw [show (8 : Int) - ((8 : Nat) : Int) = 0 from by omega] at e
    rw [e]
    have ew : wrap64 ((i : Int) + 1) = ((i + 1 : Nat) : Int) := by unfold wrap64; omega
    rw [ew, sum_loop xs hb hl n (i + 1) k _ (by omega) (by omega)]
    rw [List.drop_eq_getElem_cons (show i < xs.length by omega)]
    rfl
/-- The sum of Bytes8, with enough rounds. -/
theorem sum_crc (xs : List Int) (hb : Bytes8 xs) (hl : xs.length ≤ 140737488351232) (k : Nat) (hk : 10 * xs.length + 1 ≤ k) : sum_Sum.f k xs = some (crc xs) := by
  unfold sum_Sum.f
  have e : (4294967295 : Int) = ((BitVec.allOnes 32).toNat : Int) := by decide
  have := sum_loop xs hb hl xs.length 0 k (BitVec.allOnes 32) (by omega) hk
  rw [e]
  exact this
end SumLoop

section Be
open Go.Proofs.Ytffdonpkmnngpaa.Crc
/-- A number in so many bytes, the highest first. -/
def be : Nat → Int → List Int
  | 0, _ => []
  | n + 1, v => (v / 256 ^ n) % 256 :: be n v
def nmF (a : Int) (l : List Int) : Int := l.foldl (fun a c => a * 256 + c) a
def nm (l : List Int) : Int := nmF 0 l
theorem be_length (n : Nat) (v : Int) : (be n v).length = n := by
  induction n with
  | zero => rfl
  | succ n ih => simp [be, ih]
theorem be_bytes (n : Nat) (v : Int) : Bytes8 (be n v) := by
  induction n with
  | zero => intro x hx; simp [be] at hx
  | succ n ih =>
    intro x hx
    rcases List.mem_cons.1 hx with rfl | h
    · exact ⟨Int.emod_nonneg _ (by decide), Int.emod_lt_of_pos _ (by decide)⟩
    · exact ih x h
theorem nat_mod_split (v m : Nat) : v % (m * 256) = (v / m % 256) * m + v % m := by
  rw [Nat.mod_mul, Nat.mul_comm m, Nat.add_comm]
theorem pw (n : Nat) : (256 : Int) ^ n = ((256 ^ n : Nat) : Int) := by rw [Int.natCast_pow]; rfl
theorem pw_pos (n : Nat) : (0 : Int) < 256 ^ n := Int.pow_pos (by decide)
theorem nmF_be (n : Nat) (v : Nat) : ∀ a : Int, nmF a (be n (v : Int)) = a * 256 ^ n + ((v % 256 ^ n : Nat) : Int) := by
  induction n with
  | zero => intro a; simp [be, nmF, Nat.mod_one]
  | succ n ih =>
    intro a
    have e : nmF a (be (n + 1) (v : Int)) = nmF (a * 256 + ((v : Int) / 256 ^ n) % 256) (be n (v : Int)) := rfl
    rw [e, ih]
    have h1 : ((v : Int) / 256 ^ n) % 256 = ((v / 256 ^ n % 256 : Nat) : Int) := by rw [pw]; rfl
    rw [h1, Nat.pow_succ, nat_mod_split]
    have h2 : (256 : Int) ^ (n + 1) = 256 ^ n * 256 := Int.pow_succ ..
    rw [h2, Int.natCast_add, Int.natCast_mul, ← pw, Int.add_mul, Int.mul_assoc, Int.mul_comm (256 : Int) (256 ^ n), Int.add_assoc]
theorem nm_be (n : Nat) (v : Int) (h0 : 0 ≤ v) (h1 : v < 256 ^ n) : nm (be n v) = v := by
  obtain ⟨m, rfl⟩ := Int.eq_ofNat_of_zero_le h0
  unfold nm
  rw [nmF_be, Int.zero_mul, Int.zero_add, Nat.mod_eq_of_lt]
  have : ((m : Nat) : Int) < ((256 ^ n : Nat) : Int) := by rw [← pw]; exact h1
  exact Int.ofNat_lt.1 this
theorem nmF_append (a : Int) (l r : List Int) : nmF a (l ++ r) = nmF (nmF a l) r := by simp [nmF]
theorem nmF_bound (l : List Int) (hl : Bytes8 l) : ∀ a : Int, a * 256 ^ l.length ≤ nmF a l ∧ nmF a l < (a + 1) * 256 ^ l.length := by
  induction l with
  | nil => intro a; simp [nmF]; omega
  | cons x l ih =>
    intro a
    have hx := hl x (by simp)
    have := ih (fun y hy => hl y (List.mem_cons_of_mem _ hy)) (a * 256 + x)
    have e : nmF a (x :: l) = nmF (a * 256 + x) l := rfl
    rw [e, List.length_cons]
    have hp : (0 : Int) < 256 ^ l.length := pw_pos _
    have h2 : (256 : Int) ^ (l.length + 1) = 256 * 256 ^ l.length := by rw [Int.pow_succ, Int.mul_comm]
    rw [h2, ← Int.mul_assoc, ← Int.mul_assoc]
    have h3 : a * 256 * 256 ^ l.length ≤ (a * 256 + x) * 256 ^ l.length := Int.mul_le_mul_of_nonneg_right (by omega) (Int.le_of_lt hp)
    have h4 : (a * 256 + x + 1) * 256 ^ l.length ≤ (a + 1) * 256 * 256 ^ l.length := Int.mul_le_mul_of_nonneg_right (by omega) (Int.le_of_lt hp)
    omega
theorem nm_range {l : List Int} (hl : Bytes8 l) : 0 ≤ nm l ∧ nm l < 256 ^ l.length := by
  have := nmF_bound l hl 0
  simp at this
  exact this
theorem be_nmF (l : List Int) (hl : Bytes8 l) : ∀ a : Int, 0 ≤ a → be l.length (nmF a l) = l := by
  induction l with
  | nil => intro a _; rfl
  | cons x l ih =>
    intro a ha
    have hx := hl x (by simp)
    have hl' : Bytes8 l := fun y hy => hl y (List.mem_cons_of_mem _ hy)
    have e : nmF a (x :: l) = nmF (a * 256 + x) l := rfl
    rw [e, List.length_cons, be, ih hl' _ (by omega)]
    have hb := nmF_bound l hl' (a * 256 + x)
    have hp : (0 : Int) < 256 ^ l.length := pw_pos _
    have hd : nmF (a * 256 + x) l / 256 ^ l.length = a * 256 + x := by
      apply Int.le_antisymm
      · have := Int.ediv_lt_of_lt_mul hp hb.2; omega
      · exact (Int.le_ediv_iff_mul_le hp).2 hb.1
    rw [hd]
    congr 1
    omega
theorem be_nm (l : List Int) (hl : Bytes8 l) : be l.length (nm l) = l := be_nmF l hl 0 (by omega)
theorem be_inj {n : Nat} {u v : Int} (hu : 0 ≤ u ∧ u < 256 ^ n) (hv : 0 ≤ v ∧ v < 256 ^ n) (h : be n u = be n v) : u = v := by
  rw [← nm_be n u hu.1 hu.2, h, nm_be n v hv.1 hv.2]
theorem nm_inj {l r : List Int} (hl : Bytes8 l) (hr : Bytes8 r) (hlen : l.length = r.length) (h : nm l = nm r) : l = r := by
  rw [← be_nm l hl, ← be_nm r hr, h, hlen]
end Be

section Loops
open Go.Proofs.Ytffdonpkmnngpaa.Crc
theorem shr_byte (K : IntKind) (hK : K.bits = 64) (v : Int) (n : Nat) (hn : n < 8) : shr K v (wrap64 (8 * (n : Int))) = v / 256 ^ n := by
  unfold shr
  rw [hK, show wrap64 (8 * (n : Int)) = 8 * (n : Int) from by unfold wrap64; omega, show (8 * (n : Int)).toNat = 8 * n from by omega, Nat.min_eq_left (by omega), Int.pow_mul]
  rfl
/-- A loop that puts a number's bytes, the highest first. -/
theorem put_loop {L : Nat → List Int → Int → Int → Option (List Int)} (K : IntKind) (hK : K.bits = 64)
    (hL : ∀ k b v i, L (k + 1) b v i = if i ≥ 0 then (if 0 ≤ (wrap64 (8 * i)) then (if b.length < 140737488355328 then (L k (b ++ [(shr K v (wrap64 (8 * i))) % 256]) v (wrap64 (i - 1))) else (none)) else (none)) else (some b)) (v : Int) :
    ∀ (n k : Nat) (b : List Int), n ≤ 8 → n + 1 ≤ k → b.length + n ≤ 140737488355328 → L k b v ((n : Int) - 1) = some (b ++ be n v)
  | 0, k, b, _, hk, _ => by
    obtain ⟨k, rfl⟩ : ∃ m, k = m + 1 := ⟨k - 1, by omega⟩
    rw [hL, if_neg (by omega)]; simp [be]
  | n + 1, k, b, hn, hk, hb => by
    obtain ⟨k, rfl⟩ : ∃ m, k = m + 1 := ⟨k - 1, by omega⟩
    rw [show (((n + 1 : Nat) : Int) - 1) = (n : Int) from by omega, hL, if_pos (by omega), if_pos (by unfold wrap64; omega), if_pos (by omega), shr_byte K hK v n (by omega), show wrap64 ((n : Int) - 1) = (n : Int) - 1 from by unfold wrap64; omega,
      put_loop K hK hL v n k _ (by omega) (by omega) (by simp only [List.length_append, List.length_cons, List.length_nil]; omega)]
    simp [be]
theorem or64 (x y : Int) (hx0 : 0 ≤ x) (hx1 : x < 72057594037927936) (hy0 : 0 ≤ y) (hy1 : y < 256) : Go.bits .or .u64 (x * 256) y = x * 256 + y :=
  Go.bits_join .u64 64 (by decide) (fun n h0 h1 => by rw [Go.IntKind.wrap_u64]; omega) 8 (x * 256) y (by omega) (by omega) (by omega) hy0 (by omega) (by omega)
theorem wrap_u64' (x : Int) (h0 : 0 ≤ x) (h1 : x < 18446744073709551616) : IntKind.u64.wrap x = x := by rw [Go.IntKind.wrap_u64]; omega
theorem ofInt64_congr {x y : Int} (h : x % 18446744073709551616 = y % 18446744073709551616) : BitVec.ofInt 64 x = BitVec.ofInt 64 y := by
  apply BitVec.eq_of_toNat_eq
  rw [BitVec.toNat_ofInt, BitVec.toNat_ofInt]
  show (x % (18446744073709551616 : Int)).toNat = (y % (18446744073709551616 : Int)).toNat
  rw [h]
theorem or_i64 (X X' Y Y' : Int) (hx : X % 18446744073709551616 = X' % 18446744073709551616) (hy : Y % 18446744073709551616 = Y' % 18446744073709551616) : Go.bits .or .i64 X Y = wrap64 (Go.bits .or .u64 X' Y') := by
  have e1 : Go.bits .or .i64 X Y = IntKind.i64.wrap ((BitVec.ofInt 64 X ||| BitVec.ofInt 64 Y).toNat : Int) := rfl
  have e2 : Go.bits .or .u64 X' Y' = IntKind.u64.wrap ((BitVec.ofInt 64 X' ||| BitVec.ofInt 64 Y').toNat : Int) := rfl
  have hb := (BitVec.ofInt 64 X' ||| BitVec.ofInt 64 Y').isLt
  rw [e1, e2, ofInt64_congr hx, ofInt64_congr hy, wrap_u64' _ (by omega) (by omega)]
  exact i64_w _
theorem rd_at (l : List Int) (j : Nat) (hl : j < l.length) : rd l (j : Int) = l[j] := by simp [rd, List.getD_eq_getElem?_getD, List.getElem?_eq_getElem hl]
theorem nm_take_succ (l : List Int) (i : Nat) (hi : i < l.length) : nm (l.take (i + 1)) = nm (l.take i) * 256 + l[i] := by
  rw [List.take_succ_eq_append_getElem hi]; unfold nm; rw [nmF_append]; rfl
theorem nm_small {l : List Int} (hl : Bytes8 l) (h : l.length ≤ 7) : 0 ≤ nm l ∧ nm l < 72057594037927936 := by
  have h1 := nm_range hl
  refine ⟨h1.1, Int.lt_of_lt_of_le h1.2 ?_⟩
  have : (256 : Nat) ^ l.length ≤ 256 ^ 7 := Nat.pow_le_pow_right (by decide) h
  rw [pw]
  exact Int.ofNat_le.2 this
theorem nm_u64 {l : List Int} (hl : Bytes8 l) (h : l.length ≤ 8) : 0 ≤ nm l ∧ nm l < 18446744073709551616 := by
  have h1 := nm_range hl
  refine ⟨h1.1, Int.lt_of_lt_of_le h1.2 ?_⟩
  have : (256 : Nat) ^ l.length ≤ 256 ^ 8 := Nat.pow_le_pow_right (by decide) h
  rw [pw]
  exact Int.ofNat_le.2 this
/-- A loop that reads a number, unsigned. -/
theorem num_loop {L : Nat → Int → List Int → Int → Int → Option Int}
    (hL : ∀ k a xs len i, L (k + 1) a xs len i = if i < len then (if 0 ≤ i then (if i < (xs.length : Int) then (L k (Go.bits .or .u64 (IntKind.u64.wrap (a * 256)) (IntKind.u64.wrap (rd xs i))) xs len (wrap64 (i + 1))) else (none)) else (none)) else (some a))
    (l : List Int) (hb : Bytes8 l) (h8 : l.length ≤ 8) : ∀ (n i k : Nat), i + n = l.length → n + 1 ≤ k → L k (nm (l.take i)) l (l.length : Int) (i : Int) = some (nm l)
  | 0, i, k, hi, hk => by
    obtain ⟨k, rfl⟩ : ∃ m, k = m + 1 := ⟨k - 1, by omega⟩
    rw [hL, if_neg (by omega), List.take_of_length_le (by omega)]
  | n + 1, i, k, hi, hk => by
    obtain ⟨k, rfl⟩ : ∃ m, k = m + 1 := ⟨k - 1, by omega⟩
    have hx := hb (l[i]'(by omega)) (List.getElem_mem (by omega))
    have hs := nm_small (l := l.take i) (fun x hx => hb x (List.mem_of_mem_take hx)) (by rw [List.length_take]; omega)
    rw [hL, if_pos (by omega), if_pos (by omega), if_pos (by omega), rd_at l i (by omega), wrap_u64' _ (by omega) (by omega), wrap_u64' _ (by omega) (by omega), or64 _ _ (by omega) (by omega) (by omega) (by omega),
      show wrap64 ((i : Int) + 1) = ((i + 1 : Nat) : Int) from by unfold wrap64; omega, ← nm_take_succ l i (by omega)]
    exact num_loop hL l hb h8 n (i + 1) k (by omega) (by omega)
/-- A loop that reads a number, signed. -/
theorem num_loop_i {L : Nat → Int → List Int → Int → Int → Option Int}
    (hL : ∀ k a xs len i, L (k + 1) a xs len i = if i < len then (if 0 ≤ i then (if i < (xs.length : Int) then (L k (Go.bits .or .i64 (wrap64 (a * 256)) (wrap64 (rd xs i))) xs len (wrap64 (i + 1))) else (none)) else (none)) else (some a))
    (l : List Int) (hb : Bytes8 l) (h8 : l.length ≤ 8) : ∀ (n i k : Nat), i + n = l.length → n + 1 ≤ k → L k (wrap64 (nm (l.take i))) l (l.length : Int) (i : Int) = some (wrap64 (nm l))
  | 0, i, k, hi, hk => by
    obtain ⟨k, rfl⟩ : ∃ m, k = m + 1 := ⟨k - 1, by omega⟩
    rw [hL, if_neg (by omega), List.take_of_length_le (by omega)]
  | n + 1, i, k, hi, hk => by
    obtain ⟨k, rfl⟩ : ∃ m, k = m + 1 := ⟨k - 1, by omega⟩
    have hx := hb (l[i]'(by omega)) (List.getElem_mem (by omega))
    have hs := nm_small (l := l.take i) (fun x hx => hb x (List.mem_of_mem_take hx)) (by rw [List.length_take]; omega)
    rw [hL, if_pos (by omega), if_pos (by omega), if_pos (by omega), rd_at l i (by omega), or_i64 _ (nm (l.take i) * 256) _ (l[i]'(by omega)) (by unfold wrap64; omega) (by unfold wrap64; omega), or64 _ _ (by omega) (by omega) (by omega) (by omega),
      show wrap64 ((i : Int) + 1) = ((i + 1 : Nat) : Int) from by unfold wrap64; omega, ← nm_take_succ l i (by omega)]
    exact num_loop_i hL l hb h8 n (i + 1) k (by omega) (by omega)
end Loops

section Page
open Go.Proofs.Ytffdonpkmnngpaa.Crc
theorem str_back {l : List Int} (hl : Bytes8 l) : bytesOf (strOfNums l) = l := by
  have e : bytesOf (strOfNums l) = l.map fun x => ((UInt8.ofNat x.toNat).toNat : Int) := by simp [bytesOf, strOfNums, Function.comp_def]
  rw [e]
  conv => rhs; rw [← List.map_id l]
  apply List.map_congr_left
  intro x hx
  have := hl x hx
  simp; omega
theorem str_size (l : List Int) : (strOfNums l).size = l.length := by simp [strOfNums, ByteArray.size]
theorem str_eq {a b : List Int} (ha : Bytes8 a) (hb : Bytes8 b) : ((strOfNums a).toList == (strOfNums b).toList) = decide (a = b) := by
  by_cases h : a = b
  · rw [h]; simp
  · rw [decide_eq_false h, beq_eq_false_iff_ne]
    intro h2
    apply h
    have h3 : strOfNums a = strOfNums b := by
      have e : ∀ s : ByteArray, s.toList = s.data.toList := fun s => Go.ByteArray.toList_eq s
      rw [e, e] at h2
      have h4 : (strOfNums a).data = (strOfNums b).data := Array.toList_inj.1 h2
      cases ha' : strOfNums a
      cases hb' : strOfNums b
      rw [ha', hb'] at h4
      simp only at h4
      rw [h4]
    rw [← str_back ha, ← str_back hb, h3]
theorem rd_byte8 {l : List Int} (h : Bytes8 l) (j : Int) : 0 ≤ rd l j ∧ rd l j < 256 := by
  unfold rd
  rw [List.getD_eq_getElem?_getD]
  cases hg : l[j.toNat]? with
  | none => simp
  | some x => exact h x (List.mem_of_getElem? hg)
theorem bytes_part {l : List Int} (h : Bytes8 l) (i j : Nat) : Bytes8 ((l.take i).drop j) := fun x hx => h x (List.mem_of_mem_take (List.mem_of_mem_drop hx))
theorem bytesOf_bytes (s : ByteArray) : Bytes8 (bytesOf s) := fun x hx => by
  obtain ⟨b, _, rfl⟩ := List.mem_map.1 hx
  have := b.toNat_lt
  omega
theorem bytes_small (l : List Int) (h : l.all (fun x => decide (0 ≤ x) && decide (x < 256)) = true) : Bytes8 l := fun x hx => by
  have := List.all_eq_true.1 h x hx
  simpa using this
def bit (b : Bool) : Int := if b = true then 1 else 0
def pageH (kd n li : Int) (s : List Int) (at_ : Int) (bk : Bool) : List Int := be 2 kd ++ be 2 n ++ be 2 li ++ be 1 (bit bk) ++ be 8 at_ ++ s
def pageB (kd n li : Int) (s : List Int) (at_ : Int) (bk : Bool) : List Int := pageH kd n li s at_ bk ++ be 4 (crc (pageH kd n li s at_ bk))
def okP (kd n li : Int) (len : Nat) (at_ : Int) : Bool := decide (0 ≤ kd ∧ kd ≤ 65535 ∧ 0 ≤ n ∧ n ≤ 65535 ∧ 0 ≤ li ∧ li ≤ 65535 ∧ 0 ≤ at_ ∧ len ≤ 16)
theorem pageH_length (kd n li : Int) (s : List Int) (at_ : Int) (bk : Bool) : (pageH kd n li s at_ bk).length = 15 + s.length := by
  simp only [pageH, List.length_append, be_length]
theorem pageB_length (kd n li : Int) (s : List Int) (at_ : Int) (bk : Bool) : (pageB kd n li s at_ bk).length = 19 + s.length := by
  rw [pageB, List.length_append, pageH_length, be_length]; omega
theorem pageH_bytes {kd n li : Int} {s : List Int} {at_ : Int} {bk : Bool} (hs : Bytes8 s) : Bytes8 (pageH kd n li s at_ bk) := fun x hx => by
  simp only [pageH, List.mem_append] at hx
  rcases hx with ((((h | h) | h) | h) | h) | h
  · exact be_bytes _ _ x h
  · exact be_bytes _ _ x h
  · exact be_bytes _ _ x h
  · exact be_bytes _ _ x h
  · exact be_bytes _ _ x h
  · exact hs x h
theorem pageB_bytes {kd n li : Int} {s : List Int} {at_ : Int} {bk : Bool} (hs : Bytes8 s) : Bytes8 (pageB kd n li s at_ bk) := fun x hx => by
  rcases List.mem_append.1 hx with h | h
  · exact pageH_bytes hs x h
  · exact be_bytes _ _ x h
theorem put_be (v : Int) (n k : Nat) (b : List Int) (hn : n ≤ 8) (hk : n + 1 ≤ k) (hb : b.length + n ≤ 140737488355328) : page_put.f k b v (n : Int) = some (b ++ be n v) := by
  unfold page_put.f
  rw [show wrap64 ((n : Int) - 1) = (n : Int) - 1 from by unfold wrap64; omega]
  exact put_loop .u64 rfl (fun k b v i => by rw [page_put.l0]) v n k b hn hk hb
theorem num_eq (l : List Int) (hb : Bytes8 l) (h8 : l.length ≤ 8) (k : Nat) (hk : 9 ≤ k) : page_num.f k l = some (nm l) := by
  unfold page_num.f
  exact num_loop (fun k a xs len i => by rw [page_num.l0]) l hb h8 l.length 0 k (by omega) (by omega)
theorem put_page (kd n li : Int) (s : ByteArray) (at_ : Int) (bk : Bool) (hat : at_ < 18446744073709551616) (k : Nat) (hk : 500 ≤ k) : page_Put.f k kd n li s at_ bk = some (if okP kd n li s.size at_ = true then pageB kd n li (bytesOf s) at_ bk else []) := by
  obtain ⟨k, rfl⟩ : ∃ m, k = m + 2 := ⟨k - 2, by omega⟩
  unfold page_Put.f
  have bad : page_Put.j0 (k + 2) true kd n li s at_ bk = some [] := by rw [page_Put.j0, if_pos rfl]
  by_cases h1 : (mn (mn kd n) li) < 0
  · rw [if_pos h1, bad, if_neg]
    unfold okP mn at *
    simp only [decide_eq_true_eq]
    omega
  · rw [if_neg h1]
    by_cases h2 : (mx (mx kd n) li) > 65535
    · rw [if_pos h2, bad, if_neg]
      unfold okP mx at *
      simp only [decide_eq_true_eq]
      omega
    · rw [if_neg h2]
      by_cases h3 : at_ < 0
      · rw [if_pos h3, bad, if_neg]
        unfold okP
        simp only [decide_eq_true_eq]
        omega
      · rw [if_neg h3]
        by_cases h4 : (s.size : Int) > 16
        · rw [decide_eq_true h4, bad, if_neg]
          unfold okP
          simp only [decide_eq_true_eq]
          omega
        · rw [decide_eq_false h4]
          have hr : 0 ≤ kd ∧ kd ≤ 65535 ∧ 0 ≤ n ∧ n ≤ 65535 ∧ 0 ≤ li ∧ li ≤ 65535 := by unfold mn mx at *; omega
          rw [if_pos (by unfold okP; simp only [decide_eq_true_eq]; omega)]
          have hl := bytesOf_length s
          have j1 : ∀ (t : List Int) (v : Int), t.length = 6 → page_Put.j1 (k + 1) t v kd n li s at_ bk = some (t ++ be 1 v ++ be 8 at_ ++ bytesOf s ++ be 4 (crc (t ++ be 1 v ++ be 8 at_ ++ bytesOf s))) ∨ ¬ Bytes8 (t ++ be 1 v ++ be 8 at_ ++ bytesOf s) := by
            intro t v ht
            by_cases hb : Bytes8 (t ++ be 1 v ++ be 8 at_ ++ bytesOf s)
            · left
              have hc := crc_range (t ++ be 1 v ++ be 8 at_ ++ bytesOf s)
              have e1 : page_put.f k t v 1 = some (t ++ be 1 v) := put_be v 1 k t (by omega) (by omega) (by omega)
              have e2 : page_put.f k (t ++ be 1 v) at_ 8 = some (t ++ be 1 v ++ be 8 at_) := put_be at_ 8 k _ (by omega) (by omega) (by rw [List.length_append, be_length]; omega)
              have hlen : (t ++ be 1 v ++ be 8 at_).length = 15 := by simp only [List.length_append, be_length]; omega
              have hlen2 : (t ++ be 1 v ++ be 8 at_ ++ bytesOf s).length = 15 + s.size := by rw [List.length_append, hlen, hl]
              have e3 : page_put.f k (t ++ be 1 v ++ be 8 at_ ++ bytesOf s) (crc (t ++ be 1 v ++ be 8 at_ ++ bytesOf s)) 4 = some (t ++ be 1 v ++ be 8 at_ ++ bytesOf s ++ be 4 (crc (t ++ be 1 v ++ be 8 at_ ++ bytesOf s))) := put_be _ 4 k _ (by omega) (by omega) (by omega)
              rw [page_Put.j1, e1, Option.bind_some, wrap_u64' at_ (by omega) hat, e2, Option.bind_some, if_pos (by omega), Option.bind_some, sum_crc _ hb (by omega) k (by omega), Option.bind_some, wrap_u64' _ hc.1 (by omega), e3, Option.bind_some]
            · exact .inr hb
          have f1 : page_put.f (k + 1) [] kd 2 = some (be 2 kd) := put_be kd 2 (k + 1) [] (by omega) (by omega) (by simp)
          have f2 : page_put.f (k + 1) (be 2 kd) n 2 = some (be 2 kd ++ be 2 n) := put_be n 2 (k + 1) _ (by omega) (by omega) (by rw [be_length]; omega)
          have f3 : page_put.f (k + 1) (be 2 kd ++ be 2 n) li 2 = some (be 2 kd ++ be 2 n ++ be 2 li) := put_be li 2 (k + 1) _ (by omega) (by omega) (by rw [List.length_append, be_length, be_length]; omega)
          rw [page_Put.j0, if_neg (by decide), wrap_u64' kd (by omega) (by omega), f1, Option.bind_some, wrap_u64' n (by omega) (by omega), f2, Option.bind_some, wrap_u64' li (by omega) (by omega), f3, Option.bind_some]
          have h6 : (be 2 kd ++ be 2 n ++ be 2 li).length = 6 := by simp only [List.length_append, be_length]
          have hH : ∀ bk, Bytes8 (be 2 kd ++ be 2 n ++ be 2 li ++ be 1 (bit bk) ++ be 8 at_ ++ bytesOf s) := fun bk => pageH_bytes (bytesOf_bytes s)
          cases bk with
          | true =>
            rw [if_pos rfl]
            rcases j1 _ 1 h6 with h | h
            · exact h
            · exact absurd (hH true) h
          | false =>
            rw [if_neg (by decide)]
            rcases j1 _ 0 h6 with h | h
            · exact h
            · exact absurd (hH false) h
def none7 : Int × Int × Int × ByteArray × Int × Bool × Int := (0, 0, 0, ⟨#[]⟩, 0, false, 2)
def kdP (b : List Int) : Int := nm (b.take 2)
def nP (b : List Int) : Int := nm ((b.take 4).drop 2)
def liP (b : List Int) : Int := nm ((b.take 6).drop 4)
def atP (b : List Int) : Int := wrap64 (nm ((b.take 15).drop 7))
def nameP (b : List Int) : List Int := (b.take (b.length - 4)).drop 15
def bkP (b : List Int) : Bool := rd b 6 == 1
def goodP (b : List Int) : Prop := 19 ≤ b.length ∧ okP (kdP b) (nP b) (liP b) (nameP b).length (atP b) = true ∧ pageB (kdP b) (nP b) (liP b) (nameP b) (atP b) (bkP b) = b
instance (b : List Int) : Decidable (goodP b) := by unfold goodP; exact inferInstance
def takeP (b : List Int) : Int × Int × Int × ByteArray × Int × Bool × Int := if goodP b then (kdP b, nP b, liP b, strOfNums (nameP b), atP b, bkP b, 0) else none7
theorem small2 {l : List Int} (hb : Bytes8 l) (h : l.length = 2) : 0 ≤ nm l ∧ nm l < 65536 := by
  have := nm_range hb
  rw [h] at this
  exact this
theorem take_page (b : List Int) (hb : Bytes8 b) (hl : b.length ≤ 140737488350000) (k : Nat) (hk : 500 ≤ k) : page_Take.f k b = some (takeP b) := by
  unfold page_Take.f takeP
  by_cases h : (b.length : Int) < 19
  · rw [if_pos h, if_neg (fun hg => by have := hg.1; omega)]; rfl
  · rw [if_neg h]
    have hb0 : Bytes8 (b.take 2) := fun x hx => hb x (List.mem_of_mem_take hx)
    have l1 : (b.take 2).length = 2 := by rw [List.length_take]; omega
    have l2 : ((b.take 4).drop 2).length = 2 := by rw [List.length_drop, List.length_take]; omega
    have l3 : ((b.take 6).drop 4).length = 2 := by rw [List.length_drop, List.length_take]; omega
    have l4 : ((b.take 15).drop 7).length = 8 := by rw [List.length_drop, List.length_take]; omega
    have s1 := small2 hb0 l1
    have s2 := small2 (bytes_part hb 4 2) l2
    have s3 := small2 (bytes_part hb 6 4) l3
    have hn : Bytes8 (nameP b) := bytes_part hb _ _
    have w1 : wrap64 (nm (b.take 2)) = kdP b := by unfold kdP wrap64; omega
    have w2 : wrap64 (nm ((b.take 4).drop 2)) = nP b := by unfold nP wrap64; omega
    have w3 : wrap64 (nm ((b.take 6).drop 4)) = liP b := by unfold liP wrap64; omega
    have hat : atP b < 18446744073709551616 := by unfold atP wrap64; omega
    rw [num_eq _ hb0 (by omega) k (by omega), Option.bind_some, num_eq _ (bytes_part hb 4 2) (by omega) k (by omega), Option.bind_some, num_eq _ (bytes_part hb 6 4) (by omega) k (by omega), Option.bind_some, num_eq _ (bytes_part hb 15 7) (by omega) k (by omega), Option.bind_some, w1, w2, w3]
    change (page_Put.f k (kdP b) (nP b) (liP b) (strOfNums (nameP b)) (atP b) (bkP b)).bind _ = _
    rw [put_page _ _ _ _ _ _ hat k hk, Option.bind_some, str_size, str_back hn]
    by_cases ho : okP (kdP b) (nP b) (liP b) (nameP b).length (atP b) = true
    · rw [if_pos ho]
      unfold bytes_Equal.f
      rw [Option.bind_some, str_eq (pageB_bytes hn) hb]
      by_cases he : pageB (kdP b) (nP b) (liP b) (nameP b) (atP b) (bkP b) = b
      · rw [if_pos (decide_eq_true he), if_pos ⟨by omega, ho, he⟩]; rfl
      · rw [if_neg (by rw [decide_eq_false he]; decide), if_neg (fun hg => he hg.2.2)]; rfl
    · rw [if_neg ho]
      unfold bytes_Equal.f
      rw [Option.bind_some, str_eq (bytes_small [] rfl) hb]
      have hne : ¬ ([] : List Int) = b := fun h0 => by rw [← h0] at h; simp at h
      rw [if_neg (by rw [decide_eq_false hne]; decide), if_neg (fun hg => ho hg.2.1)]; rfl
section
variable (kd n li : Int) (s : List Int) (at_ : Int) (bk : Bool)
theorem take_front (z : List Int) : (pageH kd n li s at_ bk ++ z).take 2 = be 2 kd := by
  have : pageH kd n li s at_ bk ++ z = be 2 kd ++ (be 2 n ++ be 2 li ++ be 1 (bit bk) ++ be 8 at_ ++ s ++ z) := by simp [pageH]
  rw [this, List.take_append_of_le_length (by rw [be_length]; omega), List.take_of_length_le (by rw [be_length]; omega)]
theorem take_mid {a m z : List Int} {i j : Nat} (ha : a.length = i) (hm : (a ++ m).length = j) : ((a ++ m ++ z).take j).drop i = m := by
  rw [List.take_append_of_le_length (by omega), List.take_of_length_le (by omega), ← ha, List.drop_left]
theorem parts (hk : 0 ≤ kd ∧ kd ≤ 65535) (hn : 0 ≤ n ∧ n ≤ 65535) (hl : 0 ≤ li ∧ li ≤ 65535) (ha : 0 ≤ at_ ∧ at_ < 9223372036854775808) :
    kdP (pageB kd n li s at_ bk) = kd ∧ nP (pageB kd n li s at_ bk) = n ∧ liP (pageB kd n li s at_ bk) = li ∧ nameP (pageB kd n li s at_ bk) = s ∧ atP (pageB kd n li s at_ bk) = at_ ∧ bkP (pageB kd n li s at_ bk) = bk := by
  generalize hz : be 4 (crc (pageH kd n li s at_ bk)) = z
  have hB : pageB kd n li s at_ bk = pageH kd n li s at_ bk ++ z := by rw [pageB, hz]
  have lz : z.length = 4 := by rw [← hz, be_length]
  have v2 : ∀ v : Int, 0 ≤ v ∧ v ≤ 65535 → nm (be 2 v) = v := fun v hv => nm_be 2 v hv.1 (by omega)
  rw [hB]
  refine ⟨?_, ?_, ?_, ?_, ?_, ?_⟩
  · rw [kdP, take_front, v2 _ hk]
  · have e : pageH kd n li s at_ bk ++ z = be 2 kd ++ be 2 n ++ (be 2 li ++ be 1 (bit bk) ++ be 8 at_ ++ s ++ z) := by simp [pageH]
    rw [nP, e, take_mid (be_length _ _) (by simp only [List.length_append, be_length]), v2 _ hn]
  · have e : pageH kd n li s at_ bk ++ z = (be 2 kd ++ be 2 n) ++ be 2 li ++ (be 1 (bit bk) ++ be 8 at_ ++ s ++ z) := by simp [pageH]
    rw [liP, e, take_mid (by simp only [List.length_append, be_length]) (by simp only [List.length_append, be_length]), v2 _ hl]
  · have e : pageH kd n li s at_ bk ++ z = (be 2 kd ++ be 2 n ++ be 2 li ++ be 1 (bit bk) ++ be 8 at_) ++ s ++ z := by simp [pageH]
    rw [nameP, e, take_mid (by simp only [List.length_append, be_length]) (by simp only [List.length_append, be_length]; omega)]
  · have e : pageH kd n li s at_ bk ++ z = (be 2 kd ++ be 2 n ++ be 2 li ++ be 1 (bit bk)) ++ be 8 at_ ++ (s ++ z) := by simp [pageH]
    rw [atP, e, take_mid (by simp only [List.length_append, be_length]) (by simp only [List.length_append, be_length]), nm_be 8 at_ ha.1 (by omega)]
    unfold wrap64; omega
  · have e : pageH kd n li s at_ bk ++ z = (be 2 kd ++ be 2 n ++ be 2 li) ++ (bit bk % 256 :: (be 8 at_ ++ s ++ z)) := by simp [pageH, be]
    have h6 : (be 2 kd ++ be 2 n ++ be 2 li).length = 6 := by simp only [List.length_append, be_length]
    rw [bkP, e, rd, show (6 : Int).toNat = 6 from rfl, List.getD_eq_getElem?_getD, List.getElem?_append_right (by omega), h6]
    cases bk <;> rfl
theorem take_back (hk : 0 ≤ kd ∧ kd ≤ 65535) (hn : 0 ≤ n ∧ n ≤ 65535) (hl : 0 ≤ li ∧ li ≤ 65535) (ha : 0 ≤ at_ ∧ at_ < 9223372036854775808) (h16 : s.length ≤ 16) : takeP (pageB kd n li s at_ bk) = (kd, n, li, strOfNums s, at_, bk, 0) := by
  obtain ⟨e1, e2, e3, e4, e5, e6⟩ := parts kd n li s at_ bk hk hn hl ha
  unfold takeP
  rw [if_pos ?_, e1, e2, e3, e4, e5, e6]
  unfold goodP
  rw [e1, e2, e3, e4, e5, e6, pageB_length]
  exact ⟨by omega, by unfold okP; simp only [decide_eq_true_eq]; omega, rfl⟩
end
theorem take_turned (kd n li : Int) (s : List Int) (at_ : Int) (bk : Bool) (hs : Bytes8 s) (i : Nat) (hi : i < 19 + s.length) (y : Int) (hy : 0 ≤ y ∧ y < 256) (hne : y ≠ (pageB kd n li s at_ bk)[i]'(by rw [pageB_length]; exact hi)) : takeP ((pageB kd n li s at_ bk).set i y) = none7 := by
  have hS := pageB_length kd n li s at_ bk
  have hH := pageH_length kd n li s at_ bk
  have hBH := pageH_bytes (kd := kd) (n := n) (li := li) (at_ := at_) (bk := bk) hs
  unfold takeP
  rw [if_neg]
  rintro ⟨_, _, he⟩
  have hnl : (nameP ((pageB kd n li s at_ bk).set i y)).length = s.length := by
    rw [nameP, List.length_drop, List.length_take, List.length_set, hS]; omega
  generalize kdP ((pageB kd n li s at_ bk).set i y) = kd' at he
  generalize nP ((pageB kd n li s at_ bk).set i y) = n' at he
  generalize liP ((pageB kd n li s at_ bk).set i y) = li' at he
  generalize nameP ((pageB kd n li s at_ bk).set i y) = s' at he hnl
  generalize atP ((pageB kd n li s at_ bk).set i y) = at' at he
  generalize bkP ((pageB kd n li s at_ bk).set i y) = bk' at he
  have hH' := pageH_length kd' n' li' s' at' bk'
  by_cases h4 : i < 15 + s.length
  · have e1 : (pageB kd n li s at_ bk).set i y = (pageH kd n li s at_ bk).set i y ++ be 4 (crc (pageH kd n li s at_ bk)) := by rw [pageB, List.set_append_left _ _ (by omega)]
    rw [e1, pageB] at he
    have e2 := List.append_inj he (by rw [hH', List.length_set, hH, hnl])
    have e3 : crc (pageH kd n li s at_ bk) = crc ((pageH kd n li s at_ bk).set i y) := by
      rw [← e2.1]
      exact (be_inj (n := 4) ⟨(crc_range _).1, (crc_range _).2⟩ ⟨(crc_range _).1, (crc_range _).2⟩ e2.2).symm
    have e4 := (crc_set (pageH kd n li s at_ bk) i (by omega) hBH y hy.1 hy.2).1 e3.symm
    apply hne
    rw [e4]
    simp only [pageB]
    rw [List.getElem_append_left]
  · have e1 : (pageB kd n li s at_ bk).set i y = pageH kd n li s at_ bk ++ (be 4 (crc (pageH kd n li s at_ bk))).set (i - (15 + s.length)) y := by rw [pageB, List.set_append_right _ _ (by omega), hH]
    rw [e1, pageB] at he
    have e2 := List.append_inj he (by rw [hH', hH, hnl])
    rw [e2.1] at e2
    have e3 := e2.2
    have hlen := be_length 4 (crc (pageH kd n li s at_ bk))
    have e5 : (be 4 (crc (pageH kd n li s at_ bk)))[i - (15 + s.length)]'(by omega) = y := by
      have : ((be 4 (crc (pageH kd n li s at_ bk))).set (i - (15 + s.length)) y)[i - (15 + s.length)]'(by rw [List.length_set]; omega) = y := List.getElem_set_self ..
      rw [← this]
      congr 1
    apply hne
    rw [← e5]
    simp only [pageB]
    rw [List.getElem_append_right (by omega)]
    simp only [hH]
theorem take_long (b : List Int) (h : 35 < b.length) : takeP b = none7 := by
  unfold takeP
  rw [if_neg]
  rintro ⟨_, h2, _⟩
  unfold okP at h2
  simp only [decide_eq_true_eq] at h2
  have : (nameP b).length = b.length - 4 - 15 := by rw [nameP, List.length_drop, List.length_take]; omega
  omega
theorem takeP_or (b : List Int) : (takeP b).2.2.2.2.2.2 = 0 ∨ takeP b = none7 := by
  unfold takeP
  split
  · exact .inl rfl
  · exact .inr rfl
end Page

open Go.Proofs.Ytffdonpkmnngpaa.Crc
theorem begun_true (k : Nat) (hk : 600 ≤ k) : pandectlaw21_begun.f k = some true :=
  at_rounds (g := pandectlaw21_begun.f) pandectlaw21_begun.mono hk (by decide +kernel)
theorem wf_u16 {a : Int} (h : (Lit.int .u16 a).wf = true) : 0 ≤ a ∧ a ≤ 65535 := by
  simp [Lit.wf, IntKind.min, IntKind.max, IntKind.signed, IntKind.bits] at h
  omega
theorem wf_u8 {a : Int} (h : (Lit.int .u8 a).wf = true) : 0 ≤ a ∧ a < 256 := by
  simp [Lit.wf, IntKind.min, IntKind.max, IntKind.signed, IntKind.bits] at h
  omega
theorem wf_i64 {a : Int} (h : (Lit.int .i64 a).wf = true) : -9223372036854775808 ≤ a ∧ a ≤ 9223372036854775807 := by
  simp [Lit.wf, IntKind.min, IntKind.max, IntKind.signed, IntKind.bits] at h
  omega
theorem join (k : Nat) (hk : 700 ≤ k) (kd n li : Int) (s : ByteArray) (at_ : Int) (bk : Bool) (wh by_ : Int) (hkd : 0 ≤ kd ∧ kd ≤ 65535) (hn : 0 ≤ n ∧ n ≤ 65535) (hl : 0 ≤ li ∧ li ≤ 65535) (ha : 0 ≤ at_ ∧ at_ < 9223372036854775808) (hs : s.size ≤ 16) (hw : 0 ≤ wh ∧ wh < 256) (hby : 0 ≤ by_ ∧ by_ < 256) :
    pandectlaw21_PageBack.j0 (k + 1) kd n li s at_ bk wh by_ false = some true := by
  have hsl := bytesOf_length s
  have hsb := bytesOf_bytes s
  generalize hB : pageB kd n li (bytesOf s) at_ bk = B
  have hBl : B.length = 19 + s.size := by rw [← hB, pageB_length, hsl]
  have hBB : Bytes8 B := by rw [← hB]; exact pageB_bytes hsb
  have hp : page_Put.f k (wrap64 kd) (wrap64 n) (wrap64 li) s at_ bk = some B := by
    rw [show wrap64 kd = kd from by unfold wrap64; omega, show wrap64 n = n from by unfold wrap64; omega, show wrap64 li = li from by unfold wrap64; omega, put_page _ _ _ _ _ _ (by omega) k (by omega), if_pos (by unfold okP; simp only [decide_eq_true_eq]; omega), hB]
  have hback : takeP B = (kd, n, li, s, at_, bk, 0) := by
    rw [← hB, take_back kd n li (bytesOf s) at_ bk hkd hn hl ha (by omega)]
    have e : strOfNums (bytesOf s) = s := by
      have h1 : bytesOf (strOfNums (bytesOf s)) = bytesOf s := str_back hsb
      have h2 : (strOfNums (bytesOf s)).data = s.data := by
        apply Array.toList_inj.1
        have h3 : ∀ a b : List UInt8, a.map (fun c => ((c.toNat : Nat) : Int)) = b.map (fun c => ((c.toNat : Nat) : Int)) → a = b := by
          intro a
          induction a with
          | nil => intro b h; cases b with
            | nil => rfl
            | cons => simp at h
          | cons x a ih => intro b h; cases b with
            | nil => simp at h
            | cons y b =>
              simp only [List.map_cons, List.cons.injEq] at h
              rw [ih b h.2, show x = y from UInt8.toNat_inj.1 (by have := h.1; omega)]
        exact h3 _ _ h1
      cases hh : strOfNums (bytesOf s)
      cases s
      rw [hh] at h2
      simp only at h2
      rw [h2]
    rw [e]
  rw [pandectlaw21_PageBack.j0, if_neg (by decide), hp, Option.bind_some, show wrap64 (19 + (s.size : Int)) = 19 + (s.size : Int) from by unfold wrap64; omega, if_pos (by omega), take_page B hBB (by omega) k (by omega), Option.bind_some, Option.bind_some, List.nil_append, if_pos (by simp; omega), Option.bind_some, if_neg (by omega), show wrap64 wh = wh from by unfold wrap64; omega]
  have hm : Int.tmod wh (B.length : Int) = ((wh.toNat % B.length : Nat) : Int) := by
    rw [Int.tmod_eq_emod_of_nonneg hw.1]
    obtain ⟨m, rfl⟩ := Int.eq_ofNat_of_zero_le hw.1
    rfl
  have hlt : wh.toNat % B.length < B.length := Nat.mod_lt _ (by omega)
  generalize wh.toNat % B.length = i at hm hlt
  rw [hm, if_pos (by omega), if_pos (by omega), Int.toNat_natCast, rd_at B i hlt]
  have hx := hBB B[i] (List.getElem_mem hlt)
  have hy := bx8_bytes B[i] by_ hx hby
  have hC : Bytes8 (B.set i (Go.bits .xor .u8 B[i] by_)) := fun x hx => by
    rcases List.mem_or_eq_of_mem_set hx with h | h
    · exact hBB x h
    · rw [h]; exact hy.1
  have hD : Bytes8 (B ++ [by_]) := fun x hx => by
    rcases List.mem_append.1 hx with h | h
    · exact hBB x h
    · rw [List.mem_singleton.1 h]; exact hby
  rw [take_page _ hC (by rw [List.length_set]; omega) k (by omega), Option.bind_some, Option.bind_some, List.nil_append, if_pos (by simp; omega), Option.bind_some, if_pos (by omega), take_page _ hD (by simp; omega) k (by omega), Option.bind_some, hback]
  rw [if_pos rfl, show wrap64 kd = kd from by unfold wrap64; omega, show wrap64 n = n from by unfold wrap64; omega, show wrap64 li = li from by unfold wrap64; omega, if_pos (by simp)]
  have h2 : (((takeP (B.set i (Go.bits .xor .u8 B[i] by_))).2.2.2.2.2.2 == 0) == (by_ == 0)) = true := by
    by_cases h0 : by_ = 0
    · have e0 : Go.bits .xor .u8 B[i] by_ = B[i] := (bx8_zero B[i] by_ hx hby).2 h0
      rw [e0, List.set_getElem_self, hback, h0]; rfl
    · have hne : Go.bits .xor .u8 B[i] by_ ≠ B[i] := fun h => h0 ((bx8_zero B[i] by_ hx hby).1 h)
      subst hB
      rw [take_turned kd n li (bytesOf s) at_ bk hsb i (by omega) _ hy.1 hne]
      rw [beq_eq_false_iff_ne.2 h0]; rfl
  rw [if_pos h2]
  by_cases h16 : s.size < 16
  · rw [decide_eq_true (show (s.size : Int) < 16 by omega)]
    split <;> rfl
  · rw [take_long (B ++ [by_]) (by simp; omega), if_pos (show none7.2.2.2.2.2.2 = 2 from rfl)]
theorem PageBack : pandectlaw21_PageBack.Pure := by
  intro kd n li s at_ bk wh by_ h1 h2 h3 hs h4 h5 h6
  have w1 := wf_u16 h1
  have w2 := wf_u16 h2
  have w3 := wf_u16 h3
  have w4 := wf_i64 h4
  have w5 := wf_u8 h5
  have w6 := wf_u8 h6
  refine ⟨701, ?_⟩
  unfold pandectlaw21_PageBack.f
  rw [begun_true _ (by omega), Option.bind_some, if_pos rfl]
  by_cases c1 : (s.size : Int) > 16
  · rw [if_pos c1, pandectlaw21_PageBack.j0, if_pos rfl]
  · rw [if_neg c1]
    by_cases c2 : at_ < 0
    · rw [decide_eq_true c2, pandectlaw21_PageBack.j0, if_pos rfl]
    · rw [decide_eq_false c2]
      exact join 700 (by omega) kd n li s at_ bk wh by_ w1 w2 w3 ⟨by omega, by omega⟩ (by omega) w5 w6

end Go.Proofs.Ytffdonpkmnngpaa.Pure
