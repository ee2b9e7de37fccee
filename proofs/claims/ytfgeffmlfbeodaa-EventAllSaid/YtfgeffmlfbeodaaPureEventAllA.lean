/- EventAll, plain laws: events, and their bytes, are as the document says. No condition. -/
import Derived.Test.YtfgeffmlfbeodaaEAll
import Derived.Test.YtfgeffmlfbeodaaCrc
namespace Go.Proofs.Ytfgeffmlfbeodaa.Pure
open Go.RowKit Go.Proofs.Ytfgeffmlfbeodaa.PEventAll Go.Proofs.YtfgeffmlfbeodaaW.PrintWords Go.Proofs.YtfgeffmlfbeodaaW.PrintLast
set_option linter.unusedVariables false
section Be
open Go.Proofs.Ytfgeffmlfbeodaa.Crc
/-- A number in so many bytes, the highest first. -/
def be : Nat → Int → List Int
  | 0, _ => []
  | n + 1, v => (v / 256 ^ n) % 256 :: be n v
def nmF (a : Int) (l : List Int) : Int := l.foldl (fun a c => a * 256 + c) a
def nm (l : List Int) : Int := nmF 0 l
theorem be_length (n : Nat) (v : Int) : (be n v).length = n := by
  induction n with
  | zero => rfl
  | succ n ih => simp [be, ih]
theorem be_bytes (n : Nat) (v : Int) : Bytes8 (be n v) := by
  induction n with
  | zero => intro x hx; simp [be] at hx
  | succ n ih =>
    intro x hx
    rcases List.mem_cons.1 hx with rfl | h
    · exact ⟨Int.emod_nonneg _ (by decide), Int.emod_lt_of_pos _ (by decide)⟩
    · exact ih x h
theorem nat_mod_split (v m : Nat) : v % (m * 256) = (v / m % 256) * m + v % m := by
  rw [Nat.mod_mul, Nat.mul_comm m, Nat.add_comm]
theorem pw (n : Nat) : (256 : Int) ^ n = ((256 ^ n : Nat) : Int) := by rw [Int.natCast_pow]; rfl
theorem pw_pos (n : Nat) : (0 : Int) < 256 ^ n := Int.pow_pos (by decide)
theorem nmF_be (n : Nat) (v : Nat) : ∀ a : Int, nmF a (be n (v : Int)) = a * 256 ^ n + ((v % 256 ^ n : Nat) : Int) := by
  induction n with
  | zero => intro a; simp [be, nmF, Nat.mod_one]
  | succ n ih =>
    intro a
    have e : nmF a (be (n + 1) (v : Int)) = nmF (a * 256 + ((v : Int) / 256 ^ n) % 256) (be n (v : Int)) := rfl
    rw [e, ih]
    have h1 : ((v : Int) / 256 ^ n) % 256 = ((v / 256 ^ n % 256 : Nat) : Int) := by rw [pw]; rfl
    rw [h1, Nat.pow_succ, nat_mod_split]
    have h2 : (256 : Int) ^ (n + 1) = 256 ^ n * 256 := Int.pow_succ ..
    rw [h2, Int.natCast_add, Int.natCast_mul, ← pw, Int.add_mul, Int.mul_assoc, Int.mul_comm (256 : Int) (256 ^ n), Int.add_assoc]
theorem nm_be (n : Nat) (v : Int) (h0 : 0 ≤ v) (h1 : v < 256 ^ n) : nm (be n v) = v := by
  obtain ⟨m, rfl⟩ := Int.eq_ofNat_of_zero_le h0
  unfold nm
  rw [nmF_be, Int.zero_mul, Int.zero_add, Nat.mod_eq_of_lt]
  have : ((m : Nat) : Int) < ((256 ^ n : Nat) : Int) := by rw [← pw]; exact h1
  exact Int.ofNat_lt.1 this
theorem nmF_append (a : Int) (l r : List Int) : nmF a (l ++ r) = nmF (nmF a l) r := by simp [nmF]
theorem nmF_bound (l : List Int) (hl : Bytes8 l) : ∀ a : Int, a * 256 ^ l.length ≤ nmF a l ∧ nmF a l < (a + 1) * 256 ^ l.length := by
  induction l with
  | nil => intro a; simp [nmF]; omega
  | cons x l ih =>
    intro a
    have hx := hl x (by simp)
    have := ih (fun y hy => hl y (List.mem_cons_of_mem _ hy)) (a * 256 + x)
    have e : nmF a (x :: l) = nmF (a * 256 + x) l := rfl
    rw [e, List.length_cons]
    have hp : (0 : Int) < 256 ^ l.length := pw_pos _
    have h2 : (256 : Int) ^ (l.length + 1) = 256 * 256 ^ l.length := by rw [Int.pow_succ, Int.mul_comm]
    rw [h2, ← Int.mul_assoc, ← Int.mul_assoc]
    have h3 : a * 256 * 256 ^ l.length ≤ (a * 256 + x) * 256 ^ l.length := Int.mul_le_mul_of_nonneg_right (by omega) (Int.le_of_lt hp)
    have h4 : (a * 256 + x + 1) * 256 ^ l.length ≤ (a + 1) * 256 * 256 ^ l.length := Int.mul_le_mul_of_nonneg_right (by omega) (Int.le_of_lt hp)
    omega
theorem nm_range {l : List Int} (hl : Bytes8 l) : 0 ≤ nm l ∧ nm l < 256 ^ l.length := by
  have := nmF_bound l hl 0
  simp at this
  exact this
theorem be_nmF (l : List Int) (hl : Bytes8 l) : ∀ a : Int, 0 ≤ a → be l.length (nmF a l) = l := by
  induction l with
  | nil => intro a _; rfl
  | cons x l ih =>
    intro a ha
    have hx := hl x (by simp)
    have hl' : Bytes8 l := fun y hy => hl y (List.mem_cons_of_mem _ hy)
    have e : nmF a (x :: l) = nmF (a * 256 + x) l := rfl
    rw [e, List.length_cons, be, ih hl' _ (by omega)]
    have hb := nmF_bound l hl' (a * 256 + x)
    have hp : (0 : Int) < 256 ^ l.length := pw_pos _
    have hd : nmF (a * 256 + x) l / 256 ^ l.length = a * 256 + x := by
      apply Int.le_antisymm
      · have := Int.ediv_lt_of_lt_mul hp hb.2; omega
      · exact (Int.le_ediv_iff_mul_le hp).2 hb.1
    rw [hd]
    congr 1
    omega
theorem be_nm (l : List Int) (hl : Bytes8 l) : be l.length (nm l) = l := be_nmF l hl 0 (by omega)
theorem be_inj {n : Nat} {u v : Int} (hu : 0 ≤ u ∧ u < 256 ^ n) (hv : 0 ≤ v ∧ v < 256 ^ n) (h : be n u = be n v) : u = v := by
  rw [← nm_be n u hu.1 hu.2, h, nm_be n v hv.1 hv.2]
theorem nm_inj {l r : List Int} (hl : Bytes8 l) (hr : Bytes8 r) (hlen : l.length = r.length) (h : nm l = nm r) : l = r := by
  rw [← be_nm l hl, ← be_nm r hr, h, hlen]
end Be

section Loops
open Go.Proofs.Ytfgeffmlfbeodaa.Crc
theorem shr_byte (K : IntKind) (hK : K.bits = 64) (v : Int) (n : Nat) (hn : n < 8) : shr K v (wrap64 (8 * (n : Int))) = v / 256 ^ n := by
  unfold shr
  rw [hK, show wrap64 (8 * (n : Int)) = 8 * (n : Int) from by unfold wrap64; omega, show (8 * (n : Int)).toNat = 8 * n from by omega, Nat.min_eq_left (by omega), Int.pow_mul]
  rfl
/-- A loop that puts a number's bytes, the highest first. -/
theorem put_loop {L : Nat → List Int → Int → Int → Option (List Int)} (K : IntKind) (hK : K.bits = 64)
    (hL : ∀ k b v i, L (k + 1) b v i = if i ≥ 0 then (if 0 ≤ (wrap64 (8 * i)) then (if b.length < 140737488355328 then (L k (b ++ [(shr K v (wrap64 (8 * i))) % 256]) v (wrap64 (i - 1))) else (none)) else (none)) else (some b)) (v : Int) :
    ∀ (n k : Nat) (b : List Int), n ≤ 8 → n + 1 ≤ k → b.length + n ≤ 140737488355328 → L k b v ((n : Int) - 1) = some (b ++ be n v)
  | 0, k, b, _, hk, _ => by
    obtain ⟨k, rfl⟩ : ∃ m, k = m + 1 := ⟨k - 1, by omega⟩
    rw [hL, if_neg (by omega)]; simp [be]
  | n + 1, k, b, hn, hk, hb => by
    obtain ⟨k, rfl⟩ : ∃ m, k = m + 1 := ⟨k - 1, by omega⟩
    rw [show (((n + 1 : Nat) : Int) - 1) = (n : Int) from by omega, hL, if_pos (by omega), if_pos (by unfold wrap64; omega), if_pos (by omega), shr_byte K hK v n (by omega), show wrap64 ((n : Int) - 1) = (n : Int) - 1 from by unfold wrap64; omega,
      put_loop K hK hL v n k _ (by omega) (by omega) (by simp only [List.length_append, List.length_cons, List.length_nil]; omega)]
    simp [be]
theorem or64 (x y : Int) (hx0 : 0 ≤ x) (hx1 : x < 72057594037927936) (hy0 : 0 ≤ y) (hy1 : y < 256) : Go.bits .or .u64 (x * 256) y = x * 256 + y :=
  Go.bits_join .u64 64 (by decide) (fun n h0 h1 => by rw [Go.IntKind.wrap_u64]; omega) 8 (x * 256) y (by omega) (by omega) (by omega) hy0 (by omega) (by omega)
theorem wrap_u64' (x : Int) (h0 : 0 ≤ x) (h1 : x < 18446744073709551616) : IntKind.u64.wrap x = x := by rw [Go.IntKind.wrap_u64]; omega
theorem ofInt64_congr {x y : Int} (h : x % 18446744073709551616 = y % 18446744073709551616) : BitVec.ofInt 64 x = BitVec.ofInt 64 y := by
  apply BitVec.eq_of_toNat_eq
  rw [BitVec.toNat_ofInt, BitVec.toNat_ofInt]
  show (x % (18446744073709551616 : Int)).toNat = (y % (18446744073709551616 : Int)).toNat
  rw [h]
theorem or_i64 (X X' Y Y' : Int) (hx : X % 18446744073709551616 = X' % 18446744073709551616) (hy : Y % 18446744073709551616 = Y' % 18446744073709551616) : Go.bits .or .i64 X Y = wrap64 (Go.bits .or .u64 X' Y') := by
  have e1 : Go.bits .or .i64 X Y = IntKind.i64.wrap ((BitVec.ofInt 64 X ||| BitVec.ofInt 64 Y).toNat : Int) := rfl
  have e2 : Go.bits .or .u64 X' Y' = IntKind.u64.wrap ((BitVec.ofInt 64 X' ||| BitVec.ofInt 64 Y').toNat : Int) := rfl
  have hb := (BitVec.ofInt 64 X' ||| BitVec.ofInt 64 Y').isLt
  rw [e1, e2, ofInt64_congr hx, ofInt64_congr hy, wrap_u64' _ (by omega) (by omega)]
  exact i64_w _
theorem rd_at (l : List Int) (j : Nat) (hl : j < l.length) : rd l (j : Int) = l[j] := by simp [rd, List.getD_eq_getElem?_getD, List.getElem?_eq_getElem hl]
theorem nm_take_succ (l : List Int) (i : Nat) (hi : i < l.length) : nm (l.take (i + 1)) = nm (l.take i) * 256 + l[i] := by
  rw [List.take_succ_eq_append_getElem hi]; unfold nm; rw [nmF_append]; rfl
theorem nm_small {l : List Int} (hl : Bytes8 l) (h : l.length ≤ 7) : 0 ≤ nm l ∧ nm l < 72057594037927936 := by
  have h1 := nm_range hl
  refine ⟨h1.1, Int.lt_of_lt_of_le h1.2 ?_⟩
  have : (256 : Nat) ^ l.length ≤ 256 ^ 7 := Nat.pow_le_pow_right (by decide) h
  rw [pw]
  exact Int.ofNat_le.2 this
theorem nm_u64 {l : List Int} (hl : Bytes8 l) (h : l.length ≤ 8) : 0 ≤ nm l ∧ nm l < 18446744073709551616 := by
  have h1 := nm_range hl
  refine ⟨h1.1, Int.lt_of_lt_of_le h1.2 ?_⟩
  have : (256 : Nat) ^ l.length ≤ 256 ^ 8 := Nat.pow_le_pow_right (by decide) h
  rw [pw]
  exact Int.ofNat_le.2 this
/-- A loop that reads a number, unsigned. -/
theorem num_loop {L : Nat → Int → List Int → Int → Int → Option Int}
    (hL : ∀ k a xs len i, L (k + 1) a xs len i = if i < len then (if 0 ≤ i then (if i < (xs.length : Int) then (L k (Go.bits .or .u64 (IntKind.u64.wrap (a * 256)) (IntKind.u64.wrap (rd xs i))) xs len (wrap64 (i + 1))) else (none)) else (none)) else (some a))
    (l : List Int) (hb : Bytes8 l) (h8 : l.length ≤ 8) : ∀ (n i k : Nat), i + n = l.length → n + 1 ≤ k → L k (nm (l.take i)) l (l.length : Int) (i : Int) = some (nm l)
  | 0, i, k, hi, hk => by
    obtain ⟨k, rfl⟩ : ∃ m, k = m + 1 := ⟨k - 1, by omega⟩
    rw [hL, if_neg (by omega), List.take_of_length_le (by omega)]
  | n + 1, i, k, hi, hk => by
    obtain ⟨k, rfl⟩ : ∃ m, k = m + 1 := ⟨k - 1, by omega⟩
    have hx := hb (l[i]'(by omega)) (List.getElem_mem (by omega))
    have hs := nm_small (l := l.take i) (fun x hx => hb x (List.mem_of_mem_take hx)) (by rw [List.length_take]; omega)
    rw [hL, if_pos (by omega), if_pos (by omega), if_pos (by omega), rd_at l i (by omega), wrap_u64' _ (by omega) (by omega), wrap_u64' _ (by omega) (by omega), or64 _ _ (by omega) (by omega) (by omega) (by omega),
      show wrap64 ((i : Int) + 1) = ((i + 1 : Nat) : Int) from by unfold wrap64; omega, ← nm_take_succ l i (by omega)]
    exact num_loop hL l hb h8 n (i + 1) k (by omega) (by omega)
/-- A loop that reads a number, signed. -/
theorem num_loop_i {L : Nat → Int → List Int → Int → Int → Option Int}
    (hL : ∀ k a xs len i, L (k + 1) a xs len i = if i < len then (if 0 ≤ i then (if i < (xs.length : Int) then (L k (Go.bits .or .i64 (wrap64 (a * 256)) (wrap64 (rd xs i))) xs len (wrap64 (i + 1))) else (none)) else (none)) else (some a))
    (l : List Int) (hb : Bytes8 l) (h8 : l.length ≤ 8) : ∀ (n i k : Nat), i + n = l.length → n + 1 ≤ k → L k (wrap64 (nm (l.take i))) l (l.length : Int) (i : Int) = some (wrap64 (nm l))
  | 0, i, k, hi, hk => by
    obtain ⟨k, rfl⟩ : ∃ m, k = m + 1 := ⟨k - 1, by omega⟩
    rw [hL, if_neg (by omega), List.take_of_length_le (by omega)]
  | n + 1, i, k, hi, hk => by
    obtain ⟨k, rfl⟩ : ∃ m, k = m + 1 := ⟨k - 1, by omega⟩
    have hx := hb (l[i]'(by omega)) (List.getElem_mem (by omega))
    have hs := nm_small (l := l.take i) (fun x hx => hb x (List.mem_of_mem_take hx)) (by rw [List.length_take]; omega)
    rw [hL, if_pos (by omega), if_pos (by omega), if_pos (by omega), rd_at l i (by omega), or_i64 _ (nm (l.take i) * 256) _ (l[i]'(by omega)) (by unfold wrap64; omega) (by unfold wrap64; omega), or64 _ _ (by omega) (by omega) (by omega) (by omega),
      show wrap64 ((i : Int) + 1) = ((i + 1 : Nat) : Int) from by unfold wrap64; omega, ← nm_take_succ l i (by omega)]
    exact num_loop_i hL l hb h8 n (i + 1) k (by omega) (by omega)
end Loops

section Str
open Go.Proofs.Ytfgeffmlfbeodaa.Crc Go.Proofs.Ytfgeffmlfbeodaa.Names
def u8 (l : List Int) : List UInt8 := l.map fun x => UInt8.ofNat x.toNat
theorem str_u8 (l : List Int) : (strOfNums l).toList = u8 l := by simp [strOfNums, u8]
theorem str_size (l : List Int) : (strOfNums l).size = l.length := by simp [strOfNums, ByteArray.size]
theorem u8_append (a b : List Int) : u8 (a ++ b) = u8 a ++ u8 b := by simp [u8]
theorem toList_data (s : ByteArray) : s.toList = s.data.toList := Go.ByteArray.toList_eq s
theorem u8_bytesOf (s : ByteArray) : u8 (bytesOf s) = s.toList := by
  rw [toList_data]
  simp [u8, bytesOf, Function.comp_def]
theorem u8_lt {x y : Int} (hx : 0 ≤ x ∧ x < 256) (hy : 0 ≤ y ∧ y < 256) : (decide (UInt8.ofNat x.toNat < UInt8.ofNat y.toNat)) = decide (x < y) := by
  by_cases h : x < y
  · rw [decide_eq_true h, decide_eq_true]
    rw [UInt8.lt_iff_toNat_lt]
    simp; omega
  · rw [decide_eq_false h, decide_eq_false]
    rw [UInt8.lt_iff_toNat_lt]
    simp; omega
theorem u8_eq {x y : Int} (hx : 0 ≤ x ∧ x < 256) (hy : 0 ≤ y ∧ y < 256) : (UInt8.ofNat x.toNat == UInt8.ofNat y.toNat) = decide (x = y) := by
  by_cases h : x = y
  · subst h; simp
  · rw [decide_eq_false h, beq_eq_false_iff_ne]
    intro h2
    have := congrArg UInt8.toNat h2
    simp at this
    omega
theorem u8_inj {a b : List Int} (ha : Bytes8 a) (hb : Bytes8 b) (h : u8 a = u8 b) : a = b := by
  have hi : ∀ (l : List Int), Bytes8 l → (u8 l).map (fun c => ((c.toNat : Nat) : Int)) = l := by
    intro l hl
    induction l with
    | nil => rfl
    | cons x l ih =>
      have hx := hl x (by simp)
      have e : u8 (x :: l) = UInt8.ofNat x.toNat :: u8 l := rfl
      rw [e, List.map_cons, ih (fun y hy => hl y (List.mem_cons_of_mem _ hy))]
      congr 1
      simp; omega
  rw [← hi a ha, ← hi b hb, h]
theorem name_pos {s : ByteArray} (h : nameB s = true) : (1 ≤ s.size ∧ s.size ≤ 16) ∧ ∀ c ∈ s.toList, 0 < c := by
  simp only [nameB, Bool.and_eq_true, decide_eq_true_eq, Bool.not_eq_true'] at h
  refine ⟨h.1, fun c hc => ?_⟩
  have hc' : c ∈ s.data.toList := by rw [← toList_data]; exact hc
  have h2 := List.any_eq_false.1 h.2 c hc'
  simp only [badB, Bool.or_eq_true, decide_eq_true_eq, not_or] at h2
  rw [UInt8.lt_iff_toNat_lt]
  have : (0 : UInt8).toNat = 0 := rfl
  omega
end Str

section StrEq
open Go.Proofs.Ytfgeffmlfbeodaa.Crc
theorem str_back {l : List Int} (hl : Bytes8 l) : bytesOf (strOfNums l) = l := by
  have e : bytesOf (strOfNums l) = l.map fun x => ((UInt8.ofNat x.toNat).toNat : Int) := by simp [bytesOf, strOfNums, Function.comp_def]
  rw [e]
  conv => rhs; rw [← List.map_id l]
  apply List.map_congr_left
  intro x hx
  have := hl x hx
  simp; omega
theorem str_eq {a b : List Int} (ha : Bytes8 a) (hb : Bytes8 b) : ((strOfNums a).toList == (strOfNums b).toList) = decide (a = b) := by
  by_cases h : a = b
  · rw [h]; simp
  · rw [decide_eq_false h, beq_eq_false_iff_ne]
    intro h2
    apply h
    have h3 : strOfNums a = strOfNums b := by
      have e : ∀ s : ByteArray, s.toList = s.data.toList := fun s => Go.ByteArray.toList_eq s
      rw [e, e] at h2
      have h4 : (strOfNums a).data = (strOfNums b).data := Array.toList_inj.1 h2
      cases ha' : strOfNums a
      cases hb' : strOfNums b
      rw [ha', hb'] at h4
      simp only at h4
      rw [h4]
    rw [← str_back ha, ← str_back hb, h3]
end StrEq

section RefMay
open Go.Proofs.Ytfgeffmlfbeodaa.Crc Go.Proofs.Ytfgeffmlfbeodaa.Names
theorem bt_bad (s : ByteArray) (i : Nat) (h : i < s.size) : badB (s.data.toList[i]'(by rw [data_length]; exact h)) = (decide (bt s (i : Int) < 33) || decide (126 < bt s (i : Int))) := by
  have e : bt s (i : Int) = ((s.data.toList[i]'(by rw [data_length]; exact h)).toNat : Int) := by
    rw [← bt_at s (i : Int) (by simpa using h)]
    rfl
  rw [e, badB]
  congr 1
  · by_cases hc : (s.data.toList[i]'(by rw [data_length]; exact h)).toNat < 33
    · rw [decide_eq_true hc, decide_eq_true (by omega)]
    · rw [decide_eq_false hc, decide_eq_false (by omega)]
  · by_cases hc : 126 < (s.data.toList[i]'(by rw [data_length]; exact h)).toNat
    · rw [decide_eq_true hc, decide_eq_true (by omega)]
    · rw [decide_eq_false hc, decide_eq_false (by omega)]
theorem may_loop (s : ByteArray) (hs : s.size ≤ 140737488351232) : ∀ (n i k : Nat), i + n = s.size → n + 1 ≤ k → pandectref6_MayName.l0 k s (i : Int) = some (decide (1 ≤ s.size) && decide (s.size ≤ 16) && !((s.data.toList.drop i).any badB))
  | 0, i, k, hi, hk => by
    obtain ⟨k, rfl⟩ : ∃ m, k = m + 1 := ⟨k - 1, by omega⟩
    rw [pandectref6_MayName.l0, if_neg (by omega), List.drop_of_length_le (by rw [data_length]; omega)]
    by_cases h : (s.size : Int) ≥ 1
    · rw [if_pos h, decide_eq_true (show 1 ≤ s.size by omega)]
      by_cases h2 : s.size ≤ 16
      · rw [decide_eq_true h2, decide_eq_true (by omega)]; rfl
      · rw [decide_eq_false h2, decide_eq_false (by omega)]; rfl
    · rw [if_neg h, decide_eq_false (show ¬ 1 ≤ s.size by omega)]; rfl
  | n + 1, i, k, hi, hk => by
    obtain ⟨k, rfl⟩ : ∃ m, k = m + 1 := ⟨k - 1, by omega⟩
    have hlt : i < s.data.toList.length := by rw [data_length]; omega
    have hb := bt_bad s i (by omega)
    rw [pandectref6_MayName.l0, if_pos (by omega), if_pos (by omega), List.drop_eq_getElem_cons hlt, List.any_cons, hb]
    by_cases h1 : bt s (i : Int) < 33
    · rw [if_pos h1, decide_eq_true h1]; simp
    · by_cases h2 : bt s (i : Int) > 126
      · rw [if_neg h1, if_pos h2, decide_eq_true h2]; simp
      · rw [if_neg h1, if_neg h2, show wrap64 ((i : Int) + 1) = ((i + 1 : Nat) : Int) from by unfold wrap64; omega, may_loop s hs n (i + 1) k (by omega) (by omega), decide_eq_false h1, decide_eq_false h2]
        simp
theorem ref_may (s : ByteArray) (hs : s.size ≤ 140737488351232) (k : Nat) (hk : s.size + 1 ≤ k) : pandectref6_MayName.f k s = some (nameB s) := may_loop s hs s.size 0 k (by omega) hk
end RefMay

section Ref
open Go.Proofs.Ytfgeffmlfbeodaa.Crc
theorem be_snoc (n : Nat) : ∀ v : Int, be (n + 1) v = be n (v / 256) ++ [v % 256] := by
  induction n with
  | zero => intro v; simp [be]
  | succ n ih =>
    intro v
    have e1 : be (n + 1 + 1) v = (v / 256 ^ (n + 1)) % 256 :: be (n + 1) v := rfl
    have e2 : be (n + 1) (v / 256) = ((v / 256) / 256 ^ n) % 256 :: be n (v / 256) := rfl
    rw [e1, ih, e2, Int.ediv_ediv_of_nonneg (by decide), Int.pow_succ, Int.mul_comm]
    rfl
theorem high_loop : ∀ (n k : Nat) (v : Int) (t : List Int), 0 ≤ v → v < 18446744073709551616 → n ≤ 100 → n + 1 ≤ k → pandectref2_High.l0 k v (List.replicate n 0 ++ t) ((n : Int) - 1) = some (be n v ++ t)
  | 0, k, v, t, _, _, _, hk => by
    obtain ⟨k, rfl⟩ : ∃ m, k = m + 1 := ⟨k - 1, by omega⟩
    rw [pandectref2_High.l0, if_neg (by omega)]; simp [be]
  | n + 1, k, v, t, h0, h1, hn, hk => by
    obtain ⟨k, rfl⟩ : ∃ m, k = m + 1 := ⟨k - 1, by omega⟩
    have hs : (List.replicate (n + 1) (0 : Int) ++ t).set n (v % 256) = List.replicate n 0 ++ (v % 256 :: t) := by
      rw [List.replicate_succ', List.append_assoc, List.set_append_right _ _ (by simp)]
      simp
    have hd : Int.tdiv v 256 = v / 256 := Int.tdiv_eq_ediv_of_nonneg h0
    have hm : Int.tmod v 256 = v % 256 := Int.tmod_eq_emod_of_nonneg h0
    rw [pandectref2_High.l0, if_pos (by omega), if_pos (by omega), if_pos (by simp only [List.length_append, List.length_replicate]; omega), show (((n + 1 : Nat) : Int) - 1) = (n : Int) from by omega, Int.toNat_natCast, hd, hm, wrap_u64' _ (by omega) (by omega), show v % 256 % 256 = v % 256 from by omega, hs,
      show wrap64 ((n : Int) - 1) = (n : Int) - 1 from by unfold wrap64; omega, high_loop n k (v / 256) _ (by omega) (by omega) (by omega) (by omega), be_snoc]
    simp
/-- The document's numbers in bytes are the same. -/
theorem high_be (v : Int) (n k : Nat) (h0 : 0 ≤ v) (h1 : v < 18446744073709551616) (hn : n ≤ 100) (hk : n + 1 ≤ k) : pandectref2_High.f k v (n : Int) = some (be n v) := by
  unfold pandectref2_High.f
  have h := high_loop n k v [] h0 h1 hn hk
  rw [List.append_nil, List.append_nil] at h
  rw [if_pos (by omega), Int.toNat_natCast, if_pos (by omega), show wrap64 ((n : Int) - 1) = (n : Int) - 1 from by unfold wrap64; omega, h]
theorem refnum_loop (l : List Int) (hb : Bytes8 l) (h8 : l.length ≤ 8) : ∀ (n i k : Nat), i + n = l.length → n + 1 ≤ k → pandectref2_Num.l0 k l (nm (l.take i)) (i : Int) = some (nm l)
  | 0, i, k, hi, hk => by
    obtain ⟨k, rfl⟩ : ∃ m, k = m + 1 := ⟨k - 1, by omega⟩
    rw [pandectref2_Num.l0, if_neg (by omega), List.take_of_length_le (by omega)]
  | n + 1, i, k, hi, hk => by
    obtain ⟨k, rfl⟩ : ∃ m, k = m + 1 := ⟨k - 1, by omega⟩
    have hx := hb (l[i]'(by omega)) (List.getElem_mem (by omega))
    have hs := nm_small (l := l.take i) (fun x hx => hb x (List.mem_of_mem_take hx)) (by rw [List.length_take]; omega)
    rw [pandectref2_Num.l0, if_pos (by omega), if_pos (by omega), rd_at l i (by omega), wrap_u64' (nm (l.take i) * 256) (by omega) (by omega), wrap_u64' (l[i]'(by omega)) (by omega) (by omega), wrap_u64' _ (by omega) (by omega),
      show wrap64 ((i : Int) + 1) = ((i + 1 : Nat) : Int) from by unfold wrap64; omega, ← nm_take_succ l i (by omega)]
    exact refnum_loop l hb h8 n (i + 1) k (by omega) (by omega)
theorem num_nm (l : List Int) (hb : Bytes8 l) (h8 : l.length ≤ 8) (k : Nat) (hk : 9 ≤ k) : pandectref2_Num.f k l = some (nm l) := by
  unfold pandectref2_Num.f
  exact refnum_loop l hb h8 l.length 0 k (by omega) (by omega)
end Ref

section Loan
theorem loan_loop (l : List Int) : ∀ (n k : Nat) (t : List Int) (i : Nat), i + n = 6 → l.length ≤ t.length → t.length + n < 140737488355328 → n + 1 ≤ k →
    pandectlaw0_Loaned.l0 k l t (i : Int) = some (t ++ ([224, 225, 226, 227, 228, 229] : List Int).drop i)
  | 0, k, t, i, hi, h1, h2, hk => by
    obtain ⟨k, rfl⟩ : ∃ m, k = m + 1 := ⟨k - 1, by omega⟩
    rw [pandectlaw0_Loaned.l0, if_neg (by omega), if_pos (by omega), if_pos (by omega), List.drop_of_length_le (by simp; omega), List.append_nil]
  | n + 1, k, t, i, hi, h1, h2, hk => by
    obtain ⟨k, rfl⟩ : ∃ m, k = m + 1 := ⟨k - 1, by omega⟩
    rw [pandectlaw0_Loaned.l0, if_pos (by omega), if_pos (by omega), show wrap64 ((i : Int) + 1) = ((i + 1 : Nat) : Int) from by unfold wrap64; omega]
    rw [loan_loop l n k _ (i + 1) (by omega) (by simp; omega) (by simp; omega) (by omega)]
    rw [List.append_assoc]
    congr 2
    obtain h | h | h | h | h | h : i = 0 ∨ i = 1 ∨ i = 2 ∨ i = 3 ∨ i = 4 ∨ i = 5 := by omega
    all_goals subst h; decide +kernel
theorem loan (l : List Int) (hl : l.length ≤ 140737488351232) (k : Nat) (hk : 7 ≤ k) : pandectlaw0_Loaned.f k l = some (l ++ [224, 225, 226, 227, 228, 229]) := by
  unfold pandectlaw0_Loaned.f
  rw [Option.bind_some, if_pos (by simp; omega), List.nil_append]
  exact loan_loop l 6 k l 0 rfl (Nat.le_refl _) (by omega) hk
theorem loan_take (l s : List Int) : (l ++ s).take ((l.length : Int) : Int).toNat = l := by rw [Int.toNat_natCast, List.take_left]
theorem kept (l : List Int) : pandectlaw0_Kept.f l l (l ++ [224, 225, 226, 227, 228, 229]) = some true := by
  unfold pandectlaw0_Kept.f
  rw [if_pos ⟨rfl, rfl⟩]
end Loan

section EventPure
open Go.Proofs.Ytfgeffmlfbeodaa.Crc Go.Proofs.Ytfgeffmlfbeodaa.Names Go.Proofs.Ytfgeffmlfbeodaa.Rd
/-- An event's bytes. -/
def evB (v1 v2 : Int) (s t d : List Int) : List Int := be 8 v1 ++ (be 8 v2 ++ ((s.length : Int) :: (s ++ ((t.length : Int) :: (t ++ ((d.length : Int) :: d))))))
theorem evB_length (v1 v2 : Int) (s t d : List Int) : (evB v1 v2 s t d).length = 19 + s.length + t.length + d.length := by
  simp [evB, be_length]; omega
theorem bytesOf_bytes (s : ByteArray) : Bytes8 (bytesOf s) := fun x hx => by
  obtain ⟨b, _, rfl⟩ := List.mem_map.1 hx
  have := b.toNat_lt
  omega
theorem bytes8_cons {x : Int} {l : List Int} (hx : 0 ≤ x ∧ x < 256) (h : Bytes8 l) : Bytes8 (x :: l) := fun y hy => by
  rcases List.mem_cons.1 hy with rfl | hy
  · exact hx
  · exact h y hy
theorem bytes8_append {a b : List Int} (ha : Bytes8 a) (hb : Bytes8 b) : Bytes8 (a ++ b) := fun y hy => by
  rcases List.mem_append.1 hy with h | h
  · exact ha y h
  · exact hb y h
theorem evB_bytes {v1 v2 : Int} {s t d : List Int} (hs : Bytes8 s) (ht : Bytes8 t) (hd : Bytes8 d) (ls : s.length ≤ 16) (lt : t.length ≤ 16) (ld : d.length ≤ 100) : Bytes8 (evB v1 v2 s t d) :=
  bytes8_append (be_bytes _ _) (bytes8_append (be_bytes _ _) (bytes8_cons (by omega) (bytes8_append hs (bytes8_cons (by omega) (bytes8_append ht (bytes8_cons (by omega) hd))))))
theorem txt_app (a b : List Int) (s : Bool) (n : Int) (h : (a.length : Int) = n) : txt (a ++ b) s n = (a, b, s) := by
  have e : n.toNat = a.length := by omega
  unfold txt
  rw [if_neg (by rw [List.length_append]; omega), e]
  simp
theorem lng_app (a b : List Int) (s : Bool) (h : a.length ≤ 255) : lng ((a.length : Int) :: (a ++ b)) s = (a, b, s) := by
  have h1 := txt_app [(a.length : Int)] (a ++ b) s 1 rfl
  rw [List.singleton_append] at h1
  unfold lng
  rw [h1]
  have h2 : rd [(a.length : Int)] 0 = (a.length : Int) := by simp [rd]
  rw [if_neg (by simp)]
  show txt (a ++ b) s (rd [(a.length : Int)] 0) = _
  rw [h2]
  exact txt_app a b s _ rfl
theorem red_ev (v1 v2 : Int) (s t d z : List Int) (ls : s.length ≤ 255) (lt : t.length ≤ 255) (ld : d.length ≤ 255) :
    (red (evB v1 v2 s t d ++ z)).a1.1 = be 8 v1 ∧ (red (evB v1 v2 s t d ++ z)).a2.1 = be 8 v2 ∧ (red (evB v1 v2 s t d ++ z)).a3.1 = s ∧ (red (evB v1 v2 s t d ++ z)).a4.1 = t ∧ (red (evB v1 v2 s t d ++ z)).a5 = (d, z, false) := by
  have e : evB v1 v2 s t d ++ z = be 8 v1 ++ (be 8 v2 ++ ((s.length : Int) :: (s ++ ((t.length : Int) :: (t ++ ((d.length : Int) :: (d ++ z))))))) := by simp [evB]
  unfold red
  simp only
  rw [e, txt_app (be 8 v1) _ false 8 (by rw [be_length]; rfl)]
  simp only
  rw [txt_app (be 8 v2) _ false 8 (by rw [be_length]; rfl)]
  simp only
  rw [lng_app s _ false ls]
  simp only
  rw [lng_app t _ false lt]
  simp only
  rw [lng_app d z false ld]
  simp
theorem txt_ext {xs : List Int} {s : Bool} {n : Int} (q : List Int) (hn : 0 ≤ n) (h : (txt xs s n).2.2 = false) : s = false ∧ txt (xs ++ q) s n = ((txt xs s n).1, (txt xs s n).2.1 ++ q, false) := by
  unfold txt at h ⊢
  by_cases c : (xs.length : Int) < n
  · rw [if_pos c] at h; cases h
  · rw [if_neg c] at h ⊢
    have hs : s = false := h
    subst hs
    have hl : n.toNat ≤ xs.length := by omega
    rw [if_neg (by rw [List.length_append]; omega)]
    simp only [List.take_append_of_le_length hl, List.drop_append_of_le_length hl]
    exact ⟨trivial, trivial⟩
theorem txt_one_mem {xs : List Int} {s : Bool} (hx : ∀ c ∈ xs, 0 ≤ c ∧ c ≤ 255) (h : ¬ (txt xs s 1).1 = []) : 0 ≤ rd (txt xs s 1).1 0 ∧ rd (txt xs s 1).1 0 ≤ 255 := by
  refine hx _ ?_
  have h1 := rd_mem _ h
  have h2 : ∀ c ∈ (txt xs s 1).1, c ∈ xs := by
    intro c hc
    unfold txt at hc
    split at hc
    · cases hc
    · exact List.mem_of_mem_take hc
  exact h2 _ h1
theorem lng_ext {xs : List Int} {s : Bool} (q : List Int) (hx : ∀ c ∈ xs, 0 ≤ c ∧ c ≤ 255) (h : (lng xs s).2.2 = false) : s = false ∧ lng (xs ++ q) s = ((lng xs s).1, (lng xs s).2.1 ++ q, false) := by
  unfold lng at h ⊢
  by_cases c : (txt xs s 1).1 = []
  · rw [if_pos c] at h ⊢
    obtain ⟨h1, h2⟩ := txt_ext q (by decide) h
    rw [h2]
    simp only
    rw [if_pos c]
    exact ⟨h1, rfl⟩
  · rw [if_neg c] at h ⊢
    have hr := txt_one_mem hx c
    have h3 := txt_ext q hr.1 h
    have h4 := txt_ext (xs := xs) (s := s) (n := 1) q (by decide) h3.1
    refine ⟨h4.1, ?_⟩
    rw [h4.2]
    simp only
    rw [if_neg c]
    have h5 := h3.2
    rw [h3.1] at h5 ⊢
    exact h5
theorem red_ext {p : List Int} (q : List Int) (hx : ∀ c ∈ p, 0 ≤ c ∧ c ≤ 255) (h : (red p).a5.2.2 = false) : (red (p ++ q)).a5.2.1 = (red p).a5.2.1 ++ q := by
  unfold red at h ⊢
  simp only at h ⊢
  have m1 := Go.Proofs.Ytfgeffmlfbeodaa.PEventAll.txt_mem (s := false) (n := 8) hx
  rcases h1 : txt p false 8 with ⟨x1, r1, f1⟩
  rw [h1] at h m1
  simp only at h m1 ⊢
  have m2 := Go.Proofs.Ytfgeffmlfbeodaa.PEventAll.txt_mem (s := f1) (n := 8) m1
  rcases h2 : txt r1 f1 8 with ⟨x2, r2, f2⟩
  rw [h2] at h m2
  simp only at h m2 ⊢
  have m3 := Go.Proofs.Ytfgeffmlfbeodaa.PEventAll.lng_mem (s := f2) m2
  rcases h3 : lng r2 f2 with ⟨x3, r3, f3⟩
  rw [h3] at h m3
  simp only at h m3 ⊢
  have m4 := Go.Proofs.Ytfgeffmlfbeodaa.PEventAll.lng_mem (s := f3) m3
  rcases h4 : lng r3 f3 with ⟨x4, r4, f4⟩
  rw [h4] at h m4
  simp only at h m4 ⊢
  rcases h5 : lng r4 f4 with ⟨x5, r5, f5⟩
  rw [h5] at h
  simp only at h ⊢
  subst h
  have e5 := lng_ext q m4 (by rw [h5])
  rw [h5] at e5
  obtain ⟨rfl, e5⟩ := e5
  have e4 := lng_ext q m3 (by rw [h4])
  rw [h4] at e4
  obtain ⟨rfl, e4⟩ := e4
  have e3 := lng_ext q m2 (by rw [h3])
  rw [h3] at e3
  obtain ⟨rfl, e3⟩ := e3
  have e2 := txt_ext (n := 8) q (by decide) (by rw [h2])
  rw [h2] at e2
  obtain ⟨rfl, e2⟩ := e2
  have e1 := txt_ext (n := 8) (s := false) q (by decide) (by rw [h1])
  rw [h1] at e1
  simp only at e1 e2 e3 e4 e5
  rw [e1.2]
  simp only
  rw [e2]
  simp only
  rw [e3]
  simp only
  rw [e4]
  simp only
  rw [e5]
theorem nstep_eq (a x : Int) (ha : 0 ≤ a) (hb : a * 256 + x < 9223372036854775808) (hx : 0 ≤ x ∧ x < 256) : nstep a x = a * 256 + x := by
  unfold nstep
  rw [or_i64 (wrap64 (a * 256)) (a * 256) (wrap64 x) x (by unfold wrap64; omega) (by unfold wrap64; omega), or64 a x ha (by omega) hx.1 hx.2]
  unfold wrap64; omega
theorem fold_nm : ∀ (l : List Int) (a : Int), Bytes8 l → 0 ≤ a → nmF a l < 9223372036854775808 → l.foldl nstep a = nmF a l
  | [], a, _, _, _ => rfl
  | x :: l, a, hl, ha, hb => by
    have hx := hl x (by simp)
    have hl' : Bytes8 l := fun y hy => hl y (List.mem_cons_of_mem _ hy)
    have e : nmF a (x :: l) = nmF (a * 256 + x) l := rfl
    rw [e] at hb ⊢
    have h1 := nmF_bound l hl' (a * 256 + x)
    have hp : (0 : Int) < 256 ^ l.length := pw_pos _
    have h2 : a * 256 + x ≤ nmF (a * 256 + x) l := by
      refine Int.le_trans ?_ h1.1
      have := Int.mul_le_mul_of_nonneg_left (show (1 : Int) ≤ 256 ^ l.length by omega) (show 0 ≤ a * 256 + x by omega)
      omega
    rw [List.foldl_cons, nstep_eq a x ha (by omega) hx, fold_nm l _ hl' (by omega) hb]
theorem numv_be (v : Int) (h0 : 0 ≤ v) (h1 : v < 9223372036854775808) : numv (be 8 v) = v := by
  have h2 := nm_be 8 v h0 (by omega)
  unfold numv
  rw [fold_nm _ 0 (be_bytes _ _) (by decide) (by show nm _ < _; rw [h2]; exact h1)]
  exact h2
def mayE (v1 : Int) (s : ByteArray) (v2 : Int) (t : ByteArray) (d : List Int) : Bool := decide (v1 ≥ 0) && decide (v2 ≥ 0) && nameB s && nameB t && decide ((d.length : Int) ≤ 100)
theorem may_eq (v1 : Int) (s : ByteArray) (v2 : Int) (t : ByteArray) (d : List Int) : event_May.f v1 s v2 t d = some (mayE v1 s v2 t d) := by
  unfold event_May.f event_name.f mayE
  by_cases c1 : v1 ≥ 0
  · by_cases c2 : v2 ≥ 0
    · rw [if_pos c1, if_pos c2, Option.bind_some]
      cases h1 : nameB s
      · simp
      · rw [if_pos rfl, Option.bind_some]
        cases h2 : nameB t
        · simp
        · simp [c1, c2]
    · rw [if_pos c1, if_neg c2]; simp [c2]
  · rw [if_neg c1]; simp [c1]
theorem str_of_bytes (s : ByteArray) : strOfNums (bytesOf s) = s := by
  apply ByteArray.ext
  apply Array.ext'
  have h := str_u8 (bytesOf s)
  rw [u8_bytesOf, Go.ByteArray.toList_eq, Go.ByteArray.toList_eq] at h
  exact h
theorem put8 (n : Int) (k : Nat) (hk : 9 ≤ k) (l : List Int) (hl : l.length ≤ 140737488355000) : event_put.f k l n = some (l ++ be 8 n) := by
  unfold event_put.f
  exact put_loop .i64 rfl (fun k b v i => by rw [event_put.l0]) n 8 k l (by omega) (by omega) (by omega)
end EventPure

open Go Go.Proofs Go.Proofs.Ytfgeffmlfbeodaa.Crc Go.Proofs.Ytfgeffmlfbeodaa.Names Go.Proofs.Ytfgeffmlfbeodaa.Stru Go.Proofs.Ytfgeffmlfbeodaa.Rd
open Go.Proofs.Ytfgeffmlfbeodaa.Rf (rtk)
theorem bytes_of {l : List Int} (h : ∀ n ∈ l, (Lit.int .u8 n).wf = true) : Bytes8 l := fun x hx => by
  have h1 := h x hx
  simp [Lit.wf, IntKind.min, IntKind.max, IntKind.signed, IntKind.bits] at h1
  omega
theorem wf_i64 {a : Int} (h : (Lit.int .i64 a).wf = true) : -9223372036854775808 ≤ a ∧ a ≤ 9223372036854775807 := by
  simp [Lit.wf, IntKind.min, IntKind.max, IntKind.signed, IntKind.bits] at h
  omega
theorem wf_u16 {a : Int} (h : (Lit.int .u16 a).wf = true) : 0 ≤ a ∧ a < 65536 := by
  simp [Lit.wf, IntKind.min, IntKind.max, IntKind.signed, IntKind.bits] at h
  omega
theorem wf_u8 {a : Int} (h : (Lit.int .u8 a).wf = true) : 0 ≤ a ∧ a < 256 := by
  simp [Lit.wf, IntKind.min, IntKind.max, IntKind.signed, IntKind.bits] at h
  omega
theorem put_round (k : Nat) (x : List Int) (L : List ByteArray) (n i : Int) (s : ByteArray) (h0 : 0 ≤ i) (h1 : i < n) (h2 : i < (L.length : Int)) (hs : rdOf ByteArray.empty L i = s) (h16 : s.size ≤ 200) (hx : x.length ≤ 1000) :
    event_Put.l0 (k + 1) x L n i = event_Put.l0 k (x ++ ((s.size : Int) :: bytesOf s)) L n (wrap64 (i + 1)) := by
  rw [event_Put.l0, if_pos h1, if_pos h0, if_pos h2, hs, if_pos (by omega), Option.bind_some, if_pos (by simp only [List.length_append, List.length_cons, List.length_nil]; omega), Int.emod_eq_of_lt (by omega) (by omega)]
  rw [List.append_assoc, List.singleton_append]
theorem may_parts {v1 : Int} {s : ByteArray} {v2 : Int} {t : ByteArray} {d : List Int} (hm : mayE v1 s v2 t d = true) : 0 ≤ v1 ∧ 0 ≤ v2 ∧ s.size ≤ 16 ∧ t.size ≤ 16 ∧ d.length ≤ 100 := by
  simp only [mayE, Bool.and_eq_true, decide_eq_true_eq] at hm
  obtain ⟨⟨⟨⟨h1, h2⟩, h3⟩, h4⟩, h5⟩ := hm
  have := name_pos h3
  have := name_pos h4
  omega
theorem put_ev (k : Nat) (hk : 20 ≤ k) (v1 : Int) (s : ByteArray) (v2 : Int) (t : ByteArray) (d : List Int) (hm : mayE v1 s v2 t d = true) (hd : Bytes8 d) : event_Put.f k v1 s v2 t d = some (evB v1 v2 (bytesOf s) (bytesOf t) d) := by
  obtain ⟨_, _, h3, h4, h5⟩ := may_parts hm
  unfold event_Put.f
  rw [may_eq, hm, Option.bind_some, if_pos rfl, put8 v1 k (by omega) [] (by simp), Option.bind_some, put8 v2 k (by omega) _ (by simp [be_length]), Option.bind_some, Option.bind_some]
  obtain ⟨k, rfl⟩ : ∃ j, k = j + 4 := ⟨k - 4, by omega⟩
  have e3 : (([s, t, strOfNums d] : List ByteArray).length : Int) = 3 := rfl
  have hdl : (strOfNums d).size = d.length := str_size d
  have l1 : (bytesOf s).length = s.size := bytesOf_length s
  have l2 : (bytesOf t).length = t.size := bytesOf_length t
  rw [e3, put_round (k + 3) _ _ 3 0 s (by decide) (by decide) (by rw [e3]; decide) rfl (by omega) (by simp [be_length]), show wrap64 ((0 : Int) + 1) = 1 from by decide +kernel,
    put_round (k + 2) _ _ 3 1 t (by decide) (by decide) (by rw [e3]; decide) rfl (by omega) (by simp [be_length, l1]; omega), show wrap64 ((1 : Int) + 1) = 2 from by decide +kernel,
    put_round (k + 1) _ _ 3 2 (strOfNums d) (by decide) (by decide) (by rw [e3]; decide) rfl (by omega) (by simp [be_length, l1, l2]; omega), show wrap64 ((2 : Int) + 1) = 3 from by decide +kernel, event_Put.l0, if_neg (by decide)]
  rw [str_back hd, hdl]
  simp [evB, l1, l2]
theorem red_all {l : List Int} (h : Bytes8 l) : l.all (fun c => decide (0 ≤ c) && decide (c ≤ 255)) = true := by
  rw [List.all_eq_true]
  intro x hx
  have := h x hx
  simp; omega
theorem same_self (v1 : Int) (s : ByteArray) (v2 : Int) (t : ByteArray) (d : List Int) : event_Same.f v1 s v2 t d v1 s v2 t d = some true := by
  unfold event_Same.f bytes_Equal.f
  simp
theorem same_ref (v1 : Int) (s : ByteArray) (v2 : Int) (t : ByteArray) (d : List Int) : pandectref6_SameEvent.f v1 s v2 t d v1 s v2 t d = some true := by
  unfold pandectref6_SameEvent.f
  simp
theorem wrap64_add (z t : Int) : wrap64 (z + t * 18446744073709551616) = wrap64 z := by unfold wrap64; omega
theorem wrap64_is (b : Int) : ∃ t : Int, wrap64 b = b + t * 18446744073709551616 := ⟨(wrap64 b - b) / 18446744073709551616, by unfold wrap64; omega⟩
theorem nstep_any (a x : Int) (hx : 0 ≤ x ∧ x < 256) : nstep a x = wrap64 (a * 256 + x) := by
  unfold nstep
  rw [or_i64 (wrap64 (a * 256)) ((a % 72057594037927936) * 256) (wrap64 x) x (by unfold wrap64; omega) (by unfold wrap64; omega), or64 (a % 72057594037927936) x (by omega) (by omega) hx.1 hx.2]
  unfold wrap64; omega
theorem nmF_lin : ∀ (l : List Int) (a : Int), nmF a l = a * 256 ^ l.length + nm l
  | [], a => by simp [nmF, nm]
  | x :: l, a => by
    have e : nmF a (x :: l) = nmF (a * 256 + x) l := rfl
    have e2 : nm (x :: l) = nmF (0 * 256 + x) l := rfl
    rw [e, e2, nmF_lin l (a * 256 + x), nmF_lin l (0 * 256 + x), List.length_cons, Int.pow_succ, Int.add_mul, Int.zero_mul, Int.zero_add, Int.mul_comm (256 ^ l.length) 256, ← Int.mul_assoc, Int.add_assoc]
theorem fold_any : ∀ (l : List Int) (a : Int), Bytes8 l → l ≠ [] → l.foldl nstep a = wrap64 (nmF a l)
  | [], _, _, h => absurd rfl h
  | [x], a, hl, _ => by
    rw [List.foldl_cons, List.foldl_nil, nstep_any a x (hl x (by simp))]; rfl
  | x :: y :: l, a, hl, _ => by
    have hx := hl x (by simp)
    have hl' : Bytes8 (y :: l) := fun z hz => hl z (List.mem_cons_of_mem _ hz)
    rw [List.foldl_cons, nstep_any a x hx, fold_any (y :: l) _ hl' (by simp)]
    have e : nmF a (x :: y :: l) = nmF (a * 256 + x) (y :: l) := rfl
    obtain ⟨t, ht⟩ := wrap64_is (a * 256 + x)
    rw [e, ht, nmF_lin (y :: l) (a * 256 + x + t * 18446744073709551616), nmF_lin (y :: l) (a * 256 + x), Int.add_mul]
    rw [show (a * 256 + x) * 256 ^ (y :: l).length + t * 18446744073709551616 * 256 ^ (y :: l).length + nm (y :: l) = (a * 256 + x) * 256 ^ (y :: l).length + nm (y :: l) + (t * 256 ^ (y :: l).length) * 18446744073709551616 by rw [Int.mul_right_comm]; omega]
    exact wrap64_add _ _
theorem numv_any (l : List Int) (hl : Bytes8 l) (h : l ≠ []) : numv l = wrap64 (nm l) := fold_any l 0 hl h
theorem txt_rtk (xs : List Int) (n : Int) (hn : 0 ≤ n) : ((txt xs false n).2.2 = true ∧ (rtk xs false n).2.2 = true) ∨ ((txt xs false n).2.2 = false ∧ rtk xs false n = txt xs false n ∧ (txt xs false n).1.length = n.toNat ∧ xs = (txt xs false n).1 ++ (txt xs false n).2.1) := by
  unfold txt rtk
  by_cases c : (xs.length : Int) < n
  · rw [if_pos c, if_pos c]; exact .inl ⟨rfl, rfl⟩
  · rw [if_neg c, if_neg c, if_neg (by decide)]
    exact .inr ⟨rfl, rfl, by simp; omega, by simp⟩
theorem txt_bad (xs : List Int) (n : Int) : (txt xs true n).2.2 = true := by unfold txt; split <;> rfl
theorem rtk_bad (xs : List Int) (n : Int) : (rtk xs true n).2.2 = true := by unfold rtk; split <;> simp
theorem lng_bad (xs : List Int) : (lng xs true).2.2 = true := by
  unfold lng
  split
  · exact txt_bad xs 1
  · rw [txt_bad xs 1]; exact txt_bad _ _
def rtx (xs : List Int) (s : Bool) : List Int × List Int × Bool := rtk (rtk xs s 1).2.1 (rtk xs s 1).2.2 (nm (rtk xs s 1).1)
theorem rtx_bad (xs : List Int) : (rtx xs true).2.2 = true := by
  unfold rtx
  rw [rtk_bad xs 1]; exact rtk_bad _ _
theorem lng_rtx (xs : List Int) (hb : Bytes8 xs) : ((lng xs false).2.2 = true ∧ (rtx xs false).2.2 = true) ∨ ((lng xs false).2.2 = false ∧ rtx xs false = lng xs false ∧ xs = ((lng xs false).1.length : Int) :: ((lng xs false).1 ++ (lng xs false).2.1)) := by
  cases xs with
  | nil => left; constructor <;> simp [lng, rtx, txt, rtk]
  | cons c r =>
    have hc := hb c (by simp)
    have e1 : txt (c :: r) false 1 = ([c], r, false) := txt_app [c] r false 1 rfl
    have e2 : rtk (c :: r) false 1 = ([c], r, false) := by
      unfold rtk; rw [if_neg (by simp only [List.length_cons]; omega), if_neg (by decide)]; rfl
    have e3 : lng (c :: r) false = txt r false c := by
      unfold lng; rw [e1]; simp [rd]
    have e4 : rtx (c :: r) false = rtk r false c := by
      unfold rtx; rw [e2]; simp [nm, nmF]
    rw [e3, e4]
    rcases txt_rtk r c hc.1 with h | ⟨h1, h2, h3, h4⟩
    · exact .inl h
    · refine .inr ⟨h1, h2, ?_⟩
      rw [← h4, h3]
      congr 1
      omega
theorem rtk_bytes {xs : List Int} (h : Bytes8 xs) (s : Bool) (n : Int) : Bytes8 (rtk xs s n).1 ∧ Bytes8 (rtk xs s n).2.1 := by
  unfold rtk
  split
  · exact ⟨(fun x hx => by cases hx), h⟩
  · split
    · exact ⟨(fun x hx => by cases hx), h⟩
    · exact ⟨fun x hx => h x (List.mem_of_mem_take hx), fun x hx => h x (List.mem_of_mem_drop hx)⟩
theorem rtk_len (xs : List Int) (s : Bool) (n : Int) : (rtk xs s n).1.length ≤ n.toNat := by
  unfold rtk
  split
  · simp
  · split
    · simp
    · simp [List.length_take]; omega
theorem mayref (k : Nat) (hk : 200 ≤ k) (v1 : Int) (s : ByteArray) (v2 : Int) (t : ByteArray) (d : List Int) (hs : s.size ≤ 190) (ht : t.size ≤ 190) : pandectref6_MayEvent.f k v1 s v2 t d = some (mayE v1 s v2 t d) := by
  unfold pandectref6_MayEvent.f mayE
  by_cases c1 : v1 ≥ 0
  · by_cases c2 : v2 ≥ 0
    · rw [if_pos c1, if_pos c2, ref_may s (by omega) k (by omega), Option.bind_some]
      cases h1 : nameB s
      · simp
      · rw [if_pos rfl, ref_may t (by omega) k (by omega), Option.bind_some]
        cases h2 : nameB t
        · simp
        · simp [c1, c2]
    · rw [if_pos c1, if_neg c2]; simp [c2]
  · rw [if_neg c1]; simp [c1]
theorem text_ref (l : List Int) (s : ByteArray) (hl : l.length ≤ 1000) (hs : s.size ≤ 200) : pandectref6_text.f l s = some (l ++ ((s.size : Int) :: bytesOf s)) := by
  unfold pandectref6_text.f
  rw [if_pos (by omega), Option.bind_some, if_pos (by simp only [List.length_append, List.length_cons, List.length_nil]; omega), Int.emod_eq_of_lt (by omega) (by omega), List.append_assoc, List.singleton_append]
theorem put_ref (k : Nat) (hk : 200 ≤ k) (v1 : Int) (s : ByteArray) (v2 : Int) (t : ByteArray) (d : List Int) (hm : mayE v1 s v2 t d = true) (hd : Bytes8 d) (hv1 : v1 ≤ 9223372036854775807) (hv2 : v2 ≤ 9223372036854775807) : pandectref6_PutEvent.f k v1 s v2 t d = some (evB v1 v2 (bytesOf s) (bytesOf t) d) := by
  obtain ⟨h1, h2, h3, h4, h5⟩ := may_parts hm
  have l1 : (bytesOf s).length = s.size := bytesOf_length s
  have l2 : (bytesOf t).length = t.size := bytesOf_length t
  have hdl : (strOfNums d).size = d.length := str_size d
  unfold pandectref6_PutEvent.f
  rw [mayref k hk v1 s v2 t d (by omega) (by omega), hm, Option.bind_some, if_pos rfl, wrap_u64' v1 h1 (by omega), wrap_u64' v2 h2 (by omega)]
  have a1 := high_be v1 8 k h1 (by omega) (by omega) (by omega)
  have a2 := high_be v2 8 k h2 (by omega) (by omega) (by omega)
  rw [show ((8 : Nat) : Int) = 8 from rfl] at a1 a2
  rw [a1, Option.bind_some, a2, Option.bind_some, if_pos (by simp [be_length]), text_ref _ s (by simp [be_length]) (by omega), Option.bind_some, text_ref _ t (by simp [be_length, l1]; omega) (by omega), Option.bind_some, text_ref _ (strOfNums d) (by simp [be_length, l1, l2]; omega) (by omega), Option.bind_some, str_back hd, hdl]
  simp [evB, l1, l2]
theorem puts_ (k : Nat) (hk : 200 ≤ k) (v1 : Int) (s : ByteArray) (v2 : Int) (t : ByteArray) (d : List Int) (hd : Bytes8 d) (hs : s.size ≤ 190) (ht : t.size ≤ 190) (hv1 : v1 ≤ 9223372036854775807) (hv2 : v2 ≤ 9223372036854775807) : ∃ X, event_Put.f k v1 s v2 t d = some X ∧ pandectref6_PutEvent.f k v1 s v2 t d = some X := by
  cases hm : mayE v1 s v2 t d with
  | true => exact ⟨_, put_ev k (by omega) v1 s v2 t d hm hd, put_ref k hk v1 s v2 t d hm hd hv1 hv2⟩
  | false =>
    refine ⟨[], ?_, ?_⟩
    · unfold event_Put.f; rw [may_eq, hm, Option.bind_some, if_neg (by decide)]
    · unfold pandectref6_PutEvent.f; rw [mayref k hk v1 s v2 t d hs ht, hm, Option.bind_some, if_neg (by decide)]

def zero6 : Int × ByteArray × Int × ByteArray × List Int × Int := (0, ⟨#[]⟩, 0, ⟨#[]⟩, [], 2)
/-- Which event the two make of the same bytes. -/
def evOf (l : List Int) : Int × ByteArray × Int × ByteArray × List Int × Int :=
  if (red l).a5.2.2 = true then zero6 else if (red l).a5.2.1 = [] then
    (if mayE (wrap64 (nm (red l).a1.1)) (strOfNums (red l).a3.1) (wrap64 (nm (red l).a2.1)) (strOfNums (red l).a4.1) (red l).a5.1 = true then (wrap64 (nm (red l).a1.1), strOfNums (red l).a3.1, wrap64 (nm (red l).a2.1), strOfNums (red l).a4.1, (red l).a5.1, 0) else zero6)
  else zero6
/-- Where what is read is whole, both read the same, and the bytes are these. -/
theorem whole (l : List Int) (hb : Bytes8 l) :
    ((red l).a5.2.2 = true ∧ (rtx (rtx (rtx (rtk (rtk l false 8).2.1 (rtk l false 8).2.2 8).2.1 (rtk (rtk l false 8).2.1 (rtk l false 8).2.2 8).2.2).2.1 (rtx (rtk (rtk l false 8).2.1 (rtk l false 8).2.2 8).2.1 (rtk (rtk l false 8).2.1 (rtk l false 8).2.2 8).2.2).2.2).2.1 (rtx (rtx (rtk (rtk l false 8).2.1 (rtk l false 8).2.2 8).2.1 (rtk (rtk l false 8).2.1 (rtk l false 8).2.2 8).2.2).2.1 (rtx (rtk (rtk l false 8).2.1 (rtk l false 8).2.2 8).2.1 (rtk (rtk l false 8).2.1 (rtk l false 8).2.2 8).2.2).2.2).2.2).2.2 = true) ∨
    ∃ x1 x2 s t d rest, (red l).a1.1 = x1 ∧ (red l).a2.1 = x2 ∧ (red l).a3.1 = s ∧ (red l).a4.1 = t ∧ (red l).a5 = (d, rest, false) ∧ x1.length = 8 ∧ x2.length = 8 ∧
      l = x1 ++ (x2 ++ ((s.length : Int) :: (s ++ ((t.length : Int) :: (t ++ ((d.length : Int) :: (d ++ rest))))))) ∧
      ∃ q1 q2 q3 q4, rtk l false 8 = (x1, q1, false) ∧ rtk q1 false 8 = (x2, q2, false) ∧ rtx q2 false = (s, q3, false) ∧ rtx q3 false = (t, q4, false) ∧ rtx q4 false = (d, rest, false) := by
  unfold red
  simp only
  rcases txt_rtk l 8 (by decide) with ⟨f1, g1⟩ | ⟨f1, g1, k1, j1⟩
  · left
    have a1 : ∀ xs n, (txt xs true n).2.2 = true := txt_bad
    rw [f1, g1]
    simp only [txt_bad, lng_bad, rtk_bad, rtx_bad, and_self]
  rw [g1]
  rcases e1 : txt l false 8 with ⟨x1, q1, b1⟩
  rw [e1] at f1 k1 j1 g1
  simp only at f1 k1 j1 ⊢
  subst f1
  have hq1 : Bytes8 q1 := fun x hx => hb x (by rw [j1]; exact List.mem_append_right _ hx)
  rcases txt_rtk q1 8 (by decide) with ⟨f2, g2⟩ | ⟨f2, g2, k2, j2⟩
  · left
    rw [f2, g2]
    simp only [lng_bad, rtx_bad, and_self]
  rw [g2]
  rcases e2 : txt q1 false 8 with ⟨x2, q2, b2⟩
  rw [e2] at f2 k2 j2 g2
  simp only at f2 k2 j2 ⊢
  subst f2
  have hq2 : Bytes8 q2 := fun x hx => hq1 x (by rw [j2]; exact List.mem_append_right _ hx)
  rcases lng_rtx q2 hq2 with ⟨f3, g3⟩ | ⟨f3, g3, j3⟩
  · left
    rw [f3, g3]
    simp only [lng_bad, rtx_bad, and_self]
  rw [g3]
  rcases e3 : lng q2 false with ⟨s, q3, b3⟩
  rw [e3] at f3 j3 g3
  simp only at f3 j3 ⊢
  subst f3
  have hq3 : Bytes8 q3 := fun x hx => hq2 x (by rw [j3]; exact List.mem_cons_of_mem _ (List.mem_append_right _ hx))
  rcases lng_rtx q3 hq3 with ⟨f4, g4⟩ | ⟨f4, g4, j4⟩
  · left
    rw [f4, g4]
    simp only [lng_bad, rtx_bad, and_self]
  rw [g4]
  rcases e4 : lng q3 false with ⟨t, q4, b4⟩
  rw [e4] at f4 j4 g4
  simp only at f4 j4 ⊢
  subst f4
  have hq4 : Bytes8 q4 := fun x hx => hq3 x (by rw [j4]; exact List.mem_cons_of_mem _ (List.mem_append_right _ hx))
  rcases lng_rtx q4 hq4 with ⟨f5, g5⟩ | ⟨f5, g5, j5⟩
  · left
    rw [f5, g5]
    exact ⟨rfl, rfl⟩
  rw [g5]
  rcases e5 : lng q4 false with ⟨d, rest, b5⟩
  rw [e5] at f5 j5 g5
  simp only at f5 j5 ⊢
  subst f5
  refine .inr ⟨x1, x2, s, t, d, rest, rfl, rfl, rfl, rfl, rfl, by rw [k1]; rfl, by rw [k2]; rfl, ?_, q1, q2, q3, q4, rfl, g2, g3, g4, g5⟩
  rw [j1, j2, j3, j4, j5]
theorem str_u (l : List Int) : (strOfNums l).size = l.length := str_size l
theorem take_ev (k : Nat) (hk : 200 ≤ k) (l : List Int) (hb : Bytes8 l) (hl : l.length ≤ 200) : event_Take.f k l = some (evOf l) := by
  unfold evOf event_Take.f
  rw [if_pos (red_all hb)]
  rcases whole l hb with ⟨h1, _⟩ | ⟨x1, x2, s, t, d, rest, h1, h2, h3, h4, h5, n1, n2, hl', _⟩
  · rw [if_pos h1, if_pos h1]; rfl
  rw [h1, h2, h3, h4, h5]
  simp only
  rw [if_neg (by decide), if_neg (by decide)]
  have hx1 : Bytes8 x1 := fun x hx => hb x (by rw [hl']; simp [hx])
  have hx2 : Bytes8 x2 := fun x hx => hb x (by rw [hl']; simp [hx])
  have hs : Bytes8 s := fun x hx => hb x (by rw [hl']; simp [hx])
  have ht : Bytes8 t := fun x hx => hb x (by rw [hl']; simp [hx])
  have hd : Bytes8 d := fun x hx => hb x (by rw [hl']; simp [hx])
  have hlen := congrArg List.length hl'
  simp only [List.length_append, List.length_cons] at hlen
  rw [numv_any x1 hx1 (by intro e; rw [e] at n1; cases n1), numv_any x2 hx2 (by intro e; rw [e] at n2; cases n2), may_eq, Option.bind_some]
  cases hm : mayE (wrap64 (nm x1)) (strOfNums s) (wrap64 (nm x2)) (strOfNums t) d with
  | false =>
    rw [if_neg (by decide)]
    by_cases c : rest = []
    · rw [if_pos c, if_neg (by decide)]; rfl
    · rw [if_neg c]; rfl
  | true =>
    obtain ⟨m1, m2, m3, m4, m5⟩ := may_parts hm
    have b1 := nm_range hx1
    have b2 := nm_range hx2
    rw [n1] at b1
    rw [n2] at b2
    have w1 : wrap64 (nm x1) = nm x1 := by revert m1 b1; unfold wrap64; omega
    have w2 : wrap64 (nm x2) = nm x2 := by revert m2 b2; unfold wrap64; omega
    have e1 : be 8 (nm x1) = x1 := by have h := be_nm x1 hx1; rw [n1] at h; exact h
    have e2 : be 8 (nm x2) = x2 := by have h := be_nm x2 hx2; rw [n2] at h; exact h
    rw [if_pos rfl, put_ev k (by omega) _ _ _ _ _ hm hd, Option.bind_some, str_back hs, str_back ht, w1, w2]
    have hE : l = evB (nm x1) (nm x2) s t d ++ rest := by
      unfold evB; rw [e1, e2]
      rw [hl']; simp
    have hbE : Bytes8 (evB (nm x1) (nm x2) s t d) := fun x hx => hb x (by rw [hE]; exact List.mem_append_left _ hx)
    unfold bytes_Equal.f
    rw [Option.bind_some, str_eq hbE hb]
    by_cases c : rest = []
    · rw [decide_eq_true (by rw [hE, c, List.append_nil]), if_pos rfl, if_pos c, if_pos rfl]
    · rw [decide_eq_false (by intro e; rw [hE] at e; exact c (List.append_right_eq_self.1 e.symm)), if_neg (by decide), if_neg c]; rfl
theorem sh_le (l : List Int) (s : Bool) (k : Nat) (hk : 200 ≤ k) (hb : Bytes8 l) : pandectref2_Num.f k (rtk l s 1).1 = some (nm (rtk l s 1).1) ∧ 0 ≤ nm (rtk l s 1).1 ∧ nm (rtk l s 1).1 ≤ 255 := by
  have h1 := (rtk_bytes hb s 1).1
  have h2 := rtk_len l s 1
  have h3 := nm_range h1
  have h4 : (rtk l s 1).1.length ≤ 1 := h2
  refine ⟨num_nm _ h1 (by omega) k (by omega), h3.1, ?_⟩
  have h5 : (256 : Int) ^ (rtk l s 1).1.length ≤ 256 := by
    have : (rtk l s 1).1.length = 0 ∨ (rtk l s 1).1.length = 1 := by omega
    rcases this with h | h <;> rw [h] <;> decide
  omega
theorem rtx_bytes {xs : List Int} (h : Bytes8 xs) (s : Bool) : Bytes8 (rtx xs s).2.1 := (rtk_bytes (rtk_bytes h s 1).2 _ _).2

end Go.Proofs.Ytfgeffmlfbeodaa.Pure
