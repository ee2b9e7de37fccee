/- HeadAll: heads, ids, marks and places are put and taken as the document says. No condition. -/
import Derived.Test.YtfgeffmlfbeodaaWalkHeadAll
import Derived.Test.YtfgeffmlfbeodaaCrc
import Derived.Test.YtfgeffmlfbeodaaStru
namespace Go.Proofs.Ytfgeffmlfbeodaa.Pure
open Go.RowKit Go.Proofs.Ytfgeffmlfbeodaa.PHeadAll Go.Proofs.YtfgeffmlfbeodaaW.PrintWords Go.Proofs.YtfgeffmlfbeodaaW.PrintLast
set_option linter.unusedVariables false
section Be
open Go.Proofs.Ytfgeffmlfbeodaa.Crc
/-- A number in so many bytes, the highest first. -/
def be : Nat → Int → List Int
  | 0, _ => []
  | n + 1, v => (v / 256 ^ n) % 256 :: be n v
def nmF (a : Int) (l : List Int) : Int := l.foldl (fun a c => a * 256 + c) a
def nm (l : List Int) : Int := nmF 0 l
theorem be_length (n : Nat) (v : Int) : (be n v).length = n := by
  induction n with
  | zero => rfl
  | succ n ih => simp [be, ih]
theorem be_bytes (n : Nat) (v : Int) : Bytes8 (be n v) := by
  induction n with
  | zero => intro x hx; simp [be] at hx
  | succ n ih =>
    intro x hx
    rcases List.mem_cons.1 hx with rfl | h
    · exact ⟨Int.emod_nonneg _ (by decide), Int.emod_lt_of_pos _ (by decide)⟩
    · exact ih x h
theorem nat_mod_split (v m : Nat) : v % (m * 256) = (v / m % 256) * m + v % m := by
  rw [Nat.mod_mul, Nat.mul_comm m, Nat.add_comm]
theorem pw (n : Nat) : (256 : Int) ^ n = ((256 ^ n : Nat) : Int) := by rw [Int.natCast_pow]; rfl
theorem pw_pos (n : Nat) : (0 : Int) < 256 ^ n := Int.pow_pos (by decide)
theorem nmF_be (n : Nat) (v : Nat) : ∀ a : Int, nmF a (be n (v : Int)) = a * 256 ^ n + ((v % 256 ^ n : Nat) : Int) := by
  induction n with
  | zero => intro a; simp [be, nmF, Nat.mod_one]
  | succ n ih =>
    intro a
    have e : nmF a (be (n + 1) (v : Int)) = nmF (a * 256 + ((v : Int) / 256 ^ n) % 256) (be n (v : Int)) := rfl
    rw [e, ih]
    have h1 : ((v : Int) / 256 ^ n) % 256 = ((v / 256 ^ n % 256 : Nat) : Int) := by rw [pw]; rfl
    rw [h1, Nat.pow_succ, nat_mod_split]
    have h2 : (256 : Int) ^ (n + 1) = 256 ^ n * 256 := Int.pow_succ ..
    rw [h2, Int.natCast_add, Int.natCast_mul, ← pw, Int.add_mul, Int.mul_assoc, Int.mul_comm (256 : Int) (256 ^ n), Int.add_assoc]
theorem nm_be (n : Nat) (v : Int) (h0 : 0 ≤ v) (h1 : v < 256 ^ n) : nm (be n v) = v := by
  obtain ⟨m, rfl⟩ := Int.eq_ofNat_of_zero_le h0
  unfold nm
  rw [nmF_be, Int.zero_mul, Int.zero_add, Nat.mod_eq_of_lt]
  have : ((m : Nat) : Int) < ((256 ^ n : Nat) : Int) := by rw [← pw]; exact h1
  exact Int.ofNat_lt.1 this
theorem nmF_append (a : Int) (l r : List Int) : nmF a (l ++ r) = nmF (nmF a l) r := by simp [nmF]
theorem nmF_bound (l : List Int) (hl : Bytes8 l) : ∀ a : Int, a * 256 ^ l.length ≤ nmF a l ∧ nmF a l < (a + 1) * 256 ^ l.length := by
  induction l with
  | nil => intro a; simp [nmF]; omega
  | cons x l ih =>
    intro a
    have hx := hl x (by simp)
    have := ih (fun y hy => hl y (List.mem_cons_of_mem _ hy)) (a * 256 + x)
    have e : nmF a (x :: l) = nmF (a * 256 + x) l := rfl
    rw [e, List.length_cons]
    have hp : (0 : Int) < 256 ^ l.length := pw_pos _
    have h2 : (256 : Int) ^ (l.length + 1) = 256 * 256 ^ l.length := by rw [Int.pow_succ, Int.mul_comm]
    rw [h2, ← Int.mul_assoc, ← Int.mul_assoc]
    have h3 : a * 256 * 256 ^ l.length ≤ (a * 256 + x) * 256 ^ l.length := Int.mul_le_mul_of_nonneg_right (by omega) (Int.le_of_lt hp)
    have h4 : (a * 256 + x + 1) * 256 ^ l.length ≤ (a + 1) * 256 * 256 ^ l.length := Int.mul_le_mul_of_nonneg_right (by omega) (Int.le_of_lt hp)
    omega
theorem nm_range {l : List Int} (hl : Bytes8 l) : 0 ≤ nm l ∧ nm l < 256 ^ l.length := by
  have := nmF_bound l hl 0
  simp at this
  exact this
theorem be_nmF (l : List Int) (hl : Bytes8 l) : ∀ a : Int, 0 ≤ a → be l.length (nmF a l) = l := by
  induction l with
  | nil => intro a _; rfl
  | cons x l ih =>
    intro a ha
    have hx := hl x (by simp)
    have hl' : Bytes8 l := fun y hy => hl y (List.mem_cons_of_mem _ hy)
    have e : nmF a (x :: l) = nmF (a * 256 + x) l := rfl
    rw [e, List.length_cons, be, ih hl' _ (by omega)]
    have hb := nmF_bound l hl' (a * 256 + x)
    have hp : (0 : Int) < 256 ^ l.length := pw_pos _
    have hd : nmF (a * 256 + x) l / 256 ^ l.length = a * 256 + x := by
      apply Int.le_antisymm
      · have := Int.ediv_lt_of_lt_mul hp hb.2; omega
      · exact (Int.le_ediv_iff_mul_le hp).2 hb.1
    rw [hd]
    congr 1
    omega
theorem be_nm (l : List Int) (hl : Bytes8 l) : be l.length (nm l) = l := be_nmF l hl 0 (by omega)
theorem be_inj {n : Nat} {u v : Int} (hu : 0 ≤ u ∧ u < 256 ^ n) (hv : 0 ≤ v ∧ v < 256 ^ n) (h : be n u = be n v) : u = v := by
  rw [← nm_be n u hu.1 hu.2, h, nm_be n v hv.1 hv.2]
theorem nm_inj {l r : List Int} (hl : Bytes8 l) (hr : Bytes8 r) (hlen : l.length = r.length) (h : nm l = nm r) : l = r := by
  rw [← be_nm l hl, ← be_nm r hr, h, hlen]
end Be

section Loops
open Go.Proofs.Ytfgeffmlfbeodaa.Crc
theorem shr_byte (K : IntKind) (hK : K.bits = 64) (v : Int) (n : Nat) (hn : n < 8) : shr K v (wrap64 (8 * (n : Int))) = v / 256 ^ n := by
  unfold shr
  rw [hK, show wrap64 (8 * (n : Int)) = 8 * (n : Int) from by unfold wrap64; omega, show (8 * (n : Int)).toNat = 8 * n from by omega, Nat.min_eq_left (by omega), Int.pow_mul]
  rfl
/-- A loop that puts a number's bytes, the highest first. -/
theorem put_loop {L : Nat → List Int → Int → Int → Option (List Int)} (K : IntKind) (hK : K.bits = 64)
    (hL : ∀ k b v i, L (k + 1) b v i = if i ≥ 0 then (if 0 ≤ (wrap64 (8 * i)) then (if b.length < 140737488355328 then (L k (b ++ [(shr K v (wrap64 (8 * i))) % 256]) v (wrap64 (i - 1))) else (none)) else (none)) else (some b)) (v : Int) :
    ∀ (n k : Nat) (b : List Int), n ≤ 8 → n + 1 ≤ k → b.length + n ≤ 140737488355328 → L k b v ((n : Int) - 1) = some (b ++ be n v)
  | 0, k, b, _, hk, _ => by
    obtain ⟨k, rfl⟩ : ∃ m, k = m + 1 := ⟨k - 1, by omega⟩
    rw [hL, if_neg (by omega)]; simp [be]
  | n + 1, k, b, hn, hk, hb => by
    obtain ⟨k, rfl⟩ : ∃ m, k = m + 1 := ⟨k - 1, by omega⟩
    rw [show (((n + 1 : Nat) : Int) - 1) = (n : Int) from by omega, hL, if_pos (by omega), if_pos (by unfold wrap64; omega), if_pos (by omega), shr_byte K hK v n (by omega), show wrap64 ((n : Int) - 1) = (n : Int) - 1 from by unfold wrap64; omega,
      put_loop K hK hL v n k _ (by omega) (by omega) (by simp only [List.length_append, List.length_cons, List.length_nil]; omega)]
    simp [be]
theorem or64 (x y : Int) (hx0 : 0 ≤ x) (hx1 : x < 72057594037927936) (hy0 : 0 ≤ y) (hy1 : y < 256) : Go.bits .or .u64 (x * 256) y = x * 256 + y :=
  Go.bits_join .u64 64 (by decide) (fun n h0 h1 => by rw [Go.IntKind.wrap_u64]; omega) 8 (x * 256) y (by omega) (by omega) (by omega) hy0 (by omega) (by omega)
theorem wrap_u64' (x : Int) (h0 : 0 ≤ x) (h1 : x < 18446744073709551616) : IntKind.u64.wrap x = x := by rw [Go.IntKind.wrap_u64]; omega
theorem ofInt64_congr {x y : Int} (h : x % 18446744073709551616 = y % 18446744073709551616) : BitVec.ofInt 64 x = BitVec.ofInt 64 y := by
  apply BitVec.eq_of_toNat_eq
  rw [BitVec.toNat_ofInt, BitVec.toNat_ofInt]
  show (x % (18446744073709551616 : Int)).toNat = (y % (18446744073709551616 : Int)).toNat
  rw [h]
theorem or_i64 (X X' Y Y' : Int) (hx : X % 18446744073709551616 = X' % 18446744073709551616) (hy : Y % 18446744073709551616 = Y' % 18446744073709551616) : Go.bits .or .i64 X Y = wrap64 (Go.bits .or .u64 X' Y') := by
  have e1 : Go.bits .or .i64 X Y = IntKind.i64.wrap ((BitVec.ofInt 64 X ||| BitVec.ofInt 64 Y).toNat : Int) := rfl
  have e2 : Go.bits .or .u64 X' Y' = IntKind.u64.wrap ((BitVec.ofInt 64 X' ||| BitVec.ofInt 64 Y').toNat : Int) := rfl
  have hb := (BitVec.ofInt 64 X' ||| BitVec.ofInt 64 Y').isLt
  rw [e1, e2, ofInt64_congr hx, ofInt64_congr hy, wrap_u64' _ (by omega) (by omega)]
  exact i64_w _
theorem rd_at (l : List Int) (j : Nat) (hl : j < l.length) : rd l (j : Int) = l[j] := by simp [rd, List.getD_eq_getElem?_getD, List.getElem?_eq_getElem hl]
theorem nm_take_succ (l : List Int) (i : Nat) (hi : i < l.length) : nm (l.take (i + 1)) = nm (l.take i) * 256 + l[i] := by
  rw [List.take_succ_eq_append_getElem hi]; unfold nm; rw [nmF_append]; rfl
theorem nm_small {l : List Int} (hl : Bytes8 l) (h : l.length ≤ 7) : 0 ≤ nm l ∧ nm l < 72057594037927936 := by
  have h1 := nm_range hl
  refine ⟨h1.1, Int.lt_of_lt_of_le h1.2 ?_⟩
  have : (256 : Nat) ^ l.length ≤ 256 ^ 7 := Nat.pow_le_pow_right (by decide) h
  rw [pw]
  exact Int.ofNat_le.2 this
theorem nm_u64 {l : List Int} (hl : Bytes8 l) (h : l.length ≤ 8) : 0 ≤ nm l ∧ nm l < 18446744073709551616 := by
  have h1 := nm_range hl
  refine ⟨h1.1, Int.lt_of_lt_of_le h1.2 ?_⟩
  have : (256 : Nat) ^ l.length ≤ 256 ^ 8 := Nat.pow_le_pow_right (by decide) h
  rw [pw]
  exact Int.ofNat_le.2 this
/-- A loop that reads a number, unsigned. -/
theorem num_loop {L : Nat → Int → List Int → Int → Int → Option Int}
    (hL : ∀ k a xs len i, L (k + 1) a xs len i = if i < len then (if 0 ≤ i then (if i < (xs.length : Int) then (L k (Go.bits .or .u64 (IntKind.u64.wrap (a * 256)) (IntKind.u64.wrap (rd xs i))) xs len (wrap64 (i + 1))) else (none)) else (none)) else (some a))
    (l : List Int) (hb : Bytes8 l) (h8 : l.length ≤ 8) : ∀ (n i k : Nat), i + n = l.length → n + 1 ≤ k → L k (nm (l.take i)) l (l.length : Int) (i : Int) = some (nm l)
  | 0, i, k, hi, hk => by
    obtain ⟨k, rfl⟩ : ∃ m, k = m + 1 := ⟨k - 1, by omega⟩
    rw [hL, if_neg (by omega), List.take_of_length_le (by omega)]
  | n + 1, i, k, hi, hk => by
    obtain ⟨k, rfl⟩ : ∃ m, k = m + 1 := ⟨k - 1, by omega⟩
    have hx := hb (l[i]'(by omega)) (List.getElem_mem (by omega))
    have hs := nm_small (l := l.take i) (fun x hx => hb x (List.mem_of_mem_take hx)) (by rw [List.length_take]; omega)
    rw [hL, if_pos (by omega), if_pos (by omega), if_pos (by omega), rd_at l i (by omega), wrap_u64' _ (by omega) (by omega), wrap_u64' _ (by omega) (by omega), or64 _ _ (by omega) (by omega) (by omega) (by omega),
      show wrap64 ((i : Int) + 1) = ((i + 1 : Nat) : Int) from by unfold wrap64; omega, ← nm_take_succ l i (by omega)]
    exact num_loop hL l hb h8 n (i + 1) k (by omega) (by omega)
/-- A loop that reads a number, signed. -/
theorem num_loop_i {L : Nat → Int → List Int → Int → Int → Option Int}
    (hL : ∀ k a xs len i, L (k + 1) a xs len i = if i < len then (if 0 ≤ i then (if i < (xs.length : Int) then (L k (Go.bits .or .i64 (wrap64 (a * 256)) (wrap64 (rd xs i))) xs len (wrap64 (i + 1))) else (none)) else (none)) else (some a))
    (l : List Int) (hb : Bytes8 l) (h8 : l.length ≤ 8) : ∀ (n i k : Nat), i + n = l.length → n + 1 ≤ k → L k (wrap64 (nm (l.take i))) l (l.length : Int) (i : Int) = some (wrap64 (nm l))
  | 0, i, k, hi, hk => by
    obtain ⟨k, rfl⟩ : ∃ m, k = m + 1 := ⟨k - 1, by omega⟩
    rw [hL, if_neg (by omega), List.take_of_length_le (by omega)]
  | n + 1, i, k, hi, hk => by
    obtain ⟨k, rfl⟩ : ∃ m, k = m + 1 := ⟨k - 1, by omega⟩
    have hx := hb (l[i]'(by omega)) (List.getElem_mem (by omega))
    have hs := nm_small (l := l.take i) (fun x hx => hb x (List.mem_of_mem_take hx)) (by rw [List.length_take]; omega)
    rw [hL, if_pos (by omega), if_pos (by omega), if_pos (by omega), rd_at l i (by omega), or_i64 _ (nm (l.take i) * 256) _ (l[i]'(by omega)) (by unfold wrap64; omega) (by unfold wrap64; omega), or64 _ _ (by omega) (by omega) (by omega) (by omega),
      show wrap64 ((i : Int) + 1) = ((i + 1 : Nat) : Int) from by unfold wrap64; omega, ← nm_take_succ l i (by omega)]
    exact num_loop_i hL l hb h8 n (i + 1) k (by omega) (by omega)
end Loops

section Ref
open Go.Proofs.Ytfgeffmlfbeodaa.Crc
theorem be_snoc (n : Nat) : ∀ v : Int, be (n + 1) v = be n (v / 256) ++ [v % 256] := by
  induction n with
  | zero => intro v; simp [be]
  | succ n ih =>
    intro v
    have e1 : be (n + 1 + 1) v = (v / 256 ^ (n + 1)) % 256 :: be (n + 1) v := rfl
    have e2 : be (n + 1) (v / 256) = ((v / 256) / 256 ^ n) % 256 :: be n (v / 256) := rfl
    rw [e1, ih, e2, Int.ediv_ediv_of_nonneg (by decide), Int.pow_succ, Int.mul_comm]
    rfl
theorem high_loop : ∀ (n k : Nat) (v : Int) (t : List Int), 0 ≤ v → v < 18446744073709551616 → n ≤ 100 → n + 1 ≤ k → pandectref2_High.l0 k v (List.replicate n 0 ++ t) ((n : Int) - 1) = some (be n v ++ t)
  | 0, k, v, t, _, _, _, hk => by
    obtain ⟨k, rfl⟩ : ∃ m, k = m + 1 := ⟨k - 1, by omega⟩
    rw [pandectref2_High.l0, if_neg (by omega)]; simp [be]
  | n + 1, k, v, t, h0, h1, hn, hk => by
    obtain ⟨k, rfl⟩ : ∃ m, k = m + 1 := ⟨k - 1, by omega⟩
    have hs : (List.replicate (n + 1) (0 : Int) ++ t).set n (v % 256) = List.replicate n 0 ++ (v % 256 :: t) := by
      rw [List.replicate_succ', List.append_assoc, List.set_append_right _ _ (by simp)]
      simp
    have hd : Int.tdiv v 256 = v / 256 := Int.tdiv_eq_ediv_of_nonneg h0
    have hm : Int.tmod v 256 = v % 256 := Int.tmod_eq_emod_of_nonneg h0
    rw [pandectref2_High.l0, if_pos (by omega), if_pos (by omega), if_pos (by simp only [List.length_append, List.length_replicate]; omega), show (((n + 1 : Nat) : Int) - 1) = (n : Int) from by omega, Int.toNat_natCast, hd, hm, wrap_u64' _ (by omega) (by omega), show v % 256 % 256 = v % 256 from by omega, hs,
      show wrap64 ((n : Int) - 1) = (n : Int) - 1 from by unfold wrap64; omega, high_loop n k (v / 256) _ (by omega) (by omega) (by omega) (by omega), be_snoc]
    simp
/-- The document's numbers in bytes are the same. -/
theorem high_be (v : Int) (n k : Nat) (h0 : 0 ≤ v) (h1 : v < 18446744073709551616) (hn : n ≤ 100) (hk : n + 1 ≤ k) : pandectref2_High.f k v (n : Int) = some (be n v) := by
  unfold pandectref2_High.f
  have h := high_loop n k v [] h0 h1 hn hk
  rw [List.append_nil, List.append_nil] at h
  rw [if_pos (by omega), Int.toNat_natCast, if_pos (by omega), show wrap64 ((n : Int) - 1) = (n : Int) - 1 from by unfold wrap64; omega, h]
theorem refnum_loop (l : List Int) (hb : Bytes8 l) (h8 : l.length ≤ 8) : ∀ (n i k : Nat), i + n = l.length → n + 1 ≤ k → pandectref2_Num.l0 k l (nm (l.take i)) (i : Int) = some (nm l)
  | 0, i, k, hi, hk => by
    obtain ⟨k, rfl⟩ : ∃ m, k = m + 1 := ⟨k - 1, by omega⟩
    rw [pandectref2_Num.l0, if_neg (by omega), List.take_of_length_le (by omega)]
  | n + 1, i, k, hi, hk => by
    obtain ⟨k, rfl⟩ : ∃ m, k = m + 1 := ⟨k - 1, by omega⟩
    have hx := hb (l[i]'(by omega)) (List.getElem_mem (by omega))
    have hs := nm_small (l := l.take i) (fun x hx => hb x (List.mem_of_mem_take hx)) (by rw [List.length_take]; omega)
    rw [pandectref2_Num.l0, if_pos (by omega), if_pos (by omega), rd_at l i (by omega), wrap_u64' (nm (l.take i) * 256) (by omega) (by omega), wrap_u64' (l[i]'(by omega)) (by omega) (by omega), wrap_u64' _ (by omega) (by omega),
      show wrap64 ((i : Int) + 1) = ((i + 1 : Nat) : Int) from by unfold wrap64; omega, ← nm_take_succ l i (by omega)]
    exact refnum_loop l hb h8 n (i + 1) k (by omega) (by omega)
theorem num_nm (l : List Int) (hb : Bytes8 l) (h8 : l.length ≤ 8) (k : Nat) (hk : 9 ≤ k) : pandectref2_Num.f k l = some (nm l) := by
  unfold pandectref2_Num.f
  exact refnum_loop l hb h8 l.length 0 k (by omega) (by omega)
end Ref

section StrEq
open Go.Proofs.Ytfgeffmlfbeodaa.Crc
theorem str_back {l : List Int} (hl : Bytes8 l) : bytesOf (strOfNums l) = l := by
  have e : bytesOf (strOfNums l) = l.map fun x => ((UInt8.ofNat x.toNat).toNat : Int) := by simp [bytesOf, strOfNums, Function.comp_def]
  rw [e]
  conv => rhs; rw [← List.map_id l]
  apply List.map_congr_left
  intro x hx
  have := hl x hx
  simp; omega
theorem str_size (l : List Int) : (strOfNums l).size = l.length := by simp [strOfNums, ByteArray.size]
theorem str_eq {a b : List Int} (ha : Bytes8 a) (hb : Bytes8 b) : ((strOfNums a).toList == (strOfNums b).toList) = decide (a = b) := by
  by_cases h : a = b
  · rw [h]; simp
  · rw [decide_eq_false h, beq_eq_false_iff_ne]
    intro h2
    apply h
    have h3 : strOfNums a = strOfNums b := by
      have e : ∀ s : ByteArray, s.toList = s.data.toList := fun s => Go.ByteArray.toList_eq s
      rw [e, e] at h2
      have h4 : (strOfNums a).data = (strOfNums b).data := Array.toList_inj.1 h2
      cases ha' : strOfNums a
      cases hb' : strOfNums b
      rw [ha', hb'] at h4
      simp only at h4
      rw [h4]
    rw [← str_back ha, ← str_back hb, h3]
end StrEq

section Head
open Go.Proofs.Ytfgeffmlfbeodaa.Crc
theorem hput (l : List Int) (v : Int) (n k : Nat) (hn : n ≤ 8) (hk : n + 1 ≤ k) (hl : l.length ≤ 140737488355000) : head_put.f k l v (n : Int) = some (l ++ be n v) := by
  unfold head_put.f
  rw [show wrap64 ((n : Int) - 1) = (n : Int) - 1 from by unfold wrap64; omega]
  exact put_loop .i64 rfl (fun k b v i => by rw [head_put.l0]) v n k l (by omega) (by omega) (by omega)
theorem href (v : Int) (n k : Nat) (h0 : 0 ≤ v) (h1 : v ≤ 9223372036854775807) (hn : n ≤ 8) (hk : n + 1 ≤ k) : pandectref2_High.f k (IntKind.u64.wrap v) (n : Int) = some (be n v) := by
  rw [wrap_u64' v h0 (by omega)]
  exact high_be v n k h0 (by omega) (by omega) hk
theorem hnum (l : List Int) (hb : Bytes8 l) (h8 : l.length ≤ 8) (k : Nat) (hk : 9 ≤ k) : head_num.f k l = some (wrap64 (nm l)) := by
  unfold head_num.f
  have h := num_loop_i (L := fun k a xs len i => head_num.l0 k a xs len i) (fun k a xs len i => by show head_num.l0 (k + 1) a xs len i = _; rw [head_num.l0]) l hb h8 l.length 0 k (by omega) (by omega)
  rw [List.take_zero, show nm [] = 0 from rfl, show wrap64 0 = 0 from by unfold wrap64; omega] at h
  exact h
theorem put_off (v : Int) (h1 : v ≤ 9223372036854775807) (k : Nat) (hk : 100 ≤ k) : ∃ r, head_PutOff.f k v = some r ∧ pandectref6_PutOff.f k v = some r := by
  unfold head_PutOff.f pandectref6_PutOff.f pandectref6_Seq.f
  by_cases c : v < 0
  · exact ⟨[], by rw [if_pos c], by rw [if_pos c, Option.bind_some]⟩
  · have e1 := hput [] v 8 k (by omega) (by omega) (by simp)
    have e2 := href v 8 k (by omega) h1 (by omega) (by omega)
    rw [show ((8 : Nat) : Int) = 8 from rfl] at e1 e2
    exact ⟨[] ++ be 8 v, by rw [if_neg c, e1, Option.bind_some], by rw [if_neg c, e2, Option.bind_some, Option.bind_some, List.nil_append]⟩
theorem put_mark (v : Int) (l : List Int) (h1 : v ≤ 9223372036854775807) (k : Nat) (hk : 100 ≤ k) : ∃ r, head_PutMark.f k v l = some r ∧ pandectref6_PutMark.f k v l = some r := by
  unfold head_PutMark.f pandectref6_PutMark.f
  by_cases c : v < 0
  · exact ⟨[], by rw [if_pos c], by rw [if_pos c]⟩
  · by_cases c2 : (l.length : Int) > 100
    · exact ⟨[], by rw [if_neg c, if_pos c2], by rw [if_neg c, if_pos c2]⟩
    · have e1 := hput [] v 8 k (by omega) (by omega) (by simp)
      have e2 := href v 8 k (by omega) h1 (by omega) (by omega)
      have e3 := be_length 8 v
      rw [show ((8 : Nat) : Int) = 8 from rfl] at e1 e2
      exact ⟨be 8 v ++ l, by rw [if_neg c, if_neg c2, e1, Option.bind_some, List.nil_append, if_pos (by omega)], by rw [if_neg c, if_neg c2, e2, Option.bind_some, if_pos (by omega)]⟩
theorem put_head (a b : Int) (c : Bool) (h1 : a ≤ 9223372036854775807) (h2 : b ≤ 9223372036854775807) (k : Nat) (hk : 100 ≤ k) : ∃ r, head_PutHead.f k a b c = some r ∧ pandectref6_PutHead.f k a b c = some r := by
  obtain ⟨k, rfl⟩ : ∃ m, k = m + 1 := ⟨k - 1, by omega⟩
  unfold head_PutHead.f pandectref6_PutHead.f
  by_cases c1 : b < 0
  · exact ⟨[], by rw [if_pos c1, head_PutHead.j0, if_pos rfl], by rw [if_pos c1, pandectref6_PutHead.j0, if_pos rfl]⟩
  · rw [if_neg c1, if_neg c1]
    by_cases c2 : b > a
    · rw [decide_eq_true c2]
      exact ⟨[], by rw [head_PutHead.j0, if_pos rfl], by rw [pandectref6_PutHead.j0, if_pos rfl]⟩
    · rw [decide_eq_false c2]
      have e1 := hput [] a 8 k (by omega) (by omega) (by simp)
      have e2 := hput (be 8 a) b 8 k (by omega) (by omega) (by rw [be_length]; omega)
      have r1 := href a 8 k (by omega) h1 (by omega) (by omega)
      have r2 := href b 8 k (by omega) h2 (by omega) (by omega)
      have l1 := be_length 8 a
      have l2 := be_length 8 b
      have l3 : (be 8 a ++ be 8 b).length = 16 := by rw [List.length_append, l1, l2]
      have e3 : ∀ v : Int, head_put.f k (be 8 a ++ be 8 b) v 1 = some (be 8 a ++ be 8 b ++ be 1 v) := fun v => by
        have := hput (be 8 a ++ be 8 b) v 1 k (by omega) (by omega) (by omega)
        exact this
      rw [show ((8 : Nat) : Int) = 8 from rfl] at e1 e2 r1 r2
      rw [List.nil_append] at e1
      have b1 : be 1 1 = [1] := by decide +kernel
      have b0 : be 1 0 = [0] := by decide +kernel
      cases c
      · exact ⟨be 8 a ++ be 8 b ++ [0], by rw [head_PutHead.j0, if_neg (by decide), if_neg (by decide), e1, Option.bind_some, e2, Option.bind_some, e3, Option.bind_some, b0], by rw [pandectref6_PutHead.j0, if_neg (by decide), if_neg (by decide), r1, Option.bind_some, r2, Option.bind_some, if_pos (by omega), Option.bind_some, Option.bind_some, if_pos (by rw [l3, List.length_singleton]; omega)]⟩
      · exact ⟨be 8 a ++ be 8 b ++ [1], by rw [head_PutHead.j0, if_neg (by decide), if_pos rfl, e1, Option.bind_some, e2, Option.bind_some, e3, Option.bind_some, b1], by rw [pandectref6_PutHead.j0, if_neg (by decide), if_pos rfl, r1, Option.bind_some, r2, Option.bind_some, if_pos (by omega), Option.bind_some, Option.bind_some, if_pos (by rw [l3, List.length_singleton]; omega)]⟩
theorem put_done (a b : Int) (c : Bool) (h1 : a ≤ 9223372036854775807) (k : Nat) (hk : 100 ≤ k) : ∃ r, head_PutDone.f k a b c = some r ∧ pandectref6_PutDone.f k a b c = some r := by
  obtain ⟨k, rfl⟩ : ∃ m, k = m + 1 := ⟨k - 1, by omega⟩
  have no1 : head_PutDone.j0 (k + 1) true a b c = some [] := by rw [head_PutDone.j0, if_pos rfl]
  have no2 : pandectref6_PutDone.j0 (k + 1) true a b c = some [] := by rw [pandectref6_PutDone.j0, if_pos rfl]
  unfold head_PutDone.f pandectref6_PutDone.f
  by_cases c1 : a < 0
  · rw [if_pos c1, if_pos c1]; exact ⟨[], no1, no2⟩
  · by_cases c2 : b < 1
    · rw [if_neg c1, if_pos c2, if_neg c1, if_pos c2]; exact ⟨[], no1, no2⟩
    · by_cases c3 : b > 65535
      · rw [if_neg c1, if_neg c2, if_pos c3, if_neg c1, if_neg c2, if_pos c3]; exact ⟨[], no1, no2⟩
      · rw [if_neg c1, if_neg c2, if_neg c3, if_neg c1, if_neg c2, if_neg c3]
        cases c with
        | true => exact ⟨[], no1, no2⟩
        | false =>
          have e1 := hput [] a 8 k (by omega) (by omega) (by simp)
          have e2 := hput (be 8 a) b 2 k (by omega) (by omega) (by rw [be_length]; omega)
          have r1 := href a 8 k (by omega) h1 (by omega) (by omega)
          have r2 := href b 2 k (by omega) (by omega) (by omega) (by omega)
          have l1 := be_length 8 a
          have l2 := be_length 2 b
          rw [show ((8 : Nat) : Int) = 8 from rfl] at e1 r1
          rw [show ((2 : Nat) : Int) = 2 from rfl] at e2 r2
          rw [List.nil_append] at e1
          exact ⟨be 8 a ++ be 2 b, by rw [head_PutDone.j0, if_neg (by decide), e1, Option.bind_some, e2, Option.bind_some], by rw [pandectref6_PutDone.j0, if_neg (by decide), r1, Option.bind_some, r2, Option.bind_some, if_pos (by omega)]⟩
theorem top_bit (l : List Int) (hb : Bytes8 l) (h8 : l.length = 8) : (wrap64 (nm l) < 0 ↔ rd l 0 > 127) := by
  have hu := nm_u64 hb (by omega)
  cases l with
  | nil => simp at h8
  | cons x t =>
    have hx := hb x (by simp)
    have ht : t.length = 7 := by rw [List.length_cons] at h8; omega
    have e : nm (x :: t) = nmF x t := by simp [nm, nmF]
    have hbd := nmF_bound t (fun y hy => hb y (List.mem_cons_of_mem _ hy)) x
    have p7 : (256 : Int) ^ 7 = 72057594037927936 := by decide
    rw [ht, p7] at hbd
    have er : rd (x :: t) 0 = x := by simp [rd]
    rw [er]
    rw [e] at hu ⊢
    unfold wrap64
    omega
theorem take_off (l : List Int) (hb : Bytes8 l) (k : Nat) (hk : 100 ≤ k) : ∃ v e, head_TakeOff.f k l = some (v, e) ∧ pandectref6_TakeOff.f k l = some (v, e) := by
  unfold head_TakeOff.f pandectref6_TakeOff.f
  by_cases c : (l.length : Int) = 8
  · have hl : l.length = 8 := by omega
    have t := top_bit l hb hl
    rw [if_pos c, if_pos c, hnum l hb (by omega) k (by omega), Option.bind_some, if_pos (show 0 < (l.length : Int) by omega), num_nm l hb (by omega) k (by omega)]
    by_cases c2 : wrap64 (nm l) < 0
    · rw [if_pos c2, if_pos (t.1 c2)]
      exact ⟨0, 2, rfl, rfl⟩
    · rw [if_neg c2, if_neg (fun h => c2 (t.2 h)), Option.bind_some, Option.bind_some]
      exact ⟨_, _, rfl, rfl⟩
  · rw [if_neg c, if_neg c]
    exact ⟨0, 2, rfl, rfl⟩
theorem take_mark (l : List Int) (hb : Bytes8 l) (hl : l.length ≤ 120) (k : Nat) (hk : 100 ≤ k) : ∃ v d e, head_TakeMark.f k l = some (v, d, e) ∧ pandectref6_TakeMark.f k l = some (v, d, e) := by
  unfold head_TakeMark.f pandectref6_TakeMark.f
  by_cases c : (l.length : Int) < 8
  · rw [if_pos c, if_pos c]; exact ⟨0, [], 2, rfl, rfl⟩
  · have b8 : Bytes8 (l.take 8) := fun x hx => hb x (List.mem_of_mem_take hx)
    have h8 : (l.take 8).length = 8 := by rw [List.length_take]; omega
    have hd : (l.drop 8).length = l.length - 8 := List.length_drop ..
    have t := top_bit _ b8 h8
    have er : rd (l.take 8) 0 = rd l 0 := by
      have e1 := rd_at (l.take 8) 0 (by omega)
      have e2 := rd_at l 0 (by omega)
      rw [show ((0 : Nat) : Int) = 0 from rfl] at e1 e2
      rw [e1, e2, List.getElem_take]
    rw [er] at t
    have hv := nm_u64 b8 (by omega)
    have hw : wrap64 (nm (l.take 8)) ≤ 9223372036854775807 := by unfold wrap64; omega
    rw [if_neg c, if_pos (show 8 ≤ (l.length : Int) by omega), hnum _ b8 (by omega) k (by omega), Option.bind_some, Option.bind_some, Option.bind_some, if_pos (show ([] : List Int).length + (l.drop 8).length < 140737488355328 by rw [List.length_nil]; omega), Option.bind_some, List.nil_append, if_neg c]
    unfold head_PutMark.f
    by_cases c1 : wrap64 (nm (l.take 8)) < 0
    · rw [if_pos c1, Option.bind_some, if_pos rfl]
      refine ⟨0, [], 2, rfl, ?_⟩
      by_cases c2 : (l.length : Int) > 108
      · rw [if_pos c2]
      · rw [if_neg c2, if_pos (show 0 < (l.length : Int) by omega), if_pos (t.1 c1)]
    · by_cases c2 : (l.length : Int) > 108
      · rw [if_neg c1, if_pos (show ((l.drop 8).length : Int) > 100 by omega), Option.bind_some, if_pos rfl, if_pos c2]
        exact ⟨0, [], 2, rfl, rfl⟩
      · have e1 := hput [] (wrap64 (nm (l.take 8))) 8 k (by omega) (by omega) (by simp)
        have l1 := be_length 8 (wrap64 (nm (l.take 8)))
        rw [show ((8 : Nat) : Int) = 8 from rfl, List.nil_append] at e1
        have ne : ¬ be 8 (wrap64 (nm (l.take 8))) ++ l.drop 8 = [] := fun h => by
          have := congrArg List.length h
          rw [List.length_append, l1] at this
          simp at this
        rw [if_neg c1, if_neg (show ¬ ((l.drop 8).length : Int) > 100 by omega), e1, Option.bind_some, if_pos (show (be 8 (wrap64 (nm (l.take 8)))).length + (l.drop 8).length < 140737488355328 by omega), Option.bind_some, if_neg ne, if_neg c2, if_pos (show 0 < (l.length : Int) by omega), if_neg (fun h => c1 (t.2 h)), if_pos (show 8 ≤ (l.length : Int) by omega), num_nm _ b8 (by omega) k (by omega), Option.bind_some, Option.bind_some, Option.bind_some, if_pos (show ([] : List Int).length + (l.drop 8).length < 140737488355328 by rw [List.length_nil]; omega), List.nil_append]
        exact ⟨_, _, _, rfl, rfl⟩
theorem take_head (l : List Int) (hb : Bytes8 l) (k : Nat) (hk : 100 ≤ k) : ∃ a b c e, head_TakeHead.f k l = some (a, b, c, e) ∧ pandectref6_TakeHead.f k l = some (a, b, c, e) := by
  unfold head_TakeHead.f pandectref6_TakeHead.f
  by_cases c : (l.length : Int) = 17
  · have b1 : Bytes8 (l.take 8) := fun x hx => hb x (List.mem_of_mem_take hx)
    have b2 : Bytes8 ((l.take 16).drop 8) := fun x hx => hb x (List.mem_of_mem_take (List.mem_of_mem_drop hx))
    have n1 : (l.take 8).length ≤ 8 := by rw [List.length_take]; omega
    have n2 : ((l.take 16).drop 8).length ≤ 8 := by rw [List.length_drop, List.length_take]; omega
    have w1 : wrap64 (nm (l.take 8)) ≤ 9223372036854775807 := by unfold wrap64; omega
    have w2 : wrap64 (nm ((l.take 16).drop 8)) ≤ 9223372036854775807 := by unfold wrap64; omega
    obtain ⟨r, e1, e2⟩ := put_head (wrap64 (nm (l.take 8))) (wrap64 (nm ((l.take 16).drop 8))) (rd l 16 == 1) w1 w2 k hk
    rw [if_pos c, if_pos c, if_pos (show 8 ≤ (l.length : Int) by omega), hnum _ b1 n1 k (by omega), Option.bind_some, if_pos (show (8 : Nat) ≤ 16 by decide), if_pos (show 16 ≤ (l.length : Int) by omega), hnum _ b2 n2 k (by omega), Option.bind_some, if_pos (show 16 < (l.length : Int) by omega), e1, Option.bind_some,
      num_nm _ b1 n1 k (by omega), Option.bind_some, num_nm _ b2 n2 k (by omega), Option.bind_some, e2, Option.bind_some]
    unfold bytes_Equal.f
    rw [Option.bind_some]
    by_cases q : ((strOfNums r).toList == (strOfNums l).toList) = true
    · rw [if_pos q]; exact ⟨_, _, _, _, rfl, rfl⟩
    · rw [if_neg q]; exact ⟨_, _, _, _, rfl, rfl⟩
  · rw [if_neg c, if_neg c]; exact ⟨0, 0, false, 2, rfl, rfl⟩
theorem done_is (a b : Int) (h1 : a ≤ 9223372036854775807) (k : Nat) (hk : 100 ≤ k) : (0 ≤ a ∧ 1 ≤ b ∧ b ≤ 65535 ∧ head_PutDone.f k a b false = some (be 8 a ++ be 2 b) ∧ pandectref6_PutDone.f k a b false = some (be 8 a ++ be 2 b)) ∨ (head_PutDone.f k a b false = some [] ∧ pandectref6_PutDone.f k a b false = some []) := by
  obtain ⟨k, rfl⟩ : ∃ m, k = m + 1 := ⟨k - 1, by omega⟩
  have no1 : head_PutDone.j0 (k + 1) true a b false = some [] := by rw [head_PutDone.j0, if_pos rfl]
  have no2 : pandectref6_PutDone.j0 (k + 1) true a b false = some [] := by rw [pandectref6_PutDone.j0, if_pos rfl]
  unfold head_PutDone.f pandectref6_PutDone.f
  by_cases c1 : a < 0
  · rw [if_pos c1, if_pos c1]; exact .inr ⟨no1, no2⟩
  · by_cases c2 : b < 1
    · rw [if_neg c1, if_pos c2, if_neg c1, if_pos c2]; exact .inr ⟨no1, no2⟩
    · by_cases c3 : b > 65535
      · rw [if_neg c1, if_neg c2, if_pos c3, if_neg c1, if_neg c2, if_pos c3]; exact .inr ⟨no1, no2⟩
      · rw [if_neg c1, if_neg c2, if_neg c3, if_neg c1, if_neg c2, if_neg c3]
        have e1 := hput [] a 8 k (by omega) (by omega) (by simp)
        have e2 := hput (be 8 a) b 2 k (by omega) (by omega) (by rw [be_length]; omega)
        have r1 := href a 8 k (by omega) h1 (by omega) (by omega)
        have r2 := href b 2 k (by omega) (by omega) (by omega) (by omega)
        have l1 := be_length 8 a
        have l2 := be_length 2 b
        rw [show ((8 : Nat) : Int) = 8 from rfl] at e1 r1
        rw [show ((2 : Nat) : Int) = 2 from rfl] at e2 r2
        rw [List.nil_append] at e1
        exact .inl ⟨by omega, by omega, by omega, by rw [head_PutDone.j0, if_neg (by decide), e1, Option.bind_some, e2, Option.bind_some], by rw [pandectref6_PutDone.j0, if_neg (by decide), r1, Option.bind_some, r2, Option.bind_some, if_pos (by omega)]⟩
theorem take_done (l : List Int) (hb : Bytes8 l) (k : Nat) (hk : 100 ≤ k) : ∃ a b c e, head_TakeDone.f k l = some (a, b, c, e) ∧ pandectref6_TakeDone.f k l = some (a, b, c, e) := by
  unfold head_TakeDone.f pandectref6_TakeDone.f
  by_cases c : (l.length : Int) = 10
  · have b1 : Bytes8 (l.take 8) := fun x hx => hb x (List.mem_of_mem_take hx)
    have b2 : Bytes8 (l.drop 8) := fun x hx => hb x (List.mem_of_mem_drop hx)
    have m1 : (l.take 8).length = 8 := by rw [List.length_take]; omega
    have m2 : (l.drop 8).length = 2 := by rw [List.length_drop]; omega
    have r1 := nm_u64 b1 (by omega)
    have r2 := nm_range b2
    rw [m2] at r2
    have r2' : nm (l.drop 8) < 65536 := r2.2
    have w1 : wrap64 (nm (l.take 8)) ≤ 9223372036854775807 := by unfold wrap64; omega
    have w2 : wrap64 (nm (l.drop 8)) = nm (l.drop 8) := by unfold wrap64; omega
    rw [if_pos c, if_pos c, if_pos (show 8 ≤ (l.length : Int) by omega), hnum _ b1 (by omega) k (by omega), Option.bind_some, hnum _ b2 (by omega) k (by omega), Option.bind_some,
      num_nm _ b1 (by omega) k (by omega), Option.bind_some, num_nm _ b2 (by omega) k (by omega), Option.bind_some]
    rcases done_is (wrap64 (nm (l.take 8))) (wrap64 (nm (l.drop 8))) w1 k hk with ⟨h0, h2, h3, e1, e2⟩ | ⟨e1, e2⟩
    · have w0 : wrap64 (nm (l.take 8)) = nm (l.take 8) := by unfold wrap64 at h0 ⊢; omega
      have er : be 8 (wrap64 (nm (l.take 8))) ++ be 2 (wrap64 (nm (l.drop 8))) = l := by
        have z1 := be_nm _ b1
        have z2 := be_nm _ b2
        rw [m1] at z1
        rw [m2] at z2
        rw [w0, w2, z1, z2, List.take_append_drop]
      rw [e1, Option.bind_some, e2, Option.bind_some, er, if_neg (show ¬ l = [] from fun h => by rw [h] at c; exact absurd c (by decide)), if_pos (beq_self_eq_true _)]
      exact ⟨_, _, _, _, rfl, rfl⟩
    · have hn : ((strOfNums ([] : List Int)).toList == (strOfNums l).toList) = false := by
        rw [str_eq (fun x hx => by simp at hx) hb, decide_eq_false (fun h => by rw [← h] at c; exact absurd c (by decide))]
      rw [e1, Option.bind_some, e2, Option.bind_some, if_pos rfl, hn, if_neg (by decide)]
      exact ⟨_, _, _, _, rfl, rfl⟩
  · rw [if_neg c, if_neg c]; exact ⟨0, 0, false, 2, rfl, rfl⟩
end Head

open Go.Proofs.Ytfgeffmlfbeodaa.Crc
open Go.Proofs.Ytfgeffmlfbeodaa.Stru (IsRow)
theorem begun_true (k : Nat) (hk : 400 ≤ k) : pandectlaw8_begun.f k = some true :=
  at_rounds (g := pandectlaw8_begun.f) pandectlaw8_begun.mono hk (by decide +kernel)
theorem wf_i64 {a : Int} (h : (Lit.int .i64 a).wf = true) : -9223372036854775808 ≤ a ∧ a ≤ 9223372036854775807 := by
  simp [Lit.wf, IntKind.min, IntKind.max, IntKind.signed, IntKind.bits] at h
  omega
theorem walk (h0 h1 : Int) (h2 : Bool) (d0 d1 : Int) (d2 : Bool) (m0 : Int) (am : Option Addr) (lenm capm : Nat) (zm : List Int) (off : Int) (a4 : Option Addr) (len4 cap4 : Nat) (z4 : List Int) (w : World)
    (wh0 : (Lit.int .i64 h0).wf = true) (wh1 : (Lit.int .i64 h1).wf = true) (wd0 : (Lit.int .i64 d0).wf = true) (wd1 : (Lit.int .i64 d1).wf = true) (wm0 : (Lit.int .i64 m0).wf = true) (wm : IsRow .u8 w am lenm capm zm) (w3 : (Lit.int .i64 off).wf = true)
    (w4 : (a4 = none ∧ len4 = 0 ∧ cap4 = 0 ∧ z4 = []) ∨ ∃ x, a4 = some x ∧ len4 ≤ cap4 ∧ cap4 ≤ maxLen ∧ z4.length = cap4 ∧ (∀ i, i < z4.length → w.cell? (x.add i) = some (.int .u8 (z4.getD i 0))) ∧ ∀ n ∈ z4, (Lit.int .u8 n).wf = true) (y4 : len4 * 1 ≤ 140737488351232) :
    Calls Try.prog 6 #[.agg #[.int .i64 h0, .int .i64 h1, .bool h2], .agg #[.int .i64 d0, .int .i64 d1, .bool d2], .agg #[.int .i64 m0, .slice am lenm capm], .int .i64 off, .slice a4 len4 cap4] w fun e w' => e = .returned (.bool true) ∧ Below w.heap.size w w' := by
  obtain ⟨lm, rfl, hrm, hmm, hwm, hcm⟩ := ReadsInt.ofRowC wm
  obtain ⟨l0, rfl, hr0, hm0, hw0, hc0⟩ := ReadsInt.ofRowC w4
  have b0 := bytes_of hw0
  have n0 := wf_i64 wh0
  have n1 := wf_i64 wh1
  have n2 := wf_i64 wd0
  have n3 := wf_i64 wm0
  have n4 := wf_i64 w3
  have hb := begun_true 400 (Nat.le_refl _)
  by_cases c1 : 120 < lm.length
  · exact way_m 400 h0 h1 h2 d0 d1 d2 m0 _ _ lm off _ _ l0 w hb c1
  · by_cases c2 : 120 < l0.length
    · exact way_l 400 h0 h1 h2 d0 d1 d2 m0 _ _ lm off _ _ l0 w hb (by omega) c2
    · obtain ⟨p0, p1, p2, pe, t1, t2⟩ := take_head l0 b0 400 (by omega)
      obtain ⟨q0, q1, q2, qe, t3, t4⟩ := take_done l0 b0 400 (by omega)
      obtain ⟨t0, lt, te, t5, t6⟩ := take_mark l0 b0 (by omega) 400 (by omega)
      obtain ⟨v0, ve, t7, t8⟩ := take_off l0 b0 400 (by omega)
      obtain ⟨X1, x1, x2⟩ := put_head h0 h1 h2 n0.2 n1.2 400 (by omega)
      obtain ⟨X2, x3, x4⟩ := put_done d0 d1 d2 n2.2 400 (by omega)
      obtain ⟨X3, x5, x6⟩ := put_mark m0 lm n3.2 400 (by omega)
      obtain ⟨X4, x7, x8⟩ := put_off off n4.2 400 (by omega)
      exact main_ 400 h0 h1 h2 d0 d1 d2 m0 _ _ lm off _ _ l0 p0 p1 p2 pe q0 q1 q2 qe t0 lt te v0 ve X1 X2 X3 X4 w hb (Kd.C_of_reads (d := (0 : Int)) (h1 := fun _ => rfl) hr0) hc0 (Kd.C_of_reads (d := (0 : Int)) (h1 := fun _ => rfl) hrm) hcm (by omega) (by omega) t1 t2 t3 t4 t5 t6 t7 t8 x1 x2 x3 x4 x5 x6 x7 x8

end Go.Proofs.Ytfgeffmlfbeodaa.Pure
