/- NodeBack: a node comes back; its bytes cut off, or with one more, are none. No condition. -/
import Derived.Test.YtfgeffmlfbeodaaWalkNodeBack
import Derived.Test.YtfgeffmlfbeodaaCrc
import Derived.Test.YtfgeffmlfbeodaaNodeOpen
namespace Go.Proofs.Ytfgeffmlfbeodaa.Pure
open Go.Proofs.Ytfgeffmlfbeodaa Go.RowKit Go.Proofs.Ytfgeffmlfbeodaa.PNodeBack Go.Proofs.YtfgeffmlfbeodaaW.PrintWords Go.Proofs.YtfgeffmlfbeodaaW.PrintLast
set_option linter.unusedVariables false
section Be
open Go.Proofs.Ytfgeffmlfbeodaa.Crc
/-- A number in so many bytes, the highest first. -/
def be : Nat → Int → List Int
  | 0, _ => []
  | n + 1, v => (v / 256 ^ n) % 256 :: be n v
def nmF (a : Int) (l : List Int) : Int := l.foldl (fun a c => a * 256 + c) a
def nm (l : List Int) : Int := nmF 0 l
theorem be_length (n : Nat) (v : Int) : (be n v).length = n := by
  induction n with
  | zero => rfl
  | succ n ih => simp [be, ih]
theorem be_bytes (n : Nat) (v : Int) : Bytes8 (be n v) := by
  induction n with
  | zero => intro x hx; simp [be] at hx
  | succ n ih =>
    intro x hx
    rcases List.mem_cons.1 hx with rfl | h
    · exact ⟨Int.emod_nonneg _ (by decide), Int.emod_lt_of_pos _ (by decide)⟩
    · exact ih x h
theorem nat_mod_split (v m : Nat) : v % (m * 256) = (v / m % 256) * m + v % m := by
  rw [Nat.mod_mul, Nat.mul_comm m, Nat.add_comm]
theorem pw (n : Nat) : (256 : Int) ^ n = ((256 ^ n : Nat) : Int) := by rw [Int.natCast_pow]; rfl
theorem pw_pos (n : Nat) : (0 : Int) < 256 ^ n := Int.pow_pos (by decide)
theorem nmF_be (n : Nat) (v : Nat) : ∀ a : Int, nmF a (be n (v : Int)) = a * 256 ^ n + ((v % 256 ^ n : Nat) : Int) := by
  induction n with
  | zero => intro a; simp [be, nmF, Nat.mod_one]
  | succ n ih =>
    intro a
    have e : nmF a (be (n + 1) (v : Int)) = nmF (a * 256 + ((v : Int) / 256 ^ n) % 256) (be n (v : Int)) := rfl
    rw [e, ih]
    have h1 : ((v : Int) / 256 ^ n) % 256 = ((v / 256 ^ n % 256 : Nat) : Int) := by rw [pw]; rfl
    rw [h1, Nat.pow_succ, nat_mod_split]
    have h2 : (256 : Int) ^ (n + 1) = 256 ^ n * 256 := Int.pow_succ ..
    rw [h2, Int.natCast_add, Int.natCast_mul, ← pw, Int.add_mul, Int.mul_assoc, Int.mul_comm (256 : Int) (256 ^ n), Int.add_assoc]
theorem nm_be (n : Nat) (v : Int) (h0 : 0 ≤ v) (h1 : v < 256 ^ n) : nm (be n v) = v := by
  obtain ⟨m, rfl⟩ := Int.eq_ofNat_of_zero_le h0
  unfold nm
  rw [nmF_be, Int.zero_mul, Int.zero_add, Nat.mod_eq_of_lt]
  have : ((m : Nat) : Int) < ((256 ^ n : Nat) : Int) := by rw [← pw]; exact h1
  exact Int.ofNat_lt.1 this
theorem nmF_append (a : Int) (l r : List Int) : nmF a (l ++ r) = nmF (nmF a l) r := by simp [nmF]
theorem nmF_bound (l : List Int) (hl : Bytes8 l) : ∀ a : Int, a * 256 ^ l.length ≤ nmF a l ∧ nmF a l < (a + 1) * 256 ^ l.length := by
  induction l with
  | nil => intro a; simp [nmF]; omega
  | cons x l ih =>
    intro a
    have hx := hl x (by simp)
    have := ih (fun y hy => hl y (List.mem_cons_of_mem _ hy)) (a * 256 + x)
    have e : nmF a (x :: l) = nmF (a * 256 + x) l := rfl
    rw [e, List.length_cons]
    have hp : (0 : Int) < 256 ^ l.length := pw_pos _
    have h2 : (256 : Int) ^ (l.length + 1) = 256 * 256 ^ l.length := by rw [Int.pow_succ, Int.mul_comm]
    rw [h2, ← Int.mul_assoc, ← Int.mul_assoc]
    have h3 : a * 256 * 256 ^ l.length ≤ (a * 256 + x) * 256 ^ l.length := Int.mul_le_mul_of_nonneg_right (by omega) (Int.le_of_lt hp)
    have h4 : (a * 256 + x + 1) * 256 ^ l.length ≤ (a + 1) * 256 * 256 ^ l.length := Int.mul_le_mul_of_nonneg_right (by omega) (Int.le_of_lt hp)
    omega
theorem nm_range {l : List Int} (hl : Bytes8 l) : 0 ≤ nm l ∧ nm l < 256 ^ l.length := by
  have := nmF_bound l hl 0
  simp at this
  exact this
theorem be_nmF (l : List Int) (hl : Bytes8 l) : ∀ a : Int, 0 ≤ a → be l.length (nmF a l) = l := by
  induction l with
  | nil => intro a _; rfl
  | cons x l ih =>
    intro a ha
    have hx := hl x (by simp)
    have hl' : Bytes8 l := fun y hy => hl y (List.mem_cons_of_mem _ hy)
    have e : nmF a (x :: l) = nmF (a * 256 + x) l := rfl
    rw [e, List.length_cons, be, ih hl' _ (by omega)]
    have hb := nmF_bound l hl' (a * 256 + x)
    have hp : (0 : Int) < 256 ^ l.length := pw_pos _
    have hd : nmF (a * 256 + x) l / 256 ^ l.length = a * 256 + x := by
      apply Int.le_antisymm
      · have := Int.ediv_lt_of_lt_mul hp hb.2; omega
      · exact (Int.le_ediv_iff_mul_le hp).2 hb.1
    rw [hd]
    congr 1
    omega
theorem be_nm (l : List Int) (hl : Bytes8 l) : be l.length (nm l) = l := be_nmF l hl 0 (by omega)
theorem be_inj {n : Nat} {u v : Int} (hu : 0 ≤ u ∧ u < 256 ^ n) (hv : 0 ≤ v ∧ v < 256 ^ n) (h : be n u = be n v) : u = v := by
  rw [← nm_be n u hu.1 hu.2, h, nm_be n v hv.1 hv.2]
theorem nm_inj {l r : List Int} (hl : Bytes8 l) (hr : Bytes8 r) (hlen : l.length = r.length) (h : nm l = nm r) : l = r := by
  rw [← be_nm l hl, ← be_nm r hr, h, hlen]
end Be

section Loops
open Go.Proofs.Ytfgeffmlfbeodaa.Crc
theorem shr_byte (K : IntKind) (hK : K.bits = 64) (v : Int) (n : Nat) (hn : n < 8) : shr K v (wrap64 (8 * (n : Int))) = v / 256 ^ n := by
  unfold shr
  rw [hK, show wrap64 (8 * (n : Int)) = 8 * (n : Int) from by unfold wrap64; omega, show (8 * (n : Int)).toNat = 8 * n from by omega, Nat.min_eq_left (by omega), Int.pow_mul]
  rfl
/-- A loop that puts a number's bytes, the highest first. -/
theorem put_loop {L : Nat → List Int → Int → Int → Option (List Int)} (K : IntKind) (hK : K.bits = 64)
    (hL : ∀ k b v i, L (k + 1) b v i = if i ≥ 0 then (if 0 ≤ (wrap64 (8 * i)) then (if b.length < 140737488355328 then (L k (b ++ [(shr K v (wrap64 (8 * i))) % 256]) v (wrap64 (i - 1))) else (none)) else (none)) else (some b)) (v : Int) :
    ∀ (n k : Nat) (b : List Int), n ≤ 8 → n + 1 ≤ k → b.length + n ≤ 140737488355328 → L k b v ((n : Int) - 1) = some (b ++ be n v)
  | 0, k, b, _, hk, _ => by
    obtain ⟨k, rfl⟩ : ∃ m, k = m + 1 := ⟨k - 1, by omega⟩
    rw [hL, if_neg (by omega)]; simp [be]
  | n + 1, k, b, hn, hk, hb => by
    obtain ⟨k, rfl⟩ : ∃ m, k = m + 1 := ⟨k - 1, by omega⟩
    rw [show (((n + 1 : Nat) : Int) - 1) = (n : Int) from by omega, hL, if_pos (by omega), if_pos (by unfold wrap64; omega), if_pos (by omega), shr_byte K hK v n (by omega), show wrap64 ((n : Int) - 1) = (n : Int) - 1 from by unfold wrap64; omega,
      put_loop K hK hL v n k _ (by omega) (by omega) (by simp only [List.length_append, List.length_cons, List.length_nil]; omega)]
    simp [be]
theorem or64 (x y : Int) (hx0 : 0 ≤ x) (hx1 : x < 72057594037927936) (hy0 : 0 ≤ y) (hy1 : y < 256) : Go.bits .or .u64 (x * 256) y = x * 256 + y :=
  Go.bits_join .u64 64 (by decide) (fun n h0 h1 => by rw [Go.IntKind.wrap_u64]; omega) 8 (x * 256) y (by omega) (by omega) (by omega) hy0 (by omega) (by omega)
theorem wrap_u64' (x : Int) (h0 : 0 ≤ x) (h1 : x < 18446744073709551616) : IntKind.u64.wrap x = x := by rw [Go.IntKind.wrap_u64]; omega
theorem ofInt64_congr {x y : Int} (h : x % 18446744073709551616 = y % 18446744073709551616) : BitVec.ofInt 64 x = BitVec.ofInt 64 y := by
  apply BitVec.eq_of_toNat_eq
  rw [BitVec.toNat_ofInt, BitVec.toNat_ofInt]
  show (x % (18446744073709551616 : Int)).toNat = (y % (18446744073709551616 : Int)).toNat
  rw [h]
theorem or_i64 (X X' Y Y' : Int) (hx : X % 18446744073709551616 = X' % 18446744073709551616) (hy : Y % 18446744073709551616 = Y' % 18446744073709551616) : Go.bits .or .i64 X Y = wrap64 (Go.bits .or .u64 X' Y') := by
  have e1 : Go.bits .or .i64 X Y = IntKind.i64.wrap ((BitVec.ofInt 64 X ||| BitVec.ofInt 64 Y).toNat : Int) := rfl
  have e2 : Go.bits .or .u64 X' Y' = IntKind.u64.wrap ((BitVec.ofInt 64 X' ||| BitVec.ofInt 64 Y').toNat : Int) := rfl
  have hb := (BitVec.ofInt 64 X' ||| BitVec.ofInt 64 Y').isLt
  rw [e1, e2, ofInt64_congr hx, ofInt64_congr hy, wrap_u64' _ (by omega) (by omega)]
  exact i64_w _
theorem rd_at (l : List Int) (j : Nat) (hl : j < l.length) : rd l (j : Int) = l[j] := by simp [rd, List.getD_eq_getElem?_getD, List.getElem?_eq_getElem hl]
theorem nm_take_succ (l : List Int) (i : Nat) (hi : i < l.length) : nm (l.take (i + 1)) = nm (l.take i) * 256 + l[i] := by
  rw [List.take_succ_eq_append_getElem hi]; unfold nm; rw [nmF_append]; rfl
theorem nm_small {l : List Int} (hl : Bytes8 l) (h : l.length ≤ 7) : 0 ≤ nm l ∧ nm l < 72057594037927936 := by
  have h1 := nm_range hl
  refine ⟨h1.1, Int.lt_of_lt_of_le h1.2 ?_⟩
  have : (256 : Nat) ^ l.length ≤ 256 ^ 7 := Nat.pow_le_pow_right (by decide) h
  rw [pw]
  exact Int.ofNat_le.2 this
theorem nm_u64 {l : List Int} (hl : Bytes8 l) (h : l.length ≤ 8) : 0 ≤ nm l ∧ nm l < 18446744073709551616 := by
  have h1 := nm_range hl
  refine ⟨h1.1, Int.lt_of_lt_of_le h1.2 ?_⟩
  have : (256 : Nat) ^ l.length ≤ 256 ^ 8 := Nat.pow_le_pow_right (by decide) h
  rw [pw]
  exact Int.ofNat_le.2 this
/-- A loop that reads a number, unsigned. -/
theorem num_loop {L : Nat → Int → List Int → Int → Int → Option Int}
    (hL : ∀ k a xs len i, L (k + 1) a xs len i = if i < len then (if 0 ≤ i then (if i < (xs.length : Int) then (L k (Go.bits .or .u64 (IntKind.u64.wrap (a * 256)) (IntKind.u64.wrap (rd xs i))) xs len (wrap64 (i + 1))) else (none)) else (none)) else (some a))
    (l : List Int) (hb : Bytes8 l) (h8 : l.length ≤ 8) : ∀ (n i k : Nat), i + n = l.length → n + 1 ≤ k → L k (nm (l.take i)) l (l.length : Int) (i : Int) = some (nm l)
  | 0, i, k, hi, hk => by
    obtain ⟨k, rfl⟩ : ∃ m, k = m + 1 := ⟨k - 1, by omega⟩
    rw [hL, if_neg (by omega), List.take_of_length_le (by omega)]
  | n + 1, i, k, hi, hk => by
    obtain ⟨k, rfl⟩ : ∃ m, k = m + 1 := ⟨k - 1, by omega⟩
    have hx := hb (l[i]'(by omega)) (List.getElem_mem (by omega))
    have hs := nm_small (l := l.take i) (fun x hx => hb x (List.mem_of_mem_take hx)) (by rw [List.length_take]; omega)
    rw [hL, if_pos (by omega), if_pos (by omega), if_pos (by omega), rd_at l i (by omega), wrap_u64' _ (by omega) (by omega), wrap_u64' _ (by omega) (by omega), or64 _ _ (by omega) (by omega) (by omega) (by omega),
      show wrap64 ((i : Int) + 1) = ((i + 1 : Nat) : Int) from by unfold wrap64; omega, ← nm_take_succ l i (by omega)]
    exact num_loop hL l hb h8 n (i + 1) k (by omega) (by omega)
/-- A loop that reads a number, signed. -/
theorem num_loop_i {L : Nat → Int → List Int → Int → Int → Option Int}
    (hL : ∀ k a xs len i, L (k + 1) a xs len i = if i < len then (if 0 ≤ i then (if i < (xs.length : Int) then (L k (Go.bits .or .i64 (wrap64 (a * 256)) (wrap64 (rd xs i))) xs len (wrap64 (i + 1))) else (none)) else (none)) else (some a))
    (l : List Int) (hb : Bytes8 l) (h8 : l.length ≤ 8) : ∀ (n i k : Nat), i + n = l.length → n + 1 ≤ k → L k (wrap64 (nm (l.take i))) l (l.length : Int) (i : Int) = some (wrap64 (nm l))
  | 0, i, k, hi, hk => by
    obtain ⟨k, rfl⟩ : ∃ m, k = m + 1 := ⟨k - 1, by omega⟩
    rw [hL, if_neg (by omega), List.take_of_length_le (by omega)]
  | n + 1, i, k, hi, hk => by
    obtain ⟨k, rfl⟩ : ∃ m, k = m + 1 := ⟨k - 1, by omega⟩
    have hx := hb (l[i]'(by omega)) (List.getElem_mem (by omega))
    have hs := nm_small (l := l.take i) (fun x hx => hb x (List.mem_of_mem_take hx)) (by rw [List.length_take]; omega)
    rw [hL, if_pos (by omega), if_pos (by omega), if_pos (by omega), rd_at l i (by omega), or_i64 _ (nm (l.take i) * 256) _ (l[i]'(by omega)) (by unfold wrap64; omega) (by unfold wrap64; omega), or64 _ _ (by omega) (by omega) (by omega) (by omega),
      show wrap64 ((i : Int) + 1) = ((i + 1 : Nat) : Int) from by unfold wrap64; omega, ← nm_take_succ l i (by omega)]
    exact num_loop_i hL l hb h8 n (i + 1) k (by omega) (by omega)
end Loops

section StrEq
open Go.Proofs.Ytfgeffmlfbeodaa.Crc
theorem str_back {l : List Int} (hl : Bytes8 l) : bytesOf (strOfNums l) = l := by
  have e : bytesOf (strOfNums l) = l.map fun x => ((UInt8.ofNat x.toNat).toNat : Int) := by simp [bytesOf, strOfNums, Function.comp_def]
  rw [e]
  conv => rhs; rw [← List.map_id l]
  apply List.map_congr_left
  intro x hx
  have := hl x hx
  simp; omega
theorem str_eq {a b : List Int} (ha : Bytes8 a) (hb : Bytes8 b) : ((strOfNums a).toList == (strOfNums b).toList) = decide (a = b) := by
  by_cases h : a = b
  · rw [h]; simp
  · rw [decide_eq_false h, beq_eq_false_iff_ne]
    intro h2
    apply h
    have h3 : strOfNums a = strOfNums b := by
      have e : ∀ s : ByteArray, s.toList = s.data.toList := fun s => Go.ByteArray.toList_eq s
      rw [e, e] at h2
      have h4 : (strOfNums a).data = (strOfNums b).data := Array.toList_inj.1 h2
      cases ha' : strOfNums a
      cases hb' : strOfNums b
      rw [ha', hb'] at h4
      simp only at h4
      rw [h4]
    rw [← str_back ha, ← str_back hb, h3]
end StrEq

section Node
open Go.Proofs.Ytfgeffmlfbeodaa.Crc Go.Proofs.Ytfgeffmlfbeodaa.Rn
def okI (x : S87) : Bool := !decide ((x.f0.length : Int) > 60) && !decide ((x.f1.length : Int) > 150)
def okK (x : List Int) : Bool := !decide ((x.length : Int) > 60)
def lightL (I : List S87) (K : List (List Int)) (T : List S90) : Bool := decide ((I.length : Int) ≤ 12) && (decide ((K.length : Int) ≤ 12) && decide ((T.length : Int) ≤ 12))
def lightN (I : List S87) (K : List (List Int)) (T : List S90) : Bool := I.all okI && (K.all okK && lightL I K T)
theorem rdI (I : List S87) (j : Nat) (h : j < I.length) : rd_T87 I (j : Int) = I[j] := by simp [rd_T87, List.getD_eq_getElem?_getD, List.getElem?_eq_getElem h]
theorem rdT (I : List S90) (j : Nat) (h : j < I.length) : rd_T90 I (j : Int) = I[j] := by simp [rd_T90, List.getD_eq_getElem?_getD, List.getElem?_eq_getElem h]
theorem rdL (I : List (List Int)) (j : Nat) (h : j < I.length) : rd_L1 I (j : Int) = I[j] := by simp [rd_L1, List.getD_eq_getElem?_getD, List.getElem?_eq_getElem h]
theorem w1 (i n : Nat) (h : i < n) (hn : n ≤ 9223372036854775807) : wrap64 ((i : Int) + 1) = ((i + 1 : Nat) : Int) := by unfold wrap64; omega
theorem light1 (a0 : Bool) (I : List S87) (K : List (List Int)) (T : List S90) (hK : K.length ≤ 9223372036854775807) : ∀ n i k : Nat, i + n = K.length → n + 1 ≤ k → pandectlaw9_Light.l1 k (i : Int) a0 I K T = some ((K.drop i).all okK && lightL I K T)
  | 0, i, k, hi, hk => by
    obtain ⟨k, rfl⟩ : ∃ m, k = m + 1 := ⟨k - 1, by omega⟩
    rw [pandectlaw9_Light.l1, if_neg (by omega), List.drop_of_length_le (by omega)]
    unfold lightL
    by_cases a : (I.length : Int) ≤ 12 <;> by_cases b : (K.length : Int) ≤ 12 <;> simp [a, b]
  | n + 1, i, k, hi, hk => by
    obtain ⟨k, rfl⟩ : ∃ m, k = m + 1 := ⟨k - 1, by omega⟩
    rw [pandectlaw9_Light.l1, if_pos (by omega), if_pos (by omega), rdL K i (by omega), List.drop_eq_getElem_cons (by omega : i < K.length), w1 i K.length (by omega) hK, light1 a0 I K T hK n (i + 1) k (by omega) (by omega), List.all_cons]
    by_cases c : ((K[i]'(by omega)).length : Int) > 60
    · rw [if_pos c]; simp only [okK, decide_eq_true c]; rfl
    · rw [if_neg c]; simp only [okK, decide_eq_false c, Bool.not_false, Bool.true_and]
theorem light0 (a0 : Bool) (I : List S87) (K : List (List Int)) (T : List S90) (hI : I.length ≤ 9223372036854775807) (hK : K.length ≤ 9223372036854775807) : ∀ n i k : Nat, i + n = I.length → n + K.length + 2 ≤ k → pandectlaw9_Light.l0 k (i : Int) a0 I K T = some ((I.drop i).all okI && (K.all okK && lightL I K T))
  | 0, i, k, hi, hk => by
    obtain ⟨k, rfl⟩ : ∃ m, k = m + 1 := ⟨k - 1, by omega⟩
    rw [pandectlaw9_Light.l0, if_neg (by omega), List.drop_of_length_le (by omega), show (0 : Int) = ((0 : Nat) : Int) from rfl, light1 a0 I K T hK K.length 0 k (by omega) (by omega)]
    simp
  | n + 1, i, k, hi, hk => by
    obtain ⟨k, rfl⟩ : ∃ m, k = m + 1 := ⟨k - 1, by omega⟩
    rw [pandectlaw9_Light.l0, if_pos (by omega), if_pos (by omega), rdI I i (by omega), List.drop_eq_getElem_cons (by omega : i < I.length), w1 i I.length (by omega) hI, light0 a0 I K T hI hK n (i + 1) k (by omega) (by omega), List.all_cons]
    by_cases c : ((I[i]'(by omega)).f0.length : Int) > 60
    · rw [if_pos c]; simp only [okI, decide_eq_true c]; rfl
    · rw [if_neg c]
      by_cases d : ((I[i]'(by omega)).f1.length : Int) > 150
      · rw [if_pos d]; simp only [okI, decide_eq_true d, Bool.not_true, Bool.and_false, Bool.false_and]
      · rw [if_neg d]; simp only [okI, decide_eq_false c, decide_eq_false d, Bool.not_false, Bool.true_and]
theorem light_is (k : Nat) (a0 : Bool) (I : List S87) (K : List (List Int)) (T : List S90) (hI : I.length ≤ 9223372036854775807) (hK : K.length ≤ 9223372036854775807) (hk : I.length + K.length + 2 ≤ k) : pandectlaw9_Light.f k a0 I K T = some (lightN I K T) := by
  unfold pandectlaw9_Light.f
  rw [show (0 : Int) = ((0 : Nat) : Int) from rfl, light0 a0 I K T hI hK I.length 0 k (by omega) hk, List.drop_zero]; rfl
theorem rising_tot (L : List (List Int)) (hL : L.length ≤ 9223372036854775807) : ∀ n i k : Nat, i + n = L.length → n + 1 ≤ k → ∃ r, node_rising.l0 k L L (L.length : Int) (i : Int) = some r
  | 0, i, k, hi, hk => by
    obtain ⟨k, rfl⟩ : ∃ m, k = m + 1 := ⟨k - 1, by omega⟩
    exact ⟨true, by rw [node_rising.l0, if_neg (by omega)]⟩
  | n + 1, i, k, hi, hk => by
    obtain ⟨k, rfl⟩ : ∃ m, k = m + 1 := ⟨k - 1, by omega⟩
    obtain ⟨r, ih⟩ := rising_tot L hL n (i + 1) k (by omega) (by omega)
    rw [node_rising.l0, if_pos (by omega), if_pos (by omega), if_pos (by omega), w1 i L.length (by omega) hL, ih]
    by_cases c1 : ((rd_L1 L (i : Int)).length : Int) < 1
    · exact ⟨false, by rw [if_pos c1]⟩
    rw [if_neg c1]
    by_cases c2 : ((rd_L1 L (i : Int)).length : Int) > 40
    · exact ⟨false, by rw [if_pos c2]⟩
    rw [if_neg c2]
    by_cases c3 : (i : Int) > 0
    · have e : wrap64 ((i : Int) - 1) = (i : Int) - 1 := by unfold wrap64; omega
      rw [if_pos c3, e, if_pos (by omega), if_pos (by omega)]
      unfold bytes_Compare.f
      rw [Option.bind_some]
      by_cases c4 : Extern.BytealgCompare.cmp (strOfNums (rd_L1 L ((i : Int) - 1))) (strOfNums (rd_L1 L (i : Int))) ≥ 0
      · exact ⟨false, by rw [if_pos c4]⟩
      · exact ⟨r, by rw [if_neg c4]⟩
    · exact ⟨r, by rw [if_neg c3]⟩
theorem keys_is (I : List S87) (hI : I.length ≤ 1000) : ∀ (n i k : Nat) (x : List (List Int)), i + n = I.length → n + 1 ≤ k → x.length = i → node_keys.l0 k x I (I.length : Int) (i : Int) = some (x ++ (I.drop i).map (·.f0))
  | 0, i, k, x, hi, hk, hx => by
    obtain ⟨k, rfl⟩ : ∃ m, k = m + 1 := ⟨k - 1, by omega⟩
    rw [node_keys.l0, if_neg (by omega), List.drop_of_length_le (by omega)]; simp
  | n + 1, i, k, x, hi, hk, hx => by
    obtain ⟨k, rfl⟩ : ∃ m, k = m + 1 := ⟨k - 1, by omega⟩
    rw [node_keys.l0, if_pos (by omega), if_pos (by omega), if_pos (by omega), if_pos (by omega), rdI I i (by omega), w1 i I.length (by omega) (by omega), keys_is I hI n (i + 1) k _ (by omega) (by omega) (by simp [hx]), List.drop_eq_getElem_cons (by omega : i < I.length)]
    simp only [List.map_cons, List.append_assoc, List.singleton_append]
theorem may_tot (k : Nat) (hk : 20 ≤ k) (a0 : Bool) (I : List S87) (K : List (List Int)) (T : List S90) : ∃ r, node_May.f k a0 I K T = some r ∧ (r = true → (a0 = true ∧ I.length ≤ 8 ∧ K = [] ∧ T = []) ∨ (a0 = false ∧ T.length ≤ 8 ∧ K.length = T.length ∧ I = [])) := by
  unfold node_May.f
  cases a0
  · rw [if_neg (by decide)]
    by_cases c : 2 ≤ T.length ∧ T.length ≤ 8 ∧ K.length = T.length
    · obtain ⟨r, h⟩ := rising_tot K (by omega) K.length 0 k (by omega) (by omega)
      unfold node_rising.f
      rw [if_pos c, show (0 : Int) = ((0 : Nat) : Int) from rfl, h, Option.bind_some]
      refine ⟨_, rfl, fun e => .inr ⟨rfl, c.2.1, c.2.2, ?_⟩⟩
      simp only [Bool.and_eq_true, decide_eq_true_eq] at e
      exact List.length_eq_zero_iff.1 e.2
    · exact ⟨false, by rw [if_neg c], fun e => by cases e⟩
  · rw [if_pos rfl]
    by_cases c : 1 ≤ I.length ∧ I.length ≤ 8
    · have hks := keys_is I (by omega) I.length 0 k [] (by omega) (by omega) rfl
      unfold node_keys.f
      rw [if_pos c, show (0 : Int) = ((0 : Nat) : Int) from rfl, hks, Option.bind_some]
      simp only [List.nil_append, List.drop_zero]
      obtain ⟨r, h⟩ := rising_tot (I.map (·.f0)) (by simp; omega) I.length 0 k (by simp) (by omega)
      unfold node_rising.f
      rw [show (0 : Int) = ((0 : Nat) : Int) from rfl, h, Option.bind_some]
      refine ⟨_, rfl, fun e => .inl ⟨by simp, c.2, ?_⟩⟩
      simp only [Bool.and_eq_true, decide_eq_true_eq] at e
      exact ⟨List.length_eq_zero_iff.1 e.1.2, List.length_eq_zero_iff.1 e.2⟩
    · exact ⟨false, by rw [if_neg c], fun e => by cases e⟩
theorem ustep_nm (a x : Int) (h0 : 0 ≤ a) (h1 : a < 72057594037927936) (hx : 0 ≤ x ∧ x < 256) : ustep a x = a * 256 + x := by
  unfold ustep
  rw [wrap_u64' _ (by omega) (by omega), wrap_u64' _ (by omega) (by omega), or64 _ _ h0 h1 hx.1 hx.2]
theorem numu_take (l : List Int) (hb : Bytes8 l) (h8 : l.length ≤ 8) : ∀ i, i ≤ l.length → numu (l.take i) = nm (l.take i)
  | 0, _ => by simp [numu, nm, nmF]
  | i + 1, hi => by
    have hx := hb (l[i]'(by omega)) (List.getElem_mem (by omega))
    have hs := nm_small (l := l.take i) (fun x hx => hb x (List.mem_of_mem_take hx)) (by rw [List.length_take]; omega)
    rw [nm_take_succ l i (by omega), ← ustep_nm _ _ hs.1 hs.2 (by omega), ← numu_take l hb h8 i (by omega), List.take_succ_eq_append_getElem (by omega)]
    unfold numu
    rw [List.foldl_append]; rfl
theorem numu_nm (l : List Int) (hb : Bytes8 l) (h8 : l.length ≤ 8) : numu l = nm l := by
  have := numu_take l hb h8 l.length (Nat.le_refl _)
  rwa [List.take_length] at this
/-- What is written. -/
def lenb (t : List Int) : List Int := (t.length : Int) :: t
def encI (x : S87) : List Int := lenb x.f0 ++ lenb x.f1
def encR (r : S90) : List Int := be 8 (IntKind.u64.wrap r.f0) ++ be 8 r.f1
def encN : List (List Int) → List S90 → List Int
  | a :: K, r :: T => lenb a ++ (encR r ++ encN K T)
  | _, _ => []
def nodeB (a0 : Bool) (I : List S87) (K : List (List Int)) (T : List S90) : List Int := if a0 = true then 76 :: (I.length : Int) :: I.flatMap encI else 78 :: (T.length : Int) :: encN K T
theorem text_is (l t : List Int) (hl : l.length ≤ 1000000) (ht : t.length ≤ 255) : node_text.f l t = some (l ++ lenb t) := by
  unfold node_text.f
  rw [if_pos (by omega), Option.bind_some, if_pos (by simp only [List.length_append, List.length_cons, List.length_nil]; omega), Int.emod_eq_of_lt (by omega) (by omega)]
  simp [lenb]
theorem number_is (k : Nat) (hk : 9 ≤ k) (l : List Int) (hl : l.length ≤ 1000000) (a : Int) : node_number.f k l a = some (l ++ be 8 a) :=
  put_loop (L := node_number.l0) .u64 rfl (fun k b v i => by rw [node_number.l0]) a 8 k l (by omega) (by omega) (by omega)
theorem okI_len {x : S87} (h : okI x = true) : x.f0.length ≤ 60 ∧ x.f1.length ≤ 150 := by
  simp only [okI, Bool.and_eq_true, Bool.not_eq_true', decide_eq_false_iff_not] at h
  omega
theorem okK_len {x : List Int} (h : okK x = true) : x.length ≤ 60 := by
  simp only [okK, Bool.not_eq_true', decide_eq_false_iff_not] at h
  omega
theorem putL (I : List S87) (hI : I.all okI = true) (h8 : I.length ≤ 1000) : ∀ (n i k : Nat) (x : List Int), i + n = I.length → n + 1 ≤ k → x.length + 300 * n ≤ 100000 → node_Put.l0 k x I (I.length : Int) (i : Int) = some (x ++ (I.drop i).flatMap encI)
  | 0, i, k, x, hi, hk, hx => by
    obtain ⟨k, rfl⟩ : ∃ m, k = m + 1 := ⟨k - 1, by omega⟩
    rw [node_Put.l0, if_neg (by omega), List.drop_of_length_le (by omega)]; simp
  | n + 1, i, k, x, hi, hk, hx => by
    obtain ⟨k, rfl⟩ : ∃ m, k = m + 1 := ⟨k - 1, by omega⟩
    have hl := okI_len (List.all_eq_true.1 hI (I[i]'(by omega)) (List.getElem_mem _))
    rw [node_Put.l0, if_pos (by omega), if_pos (by omega), if_pos (by omega), rdI I i (by omega), text_is x _ (by omega) (by omega), Option.bind_some, text_is _ _ (by simp only [List.length_append, lenb, List.length_cons]; omega) (by omega), Option.bind_some,
      w1 i I.length (by omega) (by omega), putL I hI h8 n (i + 1) k _ (by omega) (by omega) (by simp only [List.length_append, lenb, List.length_cons]; omega), List.drop_eq_getElem_cons (by omega : i < I.length)]
    simp only [List.flatMap_cons, encI, List.append_assoc]
theorem putN (a0 : Bool) (I : List S87) (K : List (List Int)) (T : List S90) (hK : K.all okK = true) (hKT : K.length = T.length) (h8 : T.length ≤ 1000) : ∀ (n i k : Nat) (x : List Int), i + n = T.length → n + 10 ≤ k → x.length + 100 * n ≤ 100000 → node_Put.l1 k x T (T.length : Int) (i : Int) a0 I K T = some (x ++ encN (K.drop i) (T.drop i))
  | 0, i, k, x, hi, hk, hx => by
    obtain ⟨k, rfl⟩ : ∃ m, k = m + 1 := ⟨k - 1, by omega⟩
    rw [node_Put.l1, if_neg (by omega), List.drop_of_length_le (by omega), List.drop_of_length_le (by omega)]; simp [encN]
  | n + 1, i, k, x, hi, hk, hx => by
    obtain ⟨k, rfl⟩ : ∃ m, k = m + 1 := ⟨k - 1, by omega⟩
    have hl := okK_len (List.all_eq_true.1 hK (K[i]'(by omega)) (List.getElem_mem _))
    rw [node_Put.l1, if_pos (by omega), if_pos (by omega), if_pos (by omega), if_pos (by omega), rdL K i (by omega), rdT T i (by omega), text_is x _ (by omega) (by omega), Option.bind_some, number_is k (by omega) _ (by simp only [List.length_append, lenb, List.length_cons]; omega), Option.bind_some,
      number_is k (by omega) _ (by simp only [List.length_append, lenb, List.length_cons, be_length]; omega), Option.bind_some, w1 i T.length (by omega) (by omega),
      putN a0 I K T hK hKT h8 n (i + 1) k _ (by omega) (by omega) (by simp only [List.length_append, lenb, List.length_cons, be_length]; omega), List.drop_eq_getElem_cons (by omega : i < K.length), List.drop_eq_getElem_cons (by omega : i < T.length)]
    simp only [encN, encR, List.append_assoc]
theorem put_node (k : Nat) (hk : 30 ≤ k) (a0 : Bool) (I : List S87) (K : List (List Int)) (T : List S90) (hl : lightN I K T = true) (hm : node_May.f k a0 I K T = some true) : node_Put.f k a0 I K T = some (nodeB a0 I K T) := by
  obtain ⟨r, h1, h2⟩ := may_tot k (by omega) a0 I K T
  rw [hm] at h1
  obtain rfl := Option.some.inj h1
  simp only [lightN, Bool.and_eq_true] at hl
  unfold node_Put.f nodeB
  rw [hm, Option.bind_some, if_pos rfl]
  rcases h2 rfl with ⟨rfl, h3, rfl, rfl⟩ | ⟨rfl, h3, h4, rfl⟩
  · rw [if_pos rfl, if_pos rfl, Int.emod_eq_of_lt (by omega) (by omega), show (0 : Int) = ((0 : Nat) : Int) from rfl, putL I hl.1 (by omega) I.length 0 k _ (by omega) (by omega) (by simp; omega)]
    simp
  · rw [if_neg (by decide), if_neg (by decide), Int.emod_eq_of_lt (by omega) (by omega), show (0 : Int) = ((0 : Nat) : Int) from rfl, putN false [] K T hl.2.1 h4 (by omega) T.length 0 k _ (by omega) (by omega) (by simp; omega)]
    simp
theorem put_none (k : Nat) (a0 : Bool) (I : List S87) (K : List (List Int)) (T : List S90) (hm : node_May.f k a0 I K T = some false) : node_Put.f k a0 I K T = some [] := by
  unfold node_Put.f
  rw [hm, Option.bind_some, if_neg (by decide)]
theorem ref_self (l : List S90) (hl : l.length ≤ 1000) : ∀ n i k : Nat, i + n = l.length → n + 1 ≤ k → api_Ref_111.l0 k l l (l.length : Int) (i : Int) = some true
  | 0, i, k, hi, hk => by
    obtain ⟨k, rfl⟩ : ∃ m, k = m + 1 := ⟨k - 1, by omega⟩
    rw [api_Ref_111.l0, if_neg (by omega)]
  | n + 1, i, k, hi, hk => by
    obtain ⟨k, rfl⟩ : ∃ m, k = m + 1 := ⟨k - 1, by omega⟩
    rw [api_Ref_111.l0, if_pos (by omega), if_pos (by omega), if_pos (by omega), if_pos (by omega), if_neg (by simp), w1 i l.length (by omega) (by omega), ref_self l hl n (i + 1) k (by omega) (by omega)]
theorem ref_is (k : Nat) (l : List S90) (hl : l.length ≤ 8) (hk : 10 ≤ k) : api_Ref_111.f k l l = some true := by
  unfold api_Ref_111.f
  rw [if_pos rfl, show (0 : Int) = ((0 : Nat) : Int) from rfl, ref_self l (by omega) l.length 0 k (by omega) (by omega)]
end Node

section NodeTk
open Go.Proofs.Ytfgeffmlfbeodaa.Crc Go.Proofs.Ytfgeffmlfbeodaa.Rn
theorem txt_true (p : List Int) (n : Int) : (txt p true n).2.2 = true := by
  unfold txt
  split <;> rfl
theorem txt_cut (a b : List Int) (n : Int) (h : (a.length : Int) = n) : txt (a ++ b) false n = (a, b, false) := by
  unfold txt
  rw [if_neg (by rw [List.length_append]; omega), show n.toNat = a.length by omega, List.take_left, List.drop_left]
theorem txt_ext (p q : List Int) (s : Bool) (n : Int) (h : (txt p s n).2.2 = false) : txt (p ++ q) s n = ((txt p s n).1, (txt p s n).2.1 ++ q, false) := by
  unfold txt at h ⊢
  by_cases c : (p.length : Int) < n
  · rw [if_pos c] at h; cases h
  · rw [if_neg c] at h ⊢
    rw [if_neg (by rw [List.length_append]; omega), List.take_append_of_le_length (by omega), List.drop_append_of_le_length (by omega)]
    simp only at h
    rw [h]
theorem txt_s {p : List Int} {s : Bool} {n : Int} (h : (txt p s n).2.2 = false) : s = false := by
  cases s with
  | false => rfl
  | true => rw [txt_true] at h; cases h
theorem lng_s {p : List Int} {s : Bool} (h : (lng p s).2.2 = false) : (txt p s 1).2.2 = false := by
  unfold lng at h
  exact txt_s h
theorem lng_true (p : List Int) : (lng p true).2.2 = true := by
  cases h : (lng p true).2.2 with
  | true => rfl
  | false => have := lng_s h; rw [txt_true] at this; cases this
theorem lng_ext (p q : List Int) (s : Bool) (h : (lng p s).2.2 = false) : lng (p ++ q) s = ((lng p s).1, (lng p s).2.1 ++ q, false) := by
  have h1 := lng_s h
  have h2 := txt_ext p q s 1 h1
  unfold lng at h ⊢
  rw [h2]
  simp only
  rw [h1] at h ⊢
  rw [txt_ext _ q false _ h]
theorem tkL_true (n : Nat) (p : List Int) (J : List S87) : (tkL n p true J).2.1 = true := by
  cases n <;> simp [tkL]
theorem tkN_true (n : Nat) (p : List Int) (J : List (List Int)) (U : List S90) : (tkN n p true J U).2.1 = true := by
  cases n <;> simp [tkN]
theorem tkL_s {n : Nat} {p : List Int} {s : Bool} {J : List S87} (h : (tkL n p s J).2.1 = false) : s = false := by
  cases s with
  | false => rfl
  | true => rw [tkL_true] at h; cases h
theorem tkN_s {n : Nat} {p : List Int} {s : Bool} {J : List (List Int)} {U : List S90} (h : (tkN n p s J U).2.1 = false) : s = false := by
  cases s with
  | false => rfl
  | true => rw [tkN_true] at h; cases h
theorem tkL_ext (q : List Int) : ∀ (n : Nat) (p : List Int) (s : Bool) (J : List S87), (tkL n p s J).2.1 = false → tkL n (p ++ q) s J = ((tkL n p s J).1 ++ q, false, (tkL n p s J).2.2)
  | 0, p, s, J, h => by
    obtain rfl := tkL_s h
    rfl
  | n + 1, p, s, J, h => by
    obtain rfl := tkL_s h
    rw [tkL, if_neg (by decide)] at h ⊢
    have h2 := tkL_s h
    have h1 : (lng p false).2.2 = false := txt_s (lng_s h2)
    rw [h1] at h h2
    have e1 := lng_ext p q false h1
    have e2 := lng_ext (lng p false).2.1 q false h2
    rw [h2] at h
    have ih := tkL_ext q n _ _ _ h
    rw [e1]
    simp only
    rw [e2]
    simp only
    rw [ih]
    rw [tkL, if_neg (by decide), h1, h2]
theorem tkN_ext (q : List Int) : ∀ (n : Nat) (p : List Int) (s : Bool) (J : List (List Int)) (U : List S90), (tkN n p s J U).2.1 = false → tkN n (p ++ q) s J U = ((tkN n p s J U).1 ++ q, false, (tkN n p s J U).2.2)
  | 0, p, s, J, U, h => by
    obtain rfl := tkN_s h
    rfl
  | n + 1, p, s, J, U, h => by
    obtain rfl := tkN_s h
    rw [tkN, if_neg (by decide)] at h ⊢
    have h3 := tkN_s h
    have h2 := txt_s h3
    have h1 : (lng p false).2.2 = false := txt_s h2
    rw [h1] at h h2 h3
    rw [h2] at h h3
    rw [h3] at h
    have e1 := lng_ext p q false h1
    have e2 := txt_ext (lng p false).2.1 q false 8 h2
    have e3 := txt_ext (txt (lng p false).2.1 false 8).2.1 q false 8 h3
    have ih := tkN_ext q n _ _ _ _ h
    rw [e1]
    simp only
    rw [e2]
    simp only
    rw [e3]
    simp only
    rw [ih]
    rw [tkN, if_neg (by decide), h1, h2, h3]
theorem numu_one (x : Int) (h0 : 0 ≤ x) (h1 : x < 256) : numu [x] = x := by
  show ustep 0 x = x
  rw [ustep_nm 0 x (by omega) (by omega) ⟨h0, h1⟩]; omega
theorem lng_cut (t z : List Int) (h : t.length ≤ 255) : lng (lenb t ++ z) false = (t, z, false) := by
  unfold lng
  rw [show lenb t ++ z = [(t.length : Int)] ++ (t ++ z) from rfl, txt_cut [(t.length : Int)] (t ++ z) 1 rfl]
  simp only
  rw [numu_one _ (by omega) (by omega), show wrap64 (t.length : Int) = (t.length : Int) by unfold wrap64; omega, txt_cut t z _ rfl]
theorem tkL_enc (z : List Int) : ∀ (I J : List S87), I.all okI = true → tkL I.length (I.flatMap encI ++ z) false J = (z, false, J ++ I)
  | [], J, _ => by simp [tkL]
  | x :: I, J, h => by
    simp only [List.all_cons, Bool.and_eq_true] at h
    have hl := okI_len h.1
    have e1 : lng ((x :: I).flatMap encI ++ z) false = (x.f0, lenb x.f1 ++ (I.flatMap encI ++ z), false) := by
      rw [← lng_cut x.f0 (lenb x.f1 ++ (I.flatMap encI ++ z)) (by omega)]
      simp only [List.flatMap_cons, encI, List.append_assoc]
    have e2 : lng (lenb x.f1 ++ (I.flatMap encI ++ z)) false = (x.f1, I.flatMap encI ++ z, false) := lng_cut _ _ (by omega)
    rw [List.length_cons, tkL, if_neg (by decide), e1]
    simp only
    rw [e2]
    simp only
    rw [tkL_enc z I _ h.2]
    simp
theorem txt_be (v : Int) (z : List Int) : txt (be 8 v ++ z) false 8 = (be 8 v, z, false) := txt_cut _ _ _ (by rw [be_length]; rfl)
theorem numu_be (v : Int) (h0 : 0 ≤ v) (h1 : v < 18446744073709551616) : numu (be 8 v) = v := by
  rw [numu_nm _ (be_bytes 8 v) (by rw [be_length]; omega), nm_be 8 v h0 (by rw [show (256 : Int) ^ 8 = 18446744073709551616 from by decide]; exact h1)]
def InR (r : S90) : Prop := -9223372036854775808 ≤ r.f0 ∧ r.f0 ≤ 9223372036854775807 ∧ 0 ≤ r.f1 ∧ r.f1 < 18446744073709551616
theorem numu_i64 (v : Int) (h0 : -9223372036854775808 ≤ v) (h1 : v ≤ 9223372036854775807) : wrap64 (numu (be 8 (IntKind.u64.wrap v))) = v := by
  have hr : 0 ≤ IntKind.u64.wrap v ∧ IntKind.u64.wrap v < 18446744073709551616 := by rw [Go.IntKind.wrap_u64]; omega
  rw [numu_be _ hr.1 hr.2, Go.IntKind.wrap_u64]
  unfold wrap64
  omega
theorem tkN_enc (z : List Int) : ∀ (K : List (List Int)) (T : List S90) (J : List (List Int)) (U : List S90), K.all okK = true → K.length = T.length → (∀ r ∈ T, InR r) → tkN T.length (encN K T ++ z) false J U = (z, false, J ++ K, U ++ T)
  | [], [], J, U, _, _, _ => by simp [tkN, encN]
  | [], _ :: _, _, _, _, h, _ => by cases h
  | _ :: _, [], _, _, _, h, _ => by cases h
  | a :: K, r :: T, J, U, h, hl, hr => by
    simp only [List.all_cons, Bool.and_eq_true] at h
    have ha := okK_len h.1
    obtain ⟨r1, r2, r3, r4⟩ := hr r (by simp)
    have e1 : lng (encN (a :: K) (r :: T) ++ z) false = (a, be 8 (IntKind.u64.wrap r.f0) ++ (be 8 r.f1 ++ (encN K T ++ z)), false) := by
      rw [← lng_cut a (be 8 (IntKind.u64.wrap r.f0) ++ (be 8 r.f1 ++ (encN K T ++ z))) (by omega)]
      simp only [encN, encR, List.append_assoc]
    rw [List.length_cons, tkN, if_neg (by decide), e1]
    simp only
    rw [txt_be]
    simp only
    rw [txt_be]
    simp only
    rw [numu_i64 _ r1 r2, numu_be _ r3 r4, tkN_enc z K T _ _ h.2 (by simpa using hl) (fun x hx => hr x (List.mem_cons_of_mem _ hx))]
    simp
/-- The head of what is read. -/
def kd (l : List Int) : Int := numu (txt l false 1).1
def hd2 (l : List Int) : List Int × List Int × Bool := txt (txt l false 1).2.1 (txt l false 1).2.2 1
def cn (l : List Int) : Int := wrap64 (numu (hd2 l).1)
theorem cn_ok {l : List Int} (h : Bytes8 l) : 0 ≤ cn l ∧ cn l ≤ 255 := by
  unfold cn hd2
  exact num1 (txt_mem2 (fun c hc => by have := h c hc; omega))
theorem took_mk (k : Nat) (l : List Int) (ok lf : Bool) (I : List S87) (K : List (List Int)) (T : List S90) (xs : List Int) (s : Bool) (hb : Bytes8 l) (h1 : (kd l == 76) = lf)
    (h2 : (lf = true ∧ K = [] ∧ T = [] ∧ tkL (cn l).toNat (hd2 l).2.1 (hd2 l).2.2 [] = (xs, s, I)) ∨ (lf = false ∧ I = [] ∧ tkN (cn l).toNat (hd2 l).2.1 (hd2 l).2.2 [] [] = (xs, s, K, T)))
    (h3 : (s = true ∧ ok = false) ∨ (s = false ∧ ∃ q, node_May.f k lf I K T = some q ∧ ((q = false ∧ ok = false) ∨ (q = true ∧ ∃ b, node_Put.f k lf I K T = some b ∧ bytes_Equal.f b l = some ok)))) : Took k l ok lf I K T :=
  ⟨_, _, _, _, _, _, xs, s, rfl, rfl, rfl, rfl, cn_ok hb, (fun c hc => by have := hb c hc; omega), h1, h2, h3⟩
theorem hd_cut (a n : Int) (z : List Int) (ha : 0 ≤ a ∧ a < 256) (hn : 0 ≤ n ∧ n < 256) : kd (a :: n :: z) = a ∧ cn (a :: n :: z) = n ∧ (hd2 (a :: n :: z)).2 = (z, false) := by
  have e1 : txt (a :: n :: z) false 1 = ([a], n :: z, false) := txt_cut [a] (n :: z) 1 rfl
  have e2 : txt (n :: z) false 1 = ([n], z, false) := txt_cut [n] z 1 rfl
  unfold cn kd hd2
  rw [e1]
  simp only
  rw [e2]
  refine ⟨numu_one a ha.1 ha.2, ?_, rfl⟩
  simp only
  rw [numu_one n hn.1 hn.2]
  unfold wrap64
  omega
theorem hd_ext (p q : List Int) (h : (hd2 p).2.2 = false) : kd (p ++ q) = kd p ∧ cn (p ++ q) = cn p ∧ (hd2 (p ++ q)).2 = ((hd2 p).2.1 ++ q, false) := by
  have h1 : (txt p false 1).2.2 = false := txt_s h
  have e1 := txt_ext p q false 1 h1
  have e2 := txt_ext (txt p false 1).2.1 q false 1 (by unfold hd2 at h; rw [h1] at h; exact h)
  unfold cn kd hd2
  rw [e1]
  simp only
  rw [e2, h1]
  simp
end NodeTk

open Go Go.Proofs Go.Proofs.Ytfgeffmlfbeodaa.Crc Go.Proofs.Ytfgeffmlfbeodaa.Rn
theorem lenb_bytes {t : List Int} (h : Bytes8 t) (hl : t.length ≤ 255) : Bytes8 (lenb t) := fun x hx => by
  rcases List.mem_cons.1 hx with rfl | h1
  · omega
  · exact h x h1
theorem bytes8_app {a b : List Int} (ha : Bytes8 a) (hb : Bytes8 b) : Bytes8 (a ++ b) := fun x hx => by
  rcases List.mem_append.1 hx with h | h
  · exact ha x h
  · exact hb x h
theorem encI_all : ∀ (I : List S87), I.all okI = true → (∀ x ∈ I, Bytes8 x.f0 ∧ Bytes8 x.f1) → Bytes8 (I.flatMap encI) ∧ (I.flatMap encI).length ≤ 212 * I.length
  | [], _, _ => ⟨fun x hx => (by cases hx), Nat.le_refl _⟩
  | x :: I, h, hb => by
    simp only [List.all_cons, Bool.and_eq_true] at h
    have hl := okI_len h.1
    have hx := hb x (by simp)
    obtain ⟨i1, i2⟩ := encI_all I h.2 (fun y hy => hb y (List.mem_cons_of_mem _ hy))
    rw [List.flatMap_cons]
    refine ⟨bytes8_app (bytes8_app (lenb_bytes hx.1 (by omega)) (lenb_bytes hx.2 (by omega))) i1, ?_⟩
    simp only [List.length_append, encI, lenb, List.length_cons]
    omega
theorem encN_all : ∀ (K : List (List Int)) (T : List S90), K.all okK = true → (∀ x ∈ K, Bytes8 x) → Bytes8 (encN K T) ∧ (encN K T).length ≤ 77 * T.length
  | [], T, _, _ => by rw [encN]; exact ⟨fun x hx => (by cases hx), Nat.zero_le _⟩; intro _ _ _ _ h; cases h
  | _ :: _, [], _, _ => by rw [encN]; exact ⟨fun x hx => (by cases hx), Nat.zero_le _⟩; intro _ _ _ _ _ h; cases h
  | a :: K, r :: T, h, hb => by
    simp only [List.all_cons, Bool.and_eq_true] at h
    have hl := okK_len h.1
    obtain ⟨i1, i2⟩ := encN_all K T h.2 (fun y hy => hb y (List.mem_cons_of_mem _ hy))
    rw [encN]
    refine ⟨bytes8_app (lenb_bytes (hb a (by simp)) (by omega)) (bytes8_app (bytes8_app (be_bytes _ _) (be_bytes _ _)) i1), ?_⟩
    simp only [List.length_append, encR, lenb, List.length_cons, be_length]
    omega
/-- A node that may be, and its bytes. -/
structure Fine (k : Nat) (a0 : Bool) (I : List S87) (K : List (List Int)) (T : List S90) : Prop where
  light : lightN I K T = true
  may : node_May.f k a0 I K T = some true
  bI : ∀ x ∈ I, Bytes8 x.f0 ∧ Bytes8 x.f1
  bK : ∀ x ∈ K, Bytes8 x
  bT : ∀ r ∈ T, InR r
theorem Fine.way {k : Nat} {a0 : Bool} {I : List S87} {K : List (List Int)} {T : List S90} (h : Fine k a0 I K T) (hk : 20 ≤ k) : (a0 = true ∧ I.length ≤ 8 ∧ K = [] ∧ T = []) ∨ (a0 = false ∧ T.length ≤ 8 ∧ K.length = T.length ∧ I = []) := by
  obtain ⟨r, h1, h2⟩ := may_tot k hk a0 I K T
  rw [h.may] at h1
  obtain rfl := Option.some.inj h1
  exact h2 rfl
theorem Fine.oks {k : Nat} {a0 : Bool} {I : List S87} {K : List (List Int)} {T : List S90} (h : Fine k a0 I K T) : I.all okI = true ∧ K.all okK = true := by
  have := h.light
  simp only [lightN, Bool.and_eq_true] at this
  exact ⟨this.1, this.2.1⟩
theorem Fine.bytes {k : Nat} {a0 : Bool} {I : List S87} {K : List (List Int)} {T : List S90} (h : Fine k a0 I K T) (hk : 20 ≤ k) : Bytes8 (nodeB a0 I K T) ∧ 2 ≤ (nodeB a0 I K T).length ∧ (nodeB a0 I K T).length ≤ 4096 := by
  obtain ⟨o1, o2⟩ := h.oks
  rcases h.way hk with ⟨rfl, h3, rfl, rfl⟩ | ⟨rfl, h3, h4, rfl⟩
  · obtain ⟨b1, b2⟩ := encI_all I o1 h.bI
    unfold nodeB
    rw [if_pos rfl]
    refine ⟨fun x hx => ?_, by simp, by simp only [List.length_cons]; omega⟩
    rcases List.mem_cons.1 hx with rfl | hx
    · omega
    rcases List.mem_cons.1 hx with rfl | hx
    · omega
    exact b1 x hx
  · obtain ⟨b1, b2⟩ := encN_all K T o2 h.bK
    unfold nodeB
    rw [if_neg (by decide)]
    refine ⟨fun x hx => ?_, by simp, by simp only [List.length_cons]; omega⟩
    rcases List.mem_cons.1 hx with rfl | hx
    · omega
    rcases List.mem_cons.1 hx with rfl | hx
    · omega
    exact b1 x hx
/-- What is read of its bytes and more. -/
theorem Fine.read {k : Nat} {a0 : Bool} {I : List S87} {K : List (List Int)} {T : List S90} (h : Fine k a0 I K T) (hk : 20 ≤ k) (z : List Int) :
    (kd (nodeB a0 I K T ++ z) == 76) = a0 ∧ ((a0 = true ∧ K = [] ∧ T = [] ∧ tkL (cn (nodeB a0 I K T ++ z)).toNat (hd2 (nodeB a0 I K T ++ z)).2.1 (hd2 (nodeB a0 I K T ++ z)).2.2 [] = (z, false, I)) ∨ (a0 = false ∧ I = [] ∧ tkN (cn (nodeB a0 I K T ++ z)).toNat (hd2 (nodeB a0 I K T ++ z)).2.1 (hd2 (nodeB a0 I K T ++ z)).2.2 [] [] = (z, false, K, T))) := by
  obtain ⟨o1, o2⟩ := h.oks
  rcases h.way hk with ⟨rfl, h3, rfl, rfl⟩ | ⟨rfl, h3, h4, rfl⟩
  · obtain ⟨e1, e2, e3⟩ := hd_cut 76 (I.length : Int) (I.flatMap encI ++ z) (by omega) (by omega)
    have e : nodeB true I [] [] ++ z = 76 :: (I.length : Int) :: (I.flatMap encI ++ z) := by unfold nodeB; rw [if_pos rfl]; rfl
    rw [e, e1, e2, e3]
    refine ⟨by decide, .inl ⟨rfl, rfl, rfl, ?_⟩⟩
    simp only
    rw [show ((I.length : Int)).toNat = I.length by omega, tkL_enc z I [] o1]; rfl
  · obtain ⟨e1, e2, e3⟩ := hd_cut 78 (T.length : Int) (encN K T ++ z) (by omega) (by omega)
    have e : nodeB false [] K T ++ z = 78 :: (T.length : Int) :: (encN K T ++ z) := by unfold nodeB; rw [if_neg (by decide)]; rfl
    rw [e, e1, e2, e3]
    refine ⟨by decide, .inr ⟨rfl, rfl, ?_⟩⟩
    simp only
    rw [show ((T.length : Int)).toNat = T.length by omega, tkN_enc z K T [] [] o2 h4 h.bT]; rfl
theorem Fine.took {k : Nat} {a0 : Bool} {I : List S87} {K : List (List Int)} {T : List S90} (h : Fine k a0 I K T) (hk : 30 ≤ k) (z : List Int) (hz : Bytes8 z) : Took k (nodeB a0 I K T ++ z) (decide (z = [])) a0 I K T := by
  have hb := (h.bytes (by omega)).1
  obtain ⟨r1, r2⟩ := h.read (by omega) z
  refine took_mk k _ _ a0 I K T z false (bytes8_app hb hz) r1 r2 (.inr ⟨rfl, true, h.may, .inr ⟨rfl, _, put_node k hk a0 I K T h.light h.may, ?_⟩⟩)
  unfold bytes_Equal.f
  rw [str_eq hb (bytes8_app hb hz)]
  by_cases c : z = []
  · subst c; simp
  · rw [decide_eq_false c, decide_eq_false (by intro e; exact c (List.append_right_eq_self.1 e.symm))]
theorem Fine.cut {k : Nat} {a0 : Bool} {I : List S87} {K : List (List Int)} {T : List S90} (h : Fine k a0 I K T) (hk : 30 ≤ k) (n : Nat) (hn : n < (nodeB a0 I K T).length) : ∃ lf I' K' T', Took k ((nodeB a0 I K T).take n) false lf I' K' T' := by
  have hb := (h.bytes (by omega)).1
  obtain ⟨r1, r2⟩ := h.read (by omega) []
  rw [List.append_nil] at r1 r2
  generalize hB : nodeB a0 I K T = B at *
  have hp : Bytes8 (B.take n) := fun x hx => hb x (List.mem_of_mem_take hx)
  have hq : B.drop n ≠ [] := fun e => by have := congrArg List.length e; simp at this; omega
  have hpq : B.take n ++ B.drop n = B := List.take_append_drop n B
  generalize B.take n = p at *
  generalize B.drop n = q at *
  cases hl : (kd p == 76) with
  | true =>
    refine ⟨true, (tkL (cn p).toNat (hd2 p).2.1 (hd2 p).2.2 []).2.2, [], [], took_mk k p false true _ _ _ (tkL (cn p).toNat (hd2 p).2.1 (hd2 p).2.2 []).1 true hp hl (.inl ⟨rfl, rfl, rfl, ?_⟩) (.inl ⟨rfl, rfl⟩)⟩
    cases hs : (tkL (cn p).toNat (hd2 p).2.1 (hd2 p).2.2 []).2.1 with
    | true => rw [← hs]
    | false =>
      have h0 := tkL_s hs
      obtain ⟨e1, e2, e3⟩ := hd_ext p q h0
      rw [hpq] at e1 e2 e3
      rw [e1, hl] at r1
      rcases r2 with ⟨_, _, _, r2⟩ | ⟨r3, _⟩
      · rw [e2, e3] at r2
        rw [h0] at hs
        have := tkL_ext q _ _ _ _ hs
        simp only at r2
        rw [this] at r2
        simp only [Prod.mk.injEq] at r2
        exact absurd (List.append_eq_nil_iff.1 r2.1).2 hq
      · rw [r3] at r1; cases r1
  | false =>
    refine ⟨false, [], (tkN (cn p).toNat (hd2 p).2.1 (hd2 p).2.2 [] []).2.2.1, (tkN (cn p).toNat (hd2 p).2.1 (hd2 p).2.2 [] []).2.2.2, took_mk k p false false _ _ _ (tkN (cn p).toNat (hd2 p).2.1 (hd2 p).2.2 [] []).1 true hp hl (.inr ⟨rfl, rfl, ?_⟩) (.inl ⟨rfl, rfl⟩)⟩
    cases hs : (tkN (cn p).toNat (hd2 p).2.1 (hd2 p).2.2 [] []).2.1 with
    | true => rw [← hs]
    | false =>
      have h0 := tkN_s hs
      obtain ⟨e1, e2, e3⟩ := hd_ext p q h0
      rw [hpq] at e1 e2 e3
      rw [e1, hl] at r1
      rcases r2 with ⟨r3, _⟩ | ⟨_, _, r2⟩
      · rw [r3] at r1; cases r1
      · rw [e2, e3] at r2
        rw [h0] at hs
        have := tkN_ext q _ _ _ _ _ hs
        simp only at r2
        rw [this] at r2
        simp only [Prod.mk.injEq] at r2
        exact absurd (List.append_eq_nil_iff.1 r2.1).2 hq
/-- The law, of a node that is read. -/
theorem core (a0 : Bool) (A1 : Option Addr) (c1 : Nat) (I : List S87) (A2 : Option Addr) (c2 : Nat) (K : List (List Int)) (A3 : Option Addr) (c3 : Nat) (T : List S90) (ct m : Int) (w : World) (hr1 : Kd.C k87 w A1 I.length I) (hc1 : I.length ≤ c1) (hr2 : Kd.C (Kd.slice 5 (Kd.int .u8)) w A2 K.length K) (hc2 : K.length ≤ c2) (hr3 : Kd.C k90 w A3 T.length T) (hc3 : T.length ≤ c3)
    (hI : I.length ≤ 9223372036854775807) (hK : K.length ≤ 9223372036854775807) (bI : ∀ x ∈ I, Bytes8 x.f0 ∧ Bytes8 x.f1) (bK : ∀ x ∈ K, Bytes8 x) (bT : ∀ r ∈ T, InR r) (hct : 0 ≤ ct ∧ ct < 65536) (hm : 0 ≤ m ∧ m < 256) :
    Calls Try.prog 16 #[.agg #[.bool a0, .slice A1 I.length c1, .slice A2 K.length c2, .slice A3 T.length c3], .int .u16 ct, .int .u8 m] w fun e w' => e = .returned (.bool true) ∧ Below w.heap.size w w' := by
  obtain ⟨k, hk⟩ : ∃ k, k = I.length + K.length + 100 := ⟨_, rfl⟩
  have hl := light_is k a0 I K T hI hK (by omega)
  cases hL : lightN I K T with
  | false => exact walk_dark k a0 A1 c1 I A2 c2 K A3 c3 T ct m w hr1 hc1 hr2 hc2 hr3 hc3 (by rw [hl, hL])
  | true =>
    rw [hL] at hl
    obtain ⟨r, h1, _⟩ := may_tot k (by omega) a0 I K T
    cases r with
    | false => exact walk_bad k a0 A1 c1 I A2 c2 K A3 c3 T ct m w hr1 hc1 hr2 hc2 hr3 hc3 hl h1 (put_none k a0 I K T h1)
    | true =>
      have hF : Fine k a0 I K T := ⟨hL, h1, bI, bK, bT⟩
      obtain ⟨b1, b2, b3⟩ := hF.bytes (by omega)
      have t1 := hF.took (by omega) [] (fun x hx => by cases hx)
      rw [List.append_nil, decide_eq_true rfl] at t1
      have t3 := hF.took (by omega) [m] (fun x hx => by rw [List.mem_singleton.1 hx]; exact hm)
      rw [decide_eq_false (by simp)] at t3
      have hmod := Int.emod_lt_of_pos ct (show (0 : Int) < ((nodeB a0 I K T).length : Int) by omega)
      have hmod0 := Int.emod_nonneg ct (show ((nodeB a0 I K T).length : Int) ≠ 0 by omega)
      have hT8 : T.length ≤ 8 := by
        rcases hF.way (by omega) with ⟨_, _, _, e⟩ | ⟨_, e, _⟩
        · rw [e]; simp
        · exact e
      exact walk_good k a0 A1 c1 I A2 c2 K A3 c3 T ct m w hr1 hc1 hr2 hc2 hr3 hc3 hl h1 _ (put_node k (by omega) a0 I K T hL h1) b2 b3 hct.1 hct.2 _ rfl _ rfl t1 (hF.cut (by omega) _ (by omega)) ⟨_, _, _, _, t3⟩ (ref_is k T hT8 (by omega))
theorem bytes_of {l : List Int} (h : Stru.B8 l) : Bytes8 l := fun x hx => by
  have h1 := h x hx
  simp [Lit.wf, IntKind.min, IntKind.max, IntKind.signed, IntKind.bits] at h1
  omega
theorem inR_of {r : S90} (h : (Lit.int .i64 r.f0).wf = true ∧ (Lit.int .u64 r.f1).wf = true) : InR r := by
  obtain ⟨h1, h2⟩ := h
  simp [Lit.wf, IntKind.min, IntKind.max, IntKind.signed, IntKind.bits] at h1 h2
  unfold InR
  omega
theorem walk (a0 : Bool) (A1 : Option Addr) (c1 : Nat) (I : List S87) (A2 : Option Addr) (c2 : Nat) (K : List (List Int)) (A3 : Option Addr) (c3 : Nat) (T : List S90) (ct m : Int) (w : World)
    (w0 : Stru.NodeIn w a0 A1 c1 I A2 c2 K A3 c3 T) (w5 : (Lit.int .u16 ct).wf = true) (w6 : (Lit.int .u8 m).wf = true) :
    Calls Try.prog 16 #[.agg #[.bool a0, .slice A1 I.length c1, .slice A2 K.length c2, .slice A3 T.length c3], .int .u16 ct, .int .u8 m] w fun e w' => e = .returned (.bool true) ∧ Below w.heap.size w w' := by
  refine core a0 A1 c1 I A2 c2 K A3 c3 T ct m w w0.r1 w0.l1 w0.r2 w0.l2 w0.r3 w0.l3 w0.m1 w0.m2 (fun x hx => ⟨bytes_of (w0.b1 x hx).1, bytes_of (w0.b1 x hx).2⟩) (fun x hx => bytes_of (w0.b2 x hx)) (fun r hr => inR_of (w0.b3 r hr)) ?_ ?_
  · simp [Lit.wf, IntKind.min, IntKind.max, IntKind.signed, IntKind.bits] at w5
    omega
  · simp [Lit.wf, IntKind.min, IntKind.max, IntKind.signed, IntKind.bits] at w6
    omega

end Go.Proofs.Ytfgeffmlfbeodaa.Pure
