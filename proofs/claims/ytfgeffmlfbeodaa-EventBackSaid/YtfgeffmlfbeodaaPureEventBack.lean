/- EventBack: an event comes back; its bytes cut off, or with one more, are none. No condition. -/
import Derived.Test.YtfgeffmlfbeodaaWalkEventBack
import Derived.Test.YtfgeffmlfbeodaaCrc
namespace Go.Proofs.Ytfgeffmlfbeodaa.Pure
open Go.RowKit Go.Proofs.Ytfgeffmlfbeodaa.PEventBack Go.Proofs.YtfgeffmlfbeodaaW.PrintWords Go.Proofs.YtfgeffmlfbeodaaW.PrintLast
set_option linter.unusedVariables false
section Be
open Go.Proofs.Ytfgeffmlfbeodaa.Crc
/-- A number in so many bytes, the highest first. -/
def be : Nat → Int → List Int
  | 0, _ => []
  | n + 1, v => (v / 256 ^ n) % 256 :: be n v
def nmF (a : Int) (l : List Int) : Int := l.foldl (fun a c => a * 256 + c) a
def nm (l : List Int) : Int := nmF 0 l
theorem be_length (n : Nat) (v : Int) : (be n v).length = n := by
  induction n with
  | zero => rfl
  | succ n ih => simp [be, ih]
theorem be_bytes (n : Nat) (v : Int) : Bytes8 (be n v) := by
  induction n with
  | zero => intro x hx; simp [be] at hx
  | succ n ih =>
    intro x hx
    rcases List.mem_cons.1 hx with rfl | h
    · exact ⟨Int.emod_nonneg _ (by decide), Int.emod_lt_of_pos _ (by decide)⟩
    · exact ih x h
theorem nat_mod_split (v m : Nat) : v % (m * 256) = (v / m % 256) * m + v % m := by
  rw [Nat.mod_mul, Nat.mul_comm m, Nat.add_comm]
theorem pw (n : Nat) : (256 : Int) ^ n = ((256 ^ n : Nat) : Int) := by rw [Int.natCast_pow]; rfl
theorem pw_pos (n : Nat) : (0 : Int) < 256 ^ n := Int.pow_pos (by decide)
theorem nmF_be (n : Nat) (v : Nat) : ∀ a : Int, nmF a (be n (v : Int)) = a * 256 ^ n + ((v % 256 ^ n : Nat) : Int) := by
  induction n with
  | zero => intro a; simp [be, nmF, Nat.mod_one]
  | succ n ih =>
    intro a
    have e : nmF a (be (n + 1) (v : Int)) = nmF (a * 256 + ((v : Int) / 256 ^ n) % 256) (be n (v : Int)) := rfl
    rw [e, ih]
    have h1 : ((v : Int) / 256 ^ n) % 256 = ((v / 256 ^ n % 256 : Nat) : Int) := by rw [pw]; rfl
    rw [h1, Nat.pow_succ, nat_mod_split]
    have h2 : (256 : Int) ^ (n + 1) = 256 ^ n * 256 := Int.pow_succ ..
    rw [h2, Int.natCast_add, Int.natCast_mul, ← pw, Int.add_mul, Int.mul_assoc, Int.mul_comm (256 : Int) (256 ^ n), Int.add_assoc]
theorem nm_be (n : Nat) (v : Int) (h0 : 0 ≤ v) (h1 : v < 256 ^ n) : nm (be n v) = v := by
  obtain ⟨m, rfl⟩ := Int.eq_ofNat_of_zero_le h0
  unfold nm
  rw [nmF_be, Int.zero_mul, Int.zero_add, Nat.mod_eq_of_lt]
  have : ((m : Nat) : Int) < ((256 ^ n : Nat) : Int) := by rw [← pw]; exact h1
  exact Int.ofNat_lt.1 this
theorem nmF_append (a : Int) (l r : List Int) : nmF a (l ++ r) = nmF (nmF a l) r := by simp [nmF]
theorem nmF_bound (l : List Int) (hl : Bytes8 l) : ∀ a : Int, a * 256 ^ l.length ≤ nmF a l ∧ nmF a l < (a + 1) * 256 ^ l.length := by
  induction l with
  | nil => intro a; simp [nmF]; omega
  | cons x l ih =>
    intro a
    have hx := hl x (by simp)
    have := ih (fun y hy => hl y (List.mem_cons_of_mem _ hy)) (a * 256 + x)
    have e : nmF a (x :: l) = nmF (a * 256 + x) l := rfl
    rw [e, List.length_cons]
    have hp : (0 : Int) < 256 ^ l.length := pw_pos _
    have h2 : (256 : Int) ^ (l.length + 1) = 256 * 256 ^ l.length := by rw [Int.pow_succ, Int.mul_comm]
    rw [h2, ← Int.mul_assoc, ← Int.mul_assoc]
    have h3 : a * 256 * 256 ^ l.length ≤ (a * 256 + x) * 256 ^ l.length := Int.mul_le_mul_of_nonneg_right (by omega) (Int.le_of_lt hp)
    have h4 : (a * 256 + x + 1) * 256 ^ l.length ≤ (a + 1) * 256 * 256 ^ l.length := Int.mul_le_mul_of_nonneg_right (by omega) (Int.le_of_lt hp)
    omega
theorem nm_range {l : List Int} (hl : Bytes8 l) : 0 ≤ nm l ∧ nm l < 256 ^ l.length := by
  have := nmF_bound l hl 0
  simp at this
  exact this
theorem be_nmF (l : List Int) (hl : Bytes8 l) : ∀ a : Int, 0 ≤ a → be l.length (nmF a l) = l := by
  induction l with
  | nil => intro a _; rfl
  | cons x l ih =>
    intro a ha
    have hx := hl x (by simp)
    have hl' : Bytes8 l := fun y hy => hl y (List.mem_cons_of_mem _ hy)
    have e : nmF a (x :: l) = nmF (a * 256 + x) l := rfl
    rw [e, List.length_cons, be, ih hl' _ (by omega)]
    have hb := nmF_bound l hl' (a * 256 + x)
    have hp : (0 : Int) < 256 ^ l.length := pw_pos _
    have hd : nmF (a * 256 + x) l / 256 ^ l.length = a * 256 + x := by
      apply Int.le_antisymm
      · have := Int.ediv_lt_of_lt_mul hp hb.2; omega
      · exact (Int.le_ediv_iff_mul_le hp).2 hb.1
    rw [hd]
    congr 1
    omega
theorem be_nm (l : List Int) (hl : Bytes8 l) : be l.length (nm l) = l := be_nmF l hl 0 (by omega)
theorem be_inj {n : Nat} {u v : Int} (hu : 0 ≤ u ∧ u < 256 ^ n) (hv : 0 ≤ v ∧ v < 256 ^ n) (h : be n u = be n v) : u = v := by
  rw [← nm_be n u hu.1 hu.2, h, nm_be n v hv.1 hv.2]
theorem nm_inj {l r : List Int} (hl : Bytes8 l) (hr : Bytes8 r) (hlen : l.length = r.length) (h : nm l = nm r) : l = r := by
  rw [← be_nm l hl, ← be_nm r hr, h, hlen]
end Be

section Loops
open Go.Proofs.Ytfgeffmlfbeodaa.Crc
theorem shr_byte (K : IntKind) (hK : K.bits = 64) (v : Int) (n : Nat) (hn : n < 8) : shr K v (wrap64 (8 * (n : Int))) = v / 256 ^ n := by
  unfold shr
  rw [hK, show wrap64 (8 * (n : Int)) = 8 * (n : Int) from by unfold wrap64; omega, show (8 * (n : Int)).toNat = 8 * n from by omega, Nat.min_eq_left (by omega), Int.pow_mul]
  rfl
/-- A loop that puts a number's bytes, the highest first. -/
theorem put_loop {L : Nat → List Int → Int → Int → Option (List Int)} (K : IntKind) (hK : K.bits = 64)
    (hL : ∀ k b v i, L (k + 1) b v i = if i ≥ 0 then (if 0 ≤ (wrap64 (8 * i)) then (if b.length < 140737488355328 then (L k (b ++ [(shr K v (wrap64 (8 * i))) % 256]) v (wrap64 (i - 1))) else (none)) else (none)) else (some b)) (v : Int) :
    ∀ (n k : Nat) (b : List Int), n ≤ 8 → n + 1 ≤ k → b.length + n ≤ 140737488355328 → L k b v ((n : Int) - 1) = some (b ++ be n v)
  | 0, k, b, _, hk, _ => by
    obtain ⟨k, rfl⟩ : ∃ m, k = m + 1 := ⟨k - 1, by omega⟩
    rw [hL, if_neg (by omega)]; simp [be]
  | n + 1, k, b, hn, hk, hb => by
    obtain ⟨k, rfl⟩ : ∃ m, k = m + 1 := ⟨k - 1, by omega⟩
    rw [show (((n + 1 : Nat) : Int) - 1) = (n : Int) from by omega, hL, if_pos (by omega), if_pos (by unfold wrap64; omega), if_pos (by omega), shr_byte K hK v n (by omega), show wrap64 ((n : Int) - 1) = (n : Int) - 1 from by unfold wrap64; omega,
      put_loop K hK hL v n k _ (by omega) (by omega) (by simp only [List.length_append, List.length_cons, List.length_nil]; omega)]
    simp [be]
theorem or64 (x y : Int) (hx0 : 0 ≤ x) (hx1 : x < 72057594037927936) (hy0 : 0 ≤ y) (hy1 : y < 256) : Go.bits .or .u64 (x * 256) y = x * 256 + y :=
  Go.bits_join .u64 64 (by decide) (fun n h0 h1 => by rw [Go.IntKind.wrap_u64]; omega) 8 (x * 256) y (by omega) (by omega) (by omega) hy0 (by omega) (by omega)
theorem wrap_u64' (x : Int) (h0 : 0 ≤ x) (h1 : x < 18446744073709551616) : IntKind.u64.wrap x = x := by rw [Go.IntKind.wrap_u64]; omega
theorem ofInt64_congr {x y : Int} (h : x % 18446744073709551616 = y % 18446744073709551616) : BitVec.ofInt 64 x = BitVec.ofInt 64 y := by
  apply BitVec.eq_of_toNat_eq
  rw [BitVec.toNat_ofInt, BitVec.toNat_ofInt]
  show (x % (18446744073709551616 : Int)).toNat = (y % (18446744073709551616 : Int)).toNat
  rw [h]
theorem or_i64 (X X' Y Y' : Int) (hx : X % 18446744073709551616 = X' % 18446744073709551616) (hy : Y % 18446744073709551616 = Y' % 18446744073709551616) : Go.bits .or .i64 X Y = wrap64 (Go.bits .or .u64 X' Y') := by
  have e1 : Go.bits .or .i64 X Y = IntKind.i64.wrap ((BitVec.ofInt 64 X ||| BitVec.ofInt 64 Y).toNat : Int) := rfl
  have e2 : Go.bits .or .u64 X' Y' = IntKind.u64.wrap ((BitVec.ofInt 64 X' ||| BitVec.ofInt 64 Y').toNat : Int) := rfl
  have hb := (BitVec.ofInt 64 X' ||| BitVec.ofInt 64 Y').isLt
  rw [e1, e2, ofInt64_congr hx, ofInt64_congr hy, wrap_u64' _ (by omega) (by omega)]
  exact i64_w _
theorem rd_at (l : List Int) (j : Nat) (hl : j < l.length) : rd l (j : Int) = l[j] := by simp [rd, List.getD_eq_getElem?_getD, List.getElem?_eq_getElem hl]
theorem nm_take_succ (l : List Int) (i : Nat) (hi : i < l.length) : nm (l.take (i + 1)) = nm (l.take i) * 256 + l[i] := by
  rw [List.take_succ_eq_append_getElem hi]; unfold nm; rw [nmF_append]; rfl
theorem nm_small {l : List Int} (hl : Bytes8 l) (h : l.length ≤ 7) : 0 ≤ nm l ∧ nm l < 72057594037927936 := by
  have h1 := nm_range hl
  refine ⟨h1.1, Int.lt_of_lt_of_le h1.2 ?_⟩
  have : (256 : Nat) ^ l.length ≤ 256 ^ 7 := Nat.pow_le_pow_right (by decide) h
  rw [pw]
  exact Int.ofNat_le.2 this
theorem nm_u64 {l : List Int} (hl : Bytes8 l) (h : l.length ≤ 8) : 0 ≤ nm l ∧ nm l < 18446744073709551616 := by
  have h1 := nm_range hl
  refine ⟨h1.1, Int.lt_of_lt_of_le h1.2 ?_⟩
  have : (256 : Nat) ^ l.length ≤ 256 ^ 8 := Nat.pow_le_pow_right (by decide) h
  rw [pw]
  exact Int.ofNat_le.2 this
/-- A loop that reads a number, unsigned. -/
theorem num_loop {L : Nat → Int → List Int → Int → Int → Option Int}
    (hL : ∀ k a xs len i, L (k + 1) a xs len i = if i < len then (if 0 ≤ i then (if i < (xs.length : Int) then (L k (Go.bits .or .u64 (IntKind.u64.wrap (a * 256)) (IntKind.u64.wrap (rd xs i))) xs len (wrap64 (i + 1))) else (none)) else (none)) else (some a))
    (l : List Int) (hb : Bytes8 l) (h8 : l.length ≤ 8) : ∀ (n i k : Nat), i + n = l.length → n + 1 ≤ k → L k (nm (l.take i)) l (l.length : Int) (i : Int) = some (nm l)
  | 0, i, k, hi, hk => by
    obtain ⟨k, rfl⟩ : ∃ m, k = m + 1 := ⟨k - 1, by omega⟩
    rw [hL, if_neg (by omega), List.take_of_length_le (by omega)]
  | n + 1, i, k, hi, hk => by
    obtain ⟨k, rfl⟩ : ∃ m, k = m + 1 := ⟨k - 1, by omega⟩
    have hx := hb (l[i]'(by omega)) (List.getElem_mem (by omega))
    have hs := nm_small (l := l.take i) (fun x hx => hb x (List.mem_of_mem_take hx)) (by rw [List.length_take]; omega)
    rw [hL, if_pos (by omega), if_pos (by omega), if_pos (by omega), rd_at l i (by omega), wrap_u64' _ (by omega) (by omega), wrap_u64' _ (by omega) (by omega), or64 _ _ (by omega) (by omega) (by omega) (by omega),
      show wrap64 ((i : Int) + 1) = ((i + 1 : Nat) : Int) from by unfold wrap64; omega, ← nm_take_succ l i (by omega)]
    exact num_loop hL l hb h8 n (i + 1) k (by omega) (by omega)
/-- A loop that reads a number, signed. -/
theorem num_loop_i {L : Nat → Int → List Int → Int → Int → Option Int}
    (hL : ∀ k a xs len i, L (k + 1) a xs len i = if i < len then (if 0 ≤ i then (if i < (xs.length : Int) then (L k (Go.bits .or .i64 (wrap64 (a * 256)) (wrap64 (rd xs i))) xs len (wrap64 (i + 1))) else (none)) else (none)) else (some a))
    (l : List Int) (hb : Bytes8 l) (h8 : l.length ≤ 8) : ∀ (n i k : Nat), i + n = l.length → n + 1 ≤ k → L k (wrap64 (nm (l.take i))) l (l.length : Int) (i : Int) = some (wrap64 (nm l))
  | 0, i, k, hi, hk => by
    obtain ⟨k, rfl⟩ : ∃ m, k = m + 1 := ⟨k - 1, by omega⟩
    rw [hL, if_neg (by omega), List.take_of_length_le (by omega)]
  | n + 1, i, k, hi, hk => by
    obtain ⟨k, rfl⟩ : ∃ m, k = m + 1 := ⟨k - 1, by omega⟩
    have hx := hb (l[i]'(by omega)) (List.getElem_mem (by omega))
    have hs := nm_small (l := l.take i) (fun x hx => hb x (List.mem_of_mem_take hx)) (by rw [List.length_take]; omega)
    rw [hL, if_pos (by omega), if_pos (by omega), if_pos (by omega), rd_at l i (by omega), or_i64 _ (nm (l.take i) * 256) _ (l[i]'(by omega)) (by unfold wrap64; omega) (by unfold wrap64; omega), or64 _ _ (by omega) (by omega) (by omega) (by omega),
      show wrap64 ((i : Int) + 1) = ((i + 1 : Nat) : Int) from by unfold wrap64; omega, ← nm_take_succ l i (by omega)]
    exact num_loop_i hL l hb h8 n (i + 1) k (by omega) (by omega)
end Loops

section Str
open Go.Proofs.Ytfgeffmlfbeodaa.Crc Go.Proofs.Ytfgeffmlfbeodaa.Names
def u8 (l : List Int) : List UInt8 := l.map fun x => UInt8.ofNat x.toNat
theorem str_u8 (l : List Int) : (strOfNums l).toList = u8 l := by simp [strOfNums, u8]
theorem str_size (l : List Int) : (strOfNums l).size = l.length := by simp [strOfNums, ByteArray.size]
theorem u8_append (a b : List Int) : u8 (a ++ b) = u8 a ++ u8 b := by simp [u8]
theorem toList_data (s : ByteArray) : s.toList = s.data.toList := Go.ByteArray.toList_eq s
theorem u8_bytesOf (s : ByteArray) : u8 (bytesOf s) = s.toList := by
  rw [toList_data]
  simp [u8, bytesOf, Function.comp_def]
theorem u8_lt {x y : Int} (hx : 0 ≤ x ∧ x < 256) (hy : 0 ≤ y ∧ y < 256) : (decide (UInt8.ofNat x.toNat < UInt8.ofNat y.toNat)) = decide (x < y) := by
  by_cases h : x < y
  · rw [decide_eq_true h, decide_eq_true]
    rw [UInt8.lt_iff_toNat_lt]
    simp; omega
  · rw [decide_eq_false h, decide_eq_false]
    rw [UInt8.lt_iff_toNat_lt]
    simp; omega
theorem u8_eq {x y : Int} (hx : 0 ≤ x ∧ x < 256) (hy : 0 ≤ y ∧ y < 256) : (UInt8.ofNat x.toNat == UInt8.ofNat y.toNat) = decide (x = y) := by
  by_cases h : x = y
  · subst h; simp
  · rw [decide_eq_false h, beq_eq_false_iff_ne]
    intro h2
    have := congrArg UInt8.toNat h2
    simp at this
    omega
theorem u8_inj {a b : List Int} (ha : Bytes8 a) (hb : Bytes8 b) (h : u8 a = u8 b) : a = b := by
  have hi : ∀ (l : List Int), Bytes8 l → (u8 l).map (fun c => ((c.toNat : Nat) : Int)) = l := by
    intro l hl
    induction l with
    | nil => rfl
    | cons x l ih =>
      have hx := hl x (by simp)
      have e : u8 (x :: l) = UInt8.ofNat x.toNat :: u8 l := rfl
      rw [e, List.map_cons, ih (fun y hy => hl y (List.mem_cons_of_mem _ hy))]
      congr 1
      simp; omega
  rw [← hi a ha, ← hi b hb, h]
theorem name_pos {s : ByteArray} (h : nameB s = true) : (1 ≤ s.size ∧ s.size ≤ 16) ∧ ∀ c ∈ s.toList, 0 < c := by
  simp only [nameB, Bool.and_eq_true, decide_eq_true_eq, Bool.not_eq_true'] at h
  refine ⟨h.1, fun c hc => ?_⟩
  have hc' : c ∈ s.data.toList := by rw [← toList_data]; exact hc
  have h2 := List.any_eq_false.1 h.2 c hc'
  simp only [badB, Bool.or_eq_true, decide_eq_true_eq, not_or] at h2
  rw [UInt8.lt_iff_toNat_lt]
  have : (0 : UInt8).toNat = 0 := rfl
  omega
end Str

section StrEq
open Go.Proofs.Ytfgeffmlfbeodaa.Crc
theorem str_back {l : List Int} (hl : Bytes8 l) : bytesOf (strOfNums l) = l := by
  have e : bytesOf (strOfNums l) = l.map fun x => ((UInt8.ofNat x.toNat).toNat : Int) := by simp [bytesOf, strOfNums, Function.comp_def]
  rw [e]
  conv => rhs; rw [← List.map_id l]
  apply List.map_congr_left
  intro x hx
  have := hl x hx
  simp; omega
theorem str_eq {a b : List Int} (ha : Bytes8 a) (hb : Bytes8 b) : ((strOfNums a).toList == (strOfNums b).toList) = decide (a = b) := by
  by_cases h : a = b
  · rw [h]; simp
  · rw [decide_eq_false h, beq_eq_false_iff_ne]
    intro h2
    apply h
    have h3 : strOfNums a = strOfNums b := by
      have e : ∀ s : ByteArray, s.toList = s.data.toList := fun s => Go.ByteArray.toList_eq s
      rw [e, e] at h2
      have h4 : (strOfNums a).data = (strOfNums b).data := Array.toList_inj.1 h2
      cases ha' : strOfNums a
      cases hb' : strOfNums b
      rw [ha', hb'] at h4
      simp only at h4
      rw [h4]
    rw [← str_back ha, ← str_back hb, h3]
end StrEq

section EventPure
open Go.Proofs.Ytfgeffmlfbeodaa.Crc Go.Proofs.Ytfgeffmlfbeodaa.Names Go.Proofs.Ytfgeffmlfbeodaa.Rd
/-- An event's bytes. -/
def evB (v1 v2 : Int) (s t d : List Int) : List Int := be 8 v1 ++ (be 8 v2 ++ ((s.length : Int) :: (s ++ ((t.length : Int) :: (t ++ ((d.length : Int) :: d))))))
theorem evB_length (v1 v2 : Int) (s t d : List Int) : (evB v1 v2 s t d).length = 19 + s.length + t.length + d.length := by
  simp [evB, be_length]; omega
theorem bytesOf_bytes (s : ByteArray) : Bytes8 (bytesOf s) := fun x hx => by
  obtain ⟨b, _, rfl⟩ := List.mem_map.1 hx
  have := b.toNat_lt
  omega
theorem bytes8_cons {x : Int} {l : List Int} (hx : 0 ≤ x ∧ x < 256) (h : Bytes8 l) : Bytes8 (x :: l) := fun y hy => by
  rcases List.mem_cons.1 hy with rfl | hy
  · exact hx
  · exact h y hy
theorem bytes8_append {a b : List Int} (ha : Bytes8 a) (hb : Bytes8 b) : Bytes8 (a ++ b) := fun y hy => by
  rcases List.mem_append.1 hy with h | h
  · exact ha y h
  · exact hb y h
theorem evB_bytes {v1 v2 : Int} {s t d : List Int} (hs : Bytes8 s) (ht : Bytes8 t) (hd : Bytes8 d) (ls : s.length ≤ 16) (lt : t.length ≤ 16) (ld : d.length ≤ 100) : Bytes8 (evB v1 v2 s t d) :=
  bytes8_append (be_bytes _ _) (bytes8_append (be_bytes _ _) (bytes8_cons (by omega) (bytes8_append hs (bytes8_cons (by omega) (bytes8_append ht (bytes8_cons (by omega) hd))))))
theorem txt_app (a b : List Int) (s : Bool) (n : Int) (h : (a.length : Int) = n) : txt (a ++ b) s n = (a, b, s) := by
  have e : n.toNat = a.length := by omega
  unfold txt
  rw [if_neg (by rw [List.length_append]; omega), e]
  simp
theorem lng_app (a b : List Int) (s : Bool) (h : a.length ≤ 255) : lng ((a.length : Int) :: (a ++ b)) s = (a, b, s) := by
  have h1 := txt_app [(a.length : Int)] (a ++ b) s 1 rfl
  rw [List.singleton_append] at h1
  unfold lng
  rw [h1]
  have h2 : rd [(a.length : Int)] 0 = (a.length : Int) := by simp [rd]
  rw [if_neg (by simp)]
  show txt (a ++ b) s (rd [(a.length : Int)] 0) = _
  rw [h2]
  exact txt_app a b s _ rfl
theorem red_ev (v1 v2 : Int) (s t d z : List Int) (ls : s.length ≤ 255) (lt : t.length ≤ 255) (ld : d.length ≤ 255) :
    (red (evB v1 v2 s t d ++ z)).a1.1 = be 8 v1 ∧ (red (evB v1 v2 s t d ++ z)).a2.1 = be 8 v2 ∧ (red (evB v1 v2 s t d ++ z)).a3.1 = s ∧ (red (evB v1 v2 s t d ++ z)).a4.1 = t ∧ (red (evB v1 v2 s t d ++ z)).a5 = (d, z, false) := by
  have e : evB v1 v2 s t d ++ z = be 8 v1 ++ (be 8 v2 ++ ((s.length : Int) :: (s ++ ((t.length : Int) :: (t ++ ((d.length : Int) :: (d ++ z))))))) := by simp [evB]
  unfold red
  simp only
  rw [e, txt_app (be 8 v1) _ false 8 (by rw [be_length]; rfl)]
  simp only
  rw [txt_app (be 8 v2) _ false 8 (by rw [be_length]; rfl)]
  simp only
  rw [lng_app s _ false ls]
  simp only
  rw [lng_app t _ false lt]
  simp only
  rw [lng_app d z false ld]
  simp
theorem txt_ext {xs : List Int} {s : Bool} {n : Int} (q : List Int) (hn : 0 ≤ n) (h : (txt xs s n).2.2 = false) : s = false ∧ txt (xs ++ q) s n = ((txt xs s n).1, (txt xs s n).2.1 ++ q, false) := by
  unfold txt at h ⊢
  by_cases c : (xs.length : Int) < n
  · rw [if_pos c] at h; cases h
  · rw [if_neg c] at h ⊢
    have hs : s = false := h
    subst hs
    have hl : n.toNat ≤ xs.length := by omega
    rw [if_neg (by rw [List.length_append]; omega)]
    simp only [List.take_append_of_le_length hl, List.drop_append_of_le_length hl]
    exact ⟨trivial, trivial⟩
theorem txt_one_mem {xs : List Int} {s : Bool} (hx : ∀ c ∈ xs, 0 ≤ c ∧ c ≤ 255) (h : ¬ (txt xs s 1).1 = []) : 0 ≤ rd (txt xs s 1).1 0 ∧ rd (txt xs s 1).1 0 ≤ 255 := by
  refine hx _ ?_
  have h1 := rd_mem _ h
  have h2 : ∀ c ∈ (txt xs s 1).1, c ∈ xs := by
    intro c hc
    unfold txt at hc
    split at hc
    · cases hc
    · exact List.mem_of_mem_take hc
  exact h2 _ h1
theorem lng_ext {xs : List Int} {s : Bool} (q : List Int) (hx : ∀ c ∈ xs, 0 ≤ c ∧ c ≤ 255) (h : (lng xs s).2.2 = false) : s = false ∧ lng (xs ++ q) s = ((lng xs s).1, (lng xs s).2.1 ++ q, false) := by
  unfold lng at h ⊢
  by_cases c : (txt xs s 1).1 = []
  · rw [if_pos c] at h ⊢
    obtain ⟨h1, h2⟩ := txt_ext q (by decide) h
    rw [h2]
    simp only
    rw [if_pos c]
    exact ⟨h1, rfl⟩
  · rw [if_neg c] at h ⊢
    have hr := txt_one_mem hx c
    have h3 := txt_ext q hr.1 h
    have h4 := txt_ext (xs := xs) (s := s) (n := 1) q (by decide) h3.1
    refine ⟨h4.1, ?_⟩
    rw [h4.2]
    simp only
    rw [if_neg c]
    have h5 := h3.2
    rw [h3.1] at h5 ⊢
    exact h5
theorem red_ext {p : List Int} (q : List Int) (hx : ∀ c ∈ p, 0 ≤ c ∧ c ≤ 255) (h : (red p).a5.2.2 = false) : (red (p ++ q)).a5.2.1 = (red p).a5.2.1 ++ q := by
  unfold red at h ⊢
  simp only at h ⊢
  have m1 := Go.Proofs.Ytfgeffmlfbeodaa.PEventBack.txt_mem (s := false) (n := 8) hx
  rcases h1 : txt p false 8 with ⟨x1, r1, f1⟩
  rw [h1] at h m1
  simp only at h m1 ⊢
  have m2 := Go.Proofs.Ytfgeffmlfbeodaa.PEventBack.txt_mem (s := f1) (n := 8) m1
  rcases h2 : txt r1 f1 8 with ⟨x2, r2, f2⟩
  rw [h2] at h m2
  simp only at h m2 ⊢
  have m3 := Go.Proofs.Ytfgeffmlfbeodaa.PEventBack.lng_mem (s := f2) m2
  rcases h3 : lng r2 f2 with ⟨x3, r3, f3⟩
  rw [h3] at h m3
  simp only at h m3 ⊢
  have m4 := Go.Proofs.Ytfgeffmlfbeodaa.PEventBack.lng_mem (s := f3) m3
  rcases h4 : lng r3 f3 with ⟨x4, r4, f4⟩
  rw [h4] at h m4
  simp only at h m4 ⊢
  rcases h5 : lng r4 f4 with ⟨x5, r5, f5⟩
  rw [h5] at h
  simp only at h ⊢
  subst h
  have e5 := lng_ext q m4 (by rw [h5])
  rw [h5] at e5
  obtain ⟨rfl, e5⟩ := e5
  have e4 := lng_ext q m3 (by rw [h4])
  rw [h4] at e4
  obtain ⟨rfl, e4⟩ := e4
  have e3 := lng_ext q m2 (by rw [h3])
  rw [h3] at e3
  obtain ⟨rfl, e3⟩ := e3
  have e2 := txt_ext (n := 8) q (by decide) (by rw [h2])
  rw [h2] at e2
  obtain ⟨rfl, e2⟩ := e2
  have e1 := txt_ext (n := 8) (s := false) q (by decide) (by rw [h1])
  rw [h1] at e1
  simp only at e1 e2 e3 e4 e5
  rw [e1.2]
  simp only
  rw [e2]
  simp only
  rw [e3]
  simp only
  rw [e4]
  simp only
  rw [e5]
theorem nstep_eq (a x : Int) (ha : 0 ≤ a) (hb : a * 256 + x < 9223372036854775808) (hx : 0 ≤ x ∧ x < 256) : nstep a x = a * 256 + x := by
  unfold nstep
  rw [or_i64 (wrap64 (a * 256)) (a * 256) (wrap64 x) x (by unfold wrap64; omega) (by unfold wrap64; omega), or64 a x ha (by omega) hx.1 hx.2]
  unfold wrap64; omega
theorem fold_nm : ∀ (l : List Int) (a : Int), Bytes8 l → 0 ≤ a → nmF a l < 9223372036854775808 → l.foldl nstep a = nmF a l
  | [], a, _, _, _ => rfl
  | x :: l, a, hl, ha, hb => by
    have hx := hl x (by simp)
    have hl' : Bytes8 l := fun y hy => hl y (List.mem_cons_of_mem _ hy)
    have e : nmF a (x :: l) = nmF (a * 256 + x) l := rfl
    rw [e] at hb ⊢
    have h1 := nmF_bound l hl' (a * 256 + x)
    have hp : (0 : Int) < 256 ^ l.length := pw_pos _
    have h2 : a * 256 + x ≤ nmF (a * 256 + x) l := by
      refine Int.le_trans ?_ h1.1
      have := Int.mul_le_mul_of_nonneg_left (show (1 : Int) ≤ 256 ^ l.length by omega) (show 0 ≤ a * 256 + x by omega)
      omega
    rw [List.foldl_cons, nstep_eq a x ha (by omega) hx, fold_nm l _ hl' (by omega) hb]
theorem numv_be (v : Int) (h0 : 0 ≤ v) (h1 : v < 9223372036854775808) : numv (be 8 v) = v := by
  have h2 := nm_be 8 v h0 (by omega)
  unfold numv
  rw [fold_nm _ 0 (be_bytes _ _) (by decide) (by show nm _ < _; rw [h2]; exact h1)]
  exact h2
def mayE (v1 : Int) (s : ByteArray) (v2 : Int) (t : ByteArray) (d : List Int) : Bool := decide (v1 ≥ 0) && decide (v2 ≥ 0) && nameB s && nameB t && decide ((d.length : Int) ≤ 100)
theorem may_eq (v1 : Int) (s : ByteArray) (v2 : Int) (t : ByteArray) (d : List Int) : event_May.f v1 s v2 t d = some (mayE v1 s v2 t d) := by
  unfold event_May.f event_name.f mayE
  by_cases c1 : v1 ≥ 0
  · by_cases c2 : v2 ≥ 0
    · rw [if_pos c1, if_pos c2, Option.bind_some]
      cases h1 : nameB s
      · simp
      · rw [if_pos rfl, Option.bind_some]
        cases h2 : nameB t
        · simp
        · simp [c1, c2]
    · rw [if_pos c1, if_neg c2]; simp [c2]
  · rw [if_neg c1]; simp [c1]
theorem str_of_bytes (s : ByteArray) : strOfNums (bytesOf s) = s := by
  apply ByteArray.ext
  apply Array.ext'
  have h := str_u8 (bytesOf s)
  rw [u8_bytesOf, Go.ByteArray.toList_eq, Go.ByteArray.toList_eq] at h
  exact h
theorem put8 (n : Int) (k : Nat) (hk : 9 ≤ k) (l : List Int) (hl : l.length ≤ 140737488355000) : event_put.f k l n = some (l ++ be 8 n) := by
  unfold event_put.f
  exact put_loop .i64 rfl (fun k b v i => by rw [event_put.l0]) n 8 k l (by omega) (by omega) (by omega)
end EventPure

open Go Go.Proofs Go.Proofs.Ytfgeffmlfbeodaa.Crc Go.Proofs.Ytfgeffmlfbeodaa.Names Go.Proofs.Ytfgeffmlfbeodaa.Stru Go.Proofs.Ytfgeffmlfbeodaa.Rd
theorem bytes_of {l : List Int} (h : ∀ n ∈ l, (Lit.int .u8 n).wf = true) : Bytes8 l := fun x hx => by
  have h1 := h x hx
  simp [Lit.wf, IntKind.min, IntKind.max, IntKind.signed, IntKind.bits] at h1
  omega
theorem wf_i64 {a : Int} (h : (Lit.int .i64 a).wf = true) : -9223372036854775808 ≤ a ∧ a ≤ 9223372036854775807 := by
  simp [Lit.wf, IntKind.min, IntKind.max, IntKind.signed, IntKind.bits] at h
  omega
theorem wf_u16 {a : Int} (h : (Lit.int .u16 a).wf = true) : 0 ≤ a ∧ a < 65536 := by
  simp [Lit.wf, IntKind.min, IntKind.max, IntKind.signed, IntKind.bits] at h
  omega
theorem wf_u8 {a : Int} (h : (Lit.int .u8 a).wf = true) : 0 ≤ a ∧ a < 256 := by
  simp [Lit.wf, IntKind.min, IntKind.max, IntKind.signed, IntKind.bits] at h
  omega
theorem put_round (k : Nat) (x : List Int) (L : List ByteArray) (n i : Int) (s : ByteArray) (h0 : 0 ≤ i) (h1 : i < n) (h2 : i < (L.length : Int)) (hs : rdOf ByteArray.empty L i = s) (h16 : s.size ≤ 200) (hx : x.length ≤ 1000) :
    event_Put.l0 (k + 1) x L n i = event_Put.l0 k (x ++ ((s.size : Int) :: bytesOf s)) L n (wrap64 (i + 1)) := by
  rw [event_Put.l0, if_pos h1, if_pos h0, if_pos h2, hs, if_pos (by omega), Option.bind_some, if_pos (by simp only [List.length_append, List.length_cons, List.length_nil]; omega), Int.emod_eq_of_lt (by omega) (by omega)]
  rw [List.append_assoc, List.singleton_append]
theorem may_parts {v1 : Int} {s : ByteArray} {v2 : Int} {t : ByteArray} {d : List Int} (hm : mayE v1 s v2 t d = true) : 0 ≤ v1 ∧ 0 ≤ v2 ∧ s.size ≤ 16 ∧ t.size ≤ 16 ∧ d.length ≤ 100 := by
  simp only [mayE, Bool.and_eq_true, decide_eq_true_eq] at hm
  obtain ⟨⟨⟨⟨h1, h2⟩, h3⟩, h4⟩, h5⟩ := hm
  have := name_pos h3
  have := name_pos h4
  omega
theorem put_ev (k : Nat) (hk : 20 ≤ k) (v1 : Int) (s : ByteArray) (v2 : Int) (t : ByteArray) (d : List Int) (hm : mayE v1 s v2 t d = true) (hd : Bytes8 d) : event_Put.f k v1 s v2 t d = some (evB v1 v2 (bytesOf s) (bytesOf t) d) := by
  obtain ⟨_, _, h3, h4, h5⟩ := may_parts hm
  unfold event_Put.f
  rw [may_eq, hm, Option.bind_some, if_pos rfl, put8 v1 k (by omega) [] (by simp), Option.bind_some, put8 v2 k (by omega) _ (by simp [be_length]), Option.bind_some, Option.bind_some]
  obtain ⟨k, rfl⟩ : ∃ j, k = j + 4 := ⟨k - 4, by omega⟩
  have e3 : (([s, t, strOfNums d] : List ByteArray).length : Int) = 3 := rfl
  have hdl : (strOfNums d).size = d.length := str_size d
  have l1 : (bytesOf s).length = s.size := bytesOf_length s
  have l2 : (bytesOf t).length = t.size := bytesOf_length t
  rw [e3, put_round (k + 3) _ _ 3 0 s (by decide) (by decide) (by rw [e3]; decide) rfl (by omega) (by simp [be_length]), show wrap64 ((0 : Int) + 1) = 1 from by decide +kernel,
    put_round (k + 2) _ _ 3 1 t (by decide) (by decide) (by rw [e3]; decide) rfl (by omega) (by simp [be_length, l1]; omega), show wrap64 ((1 : Int) + 1) = 2 from by decide +kernel,
    put_round (k + 1) _ _ 3 2 (strOfNums d) (by decide) (by decide) (by rw [e3]; decide) rfl (by omega) (by simp [be_length, l1, l2]; omega), show wrap64 ((2 : Int) + 1) = 3 from by decide +kernel, event_Put.l0, if_neg (by decide)]
  rw [str_back hd, hdl]
  simp [evB, l1, l2]
theorem red_all {l : List Int} (h : Bytes8 l) : l.all (fun c => decide (0 ≤ c) && decide (c ≤ 255)) = true := by
  rw [List.all_eq_true]
  intro x hx
  have := h x hx
  simp; omega
theorem take_z (k : Nat) (hk : 20 ≤ k) (v1 : Int) (s : ByteArray) (v2 : Int) (t : ByteArray) (d z : List Int) (hm : mayE v1 s v2 t d = true) (hd : Bytes8 d) (hz : Bytes8 z) (hv1 : v1 ≤ 9223372036854775807) (hv2 : v2 ≤ 9223372036854775807) :
    event_Take.f k (evB v1 v2 (bytesOf s) (bytesOf t) d ++ z) = if z = [] then some (v1, s, v2, t, d, 0) else some (0, ⟨#[]⟩, 0, ⟨#[]⟩, [], 2) := by
  obtain ⟨h1, h2, h3, h4, h5⟩ := may_parts hm
  have l1 : (bytesOf s).length = s.size := bytesOf_length s
  have l2 : (bytesOf t).length = t.size := bytesOf_length t
  have hb : Bytes8 (evB v1 v2 (bytesOf s) (bytesOf t) d) := evB_bytes (bytesOf_bytes s) (bytesOf_bytes t) hd (by omega) (by omega) (by omega)
  obtain ⟨r1, r2, r3, r4, r5⟩ := red_ev v1 v2 (bytesOf s) (bytesOf t) d z (by omega) (by omega) (by omega)
  unfold event_Take.f
  rw [if_pos (red_all (bytes8_append hb hz)), r1, r2, r3, r4, r5, numv_be v1 h1 (by omega), numv_be v2 h2 (by omega), str_of_bytes, str_of_bytes]
  simp only
  rw [if_neg (by decide), may_eq, hm, Option.bind_some, if_pos rfl, put_ev k hk v1 s v2 t d hm hd, Option.bind_some]
  unfold bytes_Equal.f
  rw [Option.bind_some, str_eq hb (bytes8_append hb hz)]
  by_cases c : z = []
  · subst c
    rw [List.append_nil, decide_eq_true rfl, if_pos rfl, if_pos rfl]
  · rw [decide_eq_false (by intro e; exact c (List.append_right_eq_self.1 e.symm)), if_neg (by decide), if_neg c]
theorem take_cut (k : Nat) (v1 : Int) (s : ByteArray) (v2 : Int) (t : ByteArray) (d : List Int) (hm : mayE v1 s v2 t d = true) (hd : Bytes8 d) (n : Nat) (hn : n < (evB v1 v2 (bytesOf s) (bytesOf t) d).length) :
    event_Take.f k ((evB v1 v2 (bytesOf s) (bytesOf t) d).take n) = some (0, ⟨#[]⟩, 0, ⟨#[]⟩, [], 2) := by
  obtain ⟨h1, h2, h3, h4, h5⟩ := may_parts hm
  have l1 : (bytesOf s).length = s.size := bytesOf_length s
  have l2 : (bytesOf t).length = t.size := bytesOf_length t
  have hb : Bytes8 (evB v1 v2 (bytesOf s) (bytesOf t) d) := evB_bytes (bytesOf_bytes s) (bytesOf_bytes t) hd (by omega) (by omega) (by omega)
  obtain ⟨_, _, _, _, r5⟩ := red_ev v1 v2 (bytesOf s) (bytesOf t) d [] (by omega) (by omega) (by omega)
  rw [List.append_nil] at r5
  have hp : Bytes8 ((evB v1 v2 (bytesOf s) (bytesOf t) d).take n) := fun x hx => hb x (List.mem_of_mem_take hx)
  generalize evB v1 v2 (bytesOf s) (bytesOf t) d = E at *
  have hsh : (red (E.take n)).a5.2.2 = true := by
    cases hc : (red (E.take n)).a5.2.2 with
    | true => rfl
    | false =>
      have h6 := red_ext (E.drop n) (fun c hc => by have := hp c hc; omega) hc
      rw [List.take_append_drop, r5] at h6
      have h7 := congrArg List.length h6
      simp at h7
      omega
  unfold event_Take.f
  rw [if_pos (red_all hp), if_pos hsh]
theorem same_self (v1 : Int) (s : ByteArray) (v2 : Int) (t : ByteArray) (d : List Int) : event_Same.f v1 s v2 t d v1 s v2 t d = some true := by
  unfold event_Same.f bytes_Equal.f
  simp
theorem same_ref (v1 : Int) (s : ByteArray) (v2 : Int) (t : ByteArray) (d : List Int) : pandectref6_SameEvent.f v1 s v2 t d v1 s v2 t d = some true := by
  unfold pandectref6_SameEvent.f
  simp
theorem walk (v1 : Int) (s : ByteArray) (v2 : Int) (t : ByteArray) (ad : Option Addr) (len cap : Nat) (z : List Int) (ct m : Int) (w : World)
    (w0 : (Lit.int .i64 v1).wf = true) (w1 : s.size ≤ maxLen) (w2 : (Lit.int .i64 v2).wf = true) (w3 : t.size ≤ maxLen) (w4 : IsRow .u8 w ad len cap z) (w5 : (Lit.int .u16 ct).wf = true) (w6 : (Lit.int .u8 m).wf = true) :
    Calls Try.prog 4 #[.agg #[.int .i64 v1, .string s, .int .i64 v2, .string t, .slice ad len cap], .int .u16 ct, .int .u8 m] w fun e w' => e = .returned (.bool true) ∧ Below w.heap.size w w' := by
  obtain ⟨l, rfl, hr, hmx, hw, hc⟩ := ReadsInt.ofRowC w4
  have hb := bytes_of hw
  have n1 := wf_i64 w0
  have n2 := wf_i64 w2
  have n3 := wf_u16 w5
  have n4 := wf_u8 w6
  have hR : Kd.C (Kd.int .u8) w ad l.length l := Kd.C_of_reads (d := (0 : Int)) (h1 := fun _ => rfl) hr
  cases hm : mayE v1 s v2 t l with
  | false =>
    refine walk_bad 100 v1 s v2 t ad cap l ct m w hR hc (by rw [may_eq, hm]) ?_
    unfold event_Put.f
    rw [may_eq, hm, Option.bind_some, if_neg (by decide)]
  | true =>
    obtain ⟨h1, h2, h3, h4, h5⟩ := may_parts hm
    have l1 : (bytesOf s).length = s.size := bytesOf_length s
    have l2 : (bytesOf t).length = t.size := bytesOf_length t
    have hlen := evB_length v1 v2 (bytesOf s) (bytesOf t) l
    have hmod := Int.emod_lt_of_pos ct (show (0 : Int) < ((evB v1 v2 (bytesOf s) (bytesOf t) l).length : Int) by omega)
    have hmod0 := Int.emod_nonneg ct (show ((evB v1 v2 (bytesOf s) (bytesOf t) l).length : Int) ≠ 0 by omega)
    have t0 := take_z 100 (by omega) v1 s v2 t l [] hm hb (fun x hx => by cases hx) (by omega) (by omega)
    rw [List.append_nil, if_pos rfl] at t0
    have t1 := take_z 100 (by omega) v1 s v2 t l [m] hm hb (fun x hx => by rw [List.mem_singleton.1 hx]; exact n4) (by omega) (by omega)
    rw [if_neg (by simp)] at t1
    exact walk_good 100 v1 s v2 t ad cap l _ ct m w hR hc (by rw [may_eq, hm]) (put_ev 100 (by omega) v1 s v2 t l hm hb) h3 h4 h5 (by rw [hlen, l1, l2]) n3.1 n3.2 _ rfl t0 (take_cut 100 v1 s v2 t l hm hb _ (by omega)) _ rfl t1 (same_self _ _ _ _ _) (same_ref _ _ _ _ _)

end Go.Proofs.Ytfgeffmlfbeodaa.Pure
