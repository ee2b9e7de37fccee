/- KeyApart: keys of unlike kinds are unlike, and each tells its name. No condition. -/
import Derived.Test.YtfgeffmlfbeodaaWalkKeyApart
import Derived.Test.YtfgeffmlfbeodaaCrc
namespace Go.Proofs.Ytfgeffmlfbeodaa.Pure
open Go.RowKit Go.Proofs.Ytfgeffmlfbeodaa.PKeyApart Go.Proofs.YtfgeffmlfbeodaaW.PrintWords Go.Proofs.YtfgeffmlfbeodaaW.PrintLast
set_option linter.unusedVariables false
section Be
open Go.Proofs.Ytfgeffmlfbeodaa.Crc
/-- A number in so many bytes, the highest first. -/
def be : Nat → Int → List Int
  | 0, _ => []
  | n + 1, v => (v / 256 ^ n) % 256 :: be n v
def nmF (a : Int) (l : List Int) : Int := l.foldl (fun a c => a * 256 + c) a
def nm (l : List Int) : Int := nmF 0 l
theorem be_length (n : Nat) (v : Int) : (be n v).length = n := by
  induction n with
  | zero => rfl
  | succ n ih => simp [be, ih]
theorem be_bytes (n : Nat) (v : Int) : Bytes8 (be n v) := by
  induction n with
  | zero => intro x hx; simp [be] at hx
  | succ n ih =>
    intro x hx
    rcases List.mem_cons.1 hx with rfl | h
    · exact ⟨Int.emod_nonneg _ (by decide), Int.emod_lt_of_pos _ (by decide)⟩
    · exact ih x h
theorem nat_mod_split (v m : Nat) : v % (m * 256) = (v / m % 256) * m + v % m := by
  rw [Nat.mod_mul, Nat.mul_comm m, Nat.add_comm]
theorem pw (n : Nat) : (256 : Int) ^ n = ((256 ^ n : Nat) : Int) := by rw [Int.natCast_pow]; rfl
theorem pw_pos (n : Nat) : (0 : Int) < 256 ^ n := Int.pow_pos (by decide)
theorem nmF_be (n : Nat) (v : Nat) : ∀ a : Int, nmF a (be n (v : Int)) = a * 256 ^ n + ((v % 256 ^ n : Nat) : Int) := by
  induction n with
  | zero => intro a; simp [be, nmF, Nat.mod_one]
  | succ n ih =>
    intro a
    have e : nmF a (be (n + 1) (v : Int)) = nmF (a * 256 + ((v : Int) / 256 ^ n) % 256) (be n (v : Int)) := rfl
    rw [e, ih]
    have h1 : ((v : Int) / 256 ^ n) % 256 = ((v / 256 ^ n % 256 : Nat) : Int) := by rw [pw]; rfl
    rw [h1, Nat.pow_succ, nat_mod_split]
    have h2 : (256 : Int) ^ (n + 1) = 256 ^ n * 256 := Int.pow_succ ..
    rw [h2, Int.natCast_add, Int.natCast_mul, ← pw, Int.add_mul, Int.mul_assoc, Int.mul_comm (256 : Int) (256 ^ n), Int.add_assoc]
theorem nm_be (n : Nat) (v : Int) (h0 : 0 ≤ v) (h1 : v < 256 ^ n) : nm (be n v) = v := by
  obtain ⟨m, rfl⟩ := Int.eq_ofNat_of_zero_le h0
  unfold nm
  rw [nmF_be, Int.zero_mul, Int.zero_add, Nat.mod_eq_of_lt]
  have : ((m : Nat) : Int) < ((256 ^ n : Nat) : Int) := by rw [← pw]; exact h1
  exact Int.ofNat_lt.1 this
theorem nmF_append (a : Int) (l r : List Int) : nmF a (l ++ r) = nmF (nmF a l) r := by simp [nmF]
theorem nmF_bound (l : List Int) (hl : Bytes8 l) : ∀ a : Int, a * 256 ^ l.length ≤ nmF a l ∧ nmF a l < (a + 1) * 256 ^ l.length := by
  induction l with
  | nil => intro a; simp [nmF]; omega
  | cons x l ih =>
    intro a
    have hx := hl x (by simp)
    have := ih (fun y hy => hl y (List.mem_cons_of_mem _ hy)) (a * 256 + x)
    have e : nmF a (x :: l) = nmF (a * 256 + x) l := rfl
    rw [e, List.length_cons]
    have hp : (0 : Int) < 256 ^ l.length := pw_pos _
    have h2 : (256 : Int) ^ (l.length + 1) = 256 * 256 ^ l.length := by rw [Int.pow_succ, Int.mul_comm]
    rw [h2, ← Int.mul_assoc, ← Int.mul_assoc]
    have h3 : a * 256 * 256 ^ l.length ≤ (a * 256 + x) * 256 ^ l.length := Int.mul_le_mul_of_nonneg_right (by omega) (Int.le_of_lt hp)
    have h4 : (a * 256 + x + 1) * 256 ^ l.length ≤ (a + 1) * 256 * 256 ^ l.length := Int.mul_le_mul_of_nonneg_right (by omega) (Int.le_of_lt hp)
    omega
theorem nm_range {l : List Int} (hl : Bytes8 l) : 0 ≤ nm l ∧ nm l < 256 ^ l.length := by
  have := nmF_bound l hl 0
  simp at this
  exact this
theorem be_nmF (l : List Int) (hl : Bytes8 l) : ∀ a : Int, 0 ≤ a → be l.length (nmF a l) = l := by
  induction l with
  | nil => intro a _; rfl
  | cons x l ih =>
    intro a ha
    have hx := hl x (by simp)
    have hl' : Bytes8 l := fun y hy => hl y (List.mem_cons_of_mem _ hy)
    have e : nmF a (x :: l) = nmF (a * 256 + x) l := rfl
    rw [e, List.length_cons, be, ih hl' _ (by omega)]
    have hb := nmF_bound l hl' (a * 256 + x)
    have hp : (0 : Int) < 256 ^ l.length := pw_pos _
    have hd : nmF (a * 256 + x) l / 256 ^ l.length = a * 256 + x := by
      apply Int.le_antisymm
      · have := Int.ediv_lt_of_lt_mul hp hb.2; omega
      · exact (Int.le_ediv_iff_mul_le hp).2 hb.1
    rw [hd]
    congr 1
    omega
theorem be_nm (l : List Int) (hl : Bytes8 l) : be l.length (nm l) = l := be_nmF l hl 0 (by omega)
theorem be_inj {n : Nat} {u v : Int} (hu : 0 ≤ u ∧ u < 256 ^ n) (hv : 0 ≤ v ∧ v < 256 ^ n) (h : be n u = be n v) : u = v := by
  rw [← nm_be n u hu.1 hu.2, h, nm_be n v hv.1 hv.2]
theorem nm_inj {l r : List Int} (hl : Bytes8 l) (hr : Bytes8 r) (hlen : l.length = r.length) (h : nm l = nm r) : l = r := by
  rw [← be_nm l hl, ← be_nm r hr, h, hlen]
end Be

section Loops
open Go.Proofs.Ytfgeffmlfbeodaa.Crc
theorem shr_byte (K : IntKind) (hK : K.bits = 64) (v : Int) (n : Nat) (hn : n < 8) : shr K v (wrap64 (8 * (n : Int))) = v / 256 ^ n := by
  unfold shr
  rw [hK, show wrap64 (8 * (n : Int)) = 8 * (n : Int) from by unfold wrap64; omega, show (8 * (n : Int)).toNat = 8 * n from by omega, Nat.min_eq_left (by omega), Int.pow_mul]
  rfl
/-- A loop that puts a number's bytes, the highest first. -/
theorem put_loop {L : Nat → List Int → Int → Int → Option (List Int)} (K : IntKind) (hK : K.bits = 64)
    (hL : ∀ k b v i, L (k + 1) b v i = if i ≥ 0 then (if 0 ≤ (wrap64 (8 * i)) then (if b.length < 140737488355328 then (L k (b ++ [(shr K v (wrap64 (8 * i))) % 256]) v (wrap64 (i - 1))) else (none)) else (none)) else (some b)) (v : Int) :
    ∀ (n k : Nat) (b : List Int), n ≤ 8 → n + 1 ≤ k → b.length + n ≤ 140737488355328 → L k b v ((n : Int) - 1) = some (b ++ be n v)
  | 0, k, b, _, hk, _ => by
    obtain ⟨k, rfl⟩ : ∃ m, k = m + 1 := ⟨k - 1, by omega⟩
    rw [hL, if_neg (by omega)]; simp [be]
  | n + 1, k, b, hn, hk, hb => by
    obtain ⟨k, rfl⟩ : ∃ m, k = m + 1 := ⟨k - 1, by omega⟩
    rw [show (((n + 1 : Nat) : Int) - 1) = (n : Int) from by omega, hL, if_pos (by omega), if_pos (by unfold wrap64; omega), if_pos (by omega), shr_byte K hK v n (by omega), show wrap64 ((n : Int) - 1) = (n : Int) - 1 from by unfold wrap64; omega,
      put_loop K hK hL v n k _ (by omega) (by omega) (by simp only [List.length_append, List.length_cons, List.length_nil]; omega)]
    simp [be]
theorem or64 (x y : Int) (hx0 : 0 ≤ x) (hx1 : x < 72057594037927936) (hy0 : 0 ≤ y) (hy1 : y < 256) : Go.bits .or .u64 (x * 256) y = x * 256 + y :=
  Go.bits_join .u64 64 (by decide) (fun n h0 h1 => by rw [Go.IntKind.wrap_u64]; omega) 8 (x * 256) y (by omega) (by omega) (by omega) hy0 (by omega) (by omega)
theorem wrap_u64' (x : Int) (h0 : 0 ≤ x) (h1 : x < 18446744073709551616) : IntKind.u64.wrap x = x := by rw [Go.IntKind.wrap_u64]; omega
theorem ofInt64_congr {x y : Int} (h : x % 18446744073709551616 = y % 18446744073709551616) : BitVec.ofInt 64 x = BitVec.ofInt 64 y := by
  apply BitVec.eq_of_toNat_eq
  rw [BitVec.toNat_ofInt, BitVec.toNat_ofInt]
  show (x % (18446744073709551616 : Int)).toNat = (y % (18446744073709551616 : Int)).toNat
  rw [h]
theorem or_i64 (X X' Y Y' : Int) (hx : X % 18446744073709551616 = X' % 18446744073709551616) (hy : Y % 18446744073709551616 = Y' % 18446744073709551616) : Go.bits .or .i64 X Y = wrap64 (Go.bits .or .u64 X' Y') := by
  have e1 : Go.bits .or .i64 X Y = IntKind.i64.wrap ((BitVec.ofInt 64 X ||| BitVec.ofInt 64 Y).toNat : Int) := rfl
  have e2 : Go.bits .or .u64 X' Y' = IntKind.u64.wrap ((BitVec.ofInt 64 X' ||| BitVec.ofInt 64 Y').toNat : Int) := rfl
  have hb := (BitVec.ofInt 64 X' ||| BitVec.ofInt 64 Y').isLt
  rw [e1, e2, ofInt64_congr hx, ofInt64_congr hy, wrap_u64' _ (by omega) (by omega)]
  exact i64_w _
theorem rd_at (l : List Int) (j : Nat) (hl : j < l.length) : rd l (j : Int) = l[j] := by simp [rd, List.getD_eq_getElem?_getD, List.getElem?_eq_getElem hl]
theorem nm_take_succ (l : List Int) (i : Nat) (hi : i < l.length) : nm (l.take (i + 1)) = nm (l.take i) * 256 + l[i] := by
  rw [List.take_succ_eq_append_getElem hi]; unfold nm; rw [nmF_append]; rfl
theorem nm_small {l : List Int} (hl : Bytes8 l) (h : l.length ≤ 7) : 0 ≤ nm l ∧ nm l < 72057594037927936 := by
  have h1 := nm_range hl
  refine ⟨h1.1, Int.lt_of_lt_of_le h1.2 ?_⟩
  have : (256 : Nat) ^ l.length ≤ 256 ^ 7 := Nat.pow_le_pow_right (by decide) h
  rw [pw]
  exact Int.ofNat_le.2 this
theorem nm_u64 {l : List Int} (hl : Bytes8 l) (h : l.length ≤ 8) : 0 ≤ nm l ∧ nm l < 18446744073709551616 := by
  have h1 := nm_range hl
  refine ⟨h1.1, Int.lt_of_lt_of_le h1.2 ?_⟩
  have : (256 : Nat) ^ l.length ≤ 256 ^ 8 := Nat.pow_le_pow_right (by decide) h
  rw [pw]
  exact Int.ofNat_le.2 this
/-- A loop that reads a number, unsigned. -/
theorem num_loop {L : Nat → Int → List Int → Int → Int → Option Int}
    (hL : ∀ k a xs len i, L (k + 1) a xs len i = if i < len then (if 0 ≤ i then (if i < (xs.length : Int) then (L k (Go.bits .or .u64 (IntKind.u64.wrap (a * 256)) (IntKind.u64.wrap (rd xs i))) xs len (wrap64 (i + 1))) else (none)) else (none)) else (some a))
    (l : List Int) (hb : Bytes8 l) (h8 : l.length ≤ 8) : ∀ (n i k : Nat), i + n = l.length → n + 1 ≤ k → L k (nm (l.take i)) l (l.length : Int) (i : Int) = some (nm l)
  | 0, i, k, hi, hk => by
    obtain ⟨k, rfl⟩ : ∃ m, k = m + 1 := ⟨k - 1, by omega⟩
    rw [hL, if_neg (by omega), List.take_of_length_le (by omega)]
  | n + 1, i, k, hi, hk => by
    obtain ⟨k, rfl⟩ : ∃ m, k = m + 1 := ⟨k - 1, by omega⟩
    have hx := hb (l[i]'(by omega)) (List.getElem_mem (by omega))
    have hs := nm_small (l := l.take i) (fun x hx => hb x (List.mem_of_mem_take hx)) (by rw [List.length_take]; omega)
    rw [hL, if_pos (by omega), if_pos (by omega), if_pos (by omega), rd_at l i (by omega), wrap_u64' _ (by omega) (by omega), wrap_u64' _ (by omega) (by omega), or64 _ _ (by omega) (by omega) (by omega) (by omega),
      show wrap64 ((i : Int) + 1) = ((i + 1 : Nat) : Int) from by unfold wrap64; omega, ← nm_take_succ l i (by omega)]
    exact num_loop hL l hb h8 n (i + 1) k (by omega) (by omega)
/-- A loop that reads a number, signed. -/
theorem num_loop_i {L : Nat → Int → List Int → Int → Int → Option Int}
    (hL : ∀ k a xs len i, L (k + 1) a xs len i = if i < len then (if 0 ≤ i then (if i < (xs.length : Int) then (L k (Go.bits .or .i64 (wrap64 (a * 256)) (wrap64 (rd xs i))) xs len (wrap64 (i + 1))) else (none)) else (none)) else (some a))
    (l : List Int) (hb : Bytes8 l) (h8 : l.length ≤ 8) : ∀ (n i k : Nat), i + n = l.length → n + 1 ≤ k → L k (wrap64 (nm (l.take i))) l (l.length : Int) (i : Int) = some (wrap64 (nm l))
  | 0, i, k, hi, hk => by
    obtain ⟨k, rfl⟩ : ∃ m, k = m + 1 := ⟨k - 1, by omega⟩
    rw [hL, if_neg (by omega), List.take_of_length_le (by omega)]
  | n + 1, i, k, hi, hk => by
    obtain ⟨k, rfl⟩ : ∃ m, k = m + 1 := ⟨k - 1, by omega⟩
    have hx := hb (l[i]'(by omega)) (List.getElem_mem (by omega))
    have hs := nm_small (l := l.take i) (fun x hx => hb x (List.mem_of_mem_take hx)) (by rw [List.length_take]; omega)
    rw [hL, if_pos (by omega), if_pos (by omega), if_pos (by omega), rd_at l i (by omega), or_i64 _ (nm (l.take i) * 256) _ (l[i]'(by omega)) (by unfold wrap64; omega) (by unfold wrap64; omega), or64 _ _ (by omega) (by omega) (by omega) (by omega),
      show wrap64 ((i : Int) + 1) = ((i + 1 : Nat) : Int) from by unfold wrap64; omega, ← nm_take_succ l i (by omega)]
    exact num_loop_i hL l hb h8 n (i + 1) k (by omega) (by omega)
end Loops

section Key
open Go.Proofs.Ytfgeffmlfbeodaa.Crc Go.Proofs.Ytfgeffmlfbeodaa.Names
def u8 (l : List Int) : List UInt8 := l.map fun x => UInt8.ofNat x.toNat
theorem str_u8 (l : List Int) : (strOfNums l).toList = u8 l := by simp [strOfNums, u8]
theorem str_size (l : List Int) : (strOfNums l).size = l.length := by simp [strOfNums, ByteArray.size]
theorem u8_append (a b : List Int) : u8 (a ++ b) = u8 a ++ u8 b := by simp [u8]
theorem toList_data (s : ByteArray) : s.toList = s.data.toList := Go.ByteArray.toList_eq s
theorem u8_bytesOf (s : ByteArray) : u8 (bytesOf s) = s.toList := by
  rw [toList_data]
  simp [u8, bytesOf, Function.comp_def]
theorem u8_lt {x y : Int} (hx : 0 ≤ x ∧ x < 256) (hy : 0 ≤ y ∧ y < 256) : (decide (UInt8.ofNat x.toNat < UInt8.ofNat y.toNat)) = decide (x < y) := by
  by_cases h : x < y
  · rw [decide_eq_true h, decide_eq_true]
    rw [UInt8.lt_iff_toNat_lt]
    simp; omega
  · rw [decide_eq_false h, decide_eq_false]
    rw [UInt8.lt_iff_toNat_lt]
    simp; omega
theorem u8_eq {x y : Int} (hx : 0 ≤ x ∧ x < 256) (hy : 0 ≤ y ∧ y < 256) : (UInt8.ofNat x.toNat == UInt8.ofNat y.toNat) = decide (x = y) := by
  by_cases h : x = y
  · subst h; simp
  · rw [decide_eq_false h, beq_eq_false_iff_ne]
    intro h2
    have := congrArg UInt8.toNat h2
    simp at this
    omega
theorem bl_names : ∀ (a b s t : List UInt8), (∀ c ∈ a, 0 < c) → (∀ c ∈ b, 0 < c) → Op.bytesLess (a ++ 0 :: s) (b ++ 0 :: t) = (Op.bytesLess a b || (a == b) && Op.bytesLess s t)
  | [], [], s, t, _, _ => by simp [Op.bytesLess]
  | [], y :: b, s, t, _, hb => by
    have := hb y (by simp)
    simp [Op.bytesLess, this]
  | x :: a, [], s, t, ha, _ => by
    have h1 := ha x (by simp)
    have h2 : ¬ x < 0 := by rw [UInt8.lt_iff_toNat_lt]; simp
    have h3 : ¬ x = 0 := fun h => by subst h; exact absurd h1 (by decide)
    simp [Op.bytesLess, h2, h3]
  | x :: a, y :: b, s, t, ha, hb => by
    have ih := bl_names a b s t (fun c hc => ha c (List.mem_cons_of_mem _ hc)) (fun c hc => hb c (List.mem_cons_of_mem _ hc))
    simp only [List.cons_append, Op.bytesLess, ih, List.cons_beq_cons]
    cases decide (x < y) <;> cases (x == y) <;> simp
theorem eq_names : ∀ (a b s t : List UInt8), (∀ c ∈ a, 0 < c) → (∀ c ∈ b, 0 < c) → ((a ++ 0 :: s) == (b ++ 0 :: t)) = ((a == b) && (s == t))
  | [], [], s, t, _, _ => by simp
  | [], y :: b, s, t, _, hb => by
    have h1 := hb y (by simp)
    have h3 : ¬ (0 : UInt8) = y := fun h => by subst h; exact absurd h1 (by decide)
    rw [List.nil_append, List.cons_append, List.cons_beq_cons, beq_eq_false_iff_ne.2 h3]; rfl
  | x :: a, [], s, t, ha, _ => by
    have h1 := ha x (by simp)
    have h3 : ¬ x = 0 := fun h => by subst h; exact absurd h1 (by decide)
    rw [List.nil_append, List.cons_append, List.cons_beq_cons, beq_eq_false_iff_ne.2 h3]; rfl
  | x :: a, y :: b, s, t, ha, hb => by
    have ih := eq_names a b s t (fun c hc => ha c (List.mem_cons_of_mem _ hc)) (fun c hc => hb c (List.mem_cons_of_mem _ hc))
    simp only [List.cons_append, List.cons_beq_cons, ih, Bool.and_assoc]
theorem mod_split (n j : Nat) : n % 256 ^ (j + 1) = (n / 256 ^ j % 256) * 256 ^ j + n % 256 ^ j := by rw [Nat.pow_succ, nat_mod_split]
theorem be_cons (j n : Nat) : be (j + 1) (n : Int) = ((n / 256 ^ j % 256 : Nat) : Int) :: be j (n : Int) := by rw [be, pw]; rfl
theorem bl_be : ∀ (j n m : Nat), Op.bytesLess (u8 (be j (n : Int))) (u8 (be j (m : Int))) = decide (n % 256 ^ j < m % 256 ^ j)
  | 0, n, m => by simp [be, u8, Op.bytesLess, Nat.mod_one]
  | j + 1, n, m => by
    have ih := bl_be j n m
    have hp : 0 < 256 ^ j := Nat.pow_pos (by decide)
    have h1 : n % 256 ^ j < 256 ^ j := Nat.mod_lt _ hp
    have h2 : m % 256 ^ j < 256 ^ j := Nat.mod_lt _ hp
    rw [be_cons, be_cons, u8, u8, List.map_cons, List.map_cons, Op.bytesLess, u8_lt ⟨by omega, by omega⟩ ⟨by omega, by omega⟩, u8_eq ⟨by omega, by omega⟩ ⟨by omega, by omega⟩]
    change (_ || _ && Op.bytesLess (u8 (be j (n : Int))) (u8 (be j (m : Int)))) = _
    rw [ih, mod_split n j, mod_split m j]
    generalize n / 256 ^ j % 256 = p
    generalize m / 256 ^ j % 256 = q
    generalize n % 256 ^ j = x at h1 ⊢
    generalize m % 256 ^ j = y at h2 ⊢
    generalize 256 ^ j = z at hp h1 h2 ⊢
    by_cases hlt : p < q
    · have : p * z + z ≤ q * z := by rw [← Nat.succ_mul]; exact Nat.mul_le_mul_right _ hlt
      rw [decide_eq_true (show (p : Int) < q by omega), decide_eq_true (show p * z + x < q * z + y by omega)]; rfl
    · by_cases he : p = q
      · subst he
        rw [decide_eq_false (show ¬ (p : Int) < p by omega), decide_eq_true rfl]
        simp
      · have : q * z + z ≤ p * z := by rw [← Nat.succ_mul]; exact Nat.mul_le_mul_right _ (by omega)
        rw [decide_eq_false (show ¬ (p : Int) < q by omega), decide_eq_false (show ¬ (p : Int) = q by omega), decide_eq_false (show ¬ p * z + x < q * z + y by omega)]; rfl
theorem bl_num (n m : Int) (hn : 0 ≤ n ∧ n < 18446744073709551616) (hm : 0 ≤ m ∧ m < 18446744073709551616) : Op.bytesLess (u8 (be 8 n)) (u8 (be 8 m)) = decide (n < m) := by
  obtain ⟨a, rfl⟩ := Int.eq_ofNat_of_zero_le hn.1
  obtain ⟨b, rfl⟩ := Int.eq_ofNat_of_zero_le hm.1
  rw [bl_be, Nat.mod_eq_of_lt (by have : (256 : Nat) ^ 8 = 18446744073709551616 := by decide
                                  omega), Nat.mod_eq_of_lt (by have : (256 : Nat) ^ 8 = 18446744073709551616 := by decide
                                                               omega)]
  by_cases h : a < b
  · rw [decide_eq_true h, decide_eq_true (by omega)]
  · rw [decide_eq_false h, decide_eq_false (by omega)]
theorem u8_inj {a b : List Int} (ha : Bytes8 a) (hb : Bytes8 b) (h : u8 a = u8 b) : a = b := by
  have hi : ∀ (l : List Int), Bytes8 l → (u8 l).map (fun c => ((c.toNat : Nat) : Int)) = l := by
    intro l hl
    induction l with
    | nil => rfl
    | cons x l ih =>
      have hx := hl x (by simp)
      have e : u8 (x :: l) = UInt8.ofNat x.toNat :: u8 l := rfl
      rw [e, List.map_cons, ih (fun y hy => hl y (List.mem_cons_of_mem _ hy))]
      congr 1
      simp; omega
  rw [← hi a ha, ← hi b hb, h]
theorem eq_num (n m : Int) (hn : 0 ≤ n ∧ n < 18446744073709551616) (hm : 0 ≤ m ∧ m < 18446744073709551616) : (u8 (be 8 n) == u8 (be 8 m)) = (n == m) := by
  by_cases h : n = m
  · subst h; simp
  · rw [beq_eq_false_iff_ne.2 h, beq_eq_false_iff_ne]
    intro h2
    exact h (be_inj (n := 8) ⟨hn.1, hn.2⟩ ⟨hm.1, hm.2⟩ (u8_inj (be_bytes _ _) (be_bytes _ _) h2))
theorem name_pos {s : ByteArray} (h : nameB s = true) : (1 ≤ s.size ∧ s.size ≤ 16) ∧ ∀ c ∈ s.toList, 0 < c := by
  simp only [nameB, Bool.and_eq_true, decide_eq_true_eq, Bool.not_eq_true'] at h
  refine ⟨h.1, fun c hc => ?_⟩
  have hc' : c ∈ s.data.toList := by rw [← toList_data]; exact hc
  have h2 := List.any_eq_false.1 h.2 c hc'
  simp only [badB, Bool.or_eq_true, decide_eq_true_eq, not_or] at h2
  rw [UInt8.lt_iff_toNat_lt]
  have : (0 : UInt8).toNat = 0 := rfl
  omega
theorem number_be (l : List Int) (n : Int) (k : Nat) (hk : 9 ≤ k) (hl : l.length ≤ 140737488355000) : key_number.f k l n = some (l ++ be 8 n) := by
  unfold key_number.f
  exact put_loop .i64 rfl (fun k b v i => by rw [key_number.l0]) n 8 k l (by omega) (by omega) (by omega)
theorem pair_be (s : ByteArray) (n : Int) (k : Nat) (hk : 9 ≤ k) (h : nameB s = true) (hn : 0 ≤ n) : key_pair.f k s n = some (bytesOf s ++ [0] ++ be 8 n) := by
  unfold key_pair.f
  have := (name_pos h).1
  rw [if_pos h, if_neg (by omega), number_be _ _ k hk (by rw [List.length_append, bytesOf_length]; simp; omega)]
theorem bt_bad (s : ByteArray) (i : Nat) (h : i < s.size) : badB (s.data.toList[i]'(by rw [data_length]; exact h)) = (decide (bt s (i : Int) < 33) || decide (126 < bt s (i : Int))) := by
  have e : bt s (i : Int) = ((s.data.toList[i]'(by rw [data_length]; exact h)).toNat : Int) := by
    rw [← bt_at s (i : Int) (by simpa using h)]
    rfl
  rw [e, badB]
  congr 1
  · by_cases hc : (s.data.toList[i]'(by rw [data_length]; exact h)).toNat < 33
    · rw [decide_eq_true hc, decide_eq_true (by omega)]
    · rw [decide_eq_false hc, decide_eq_false (by omega)]
  · by_cases hc : 126 < (s.data.toList[i]'(by rw [data_length]; exact h)).toNat
    · rw [decide_eq_true hc, decide_eq_true (by omega)]
    · rw [decide_eq_false hc, decide_eq_false (by omega)]
theorem may_loop (s : ByteArray) (hs : s.size ≤ 140737488351232) : ∀ (n i k : Nat), i + n = s.size → n + 1 ≤ k → pandectref6_MayName.l0 k s (i : Int) = some (decide (1 ≤ s.size) && decide (s.size ≤ 16) && !((s.data.toList.drop i).any badB))
  | 0, i, k, hi, hk => by
    obtain ⟨k, rfl⟩ : ∃ m, k = m + 1 := ⟨k - 1, by omega⟩
    rw [pandectref6_MayName.l0, if_neg (by omega), List.drop_of_length_le (by rw [data_length]; omega)]
    by_cases h : (s.size : Int) ≥ 1
    · rw [if_pos h, decide_eq_true (show 1 ≤ s.size by omega)]
      by_cases h2 : s.size ≤ 16
      · rw [decide_eq_true h2, decide_eq_true (by omega)]; rfl
      · rw [decide_eq_false h2, decide_eq_false (by omega)]; rfl
    · rw [if_neg h, decide_eq_false (show ¬ 1 ≤ s.size by omega)]; rfl
  | n + 1, i, k, hi, hk => by
    obtain ⟨k, rfl⟩ : ∃ m, k = m + 1 := ⟨k - 1, by omega⟩
    have hlt : i < s.data.toList.length := by rw [data_length]; omega
    have hb := bt_bad s i (by omega)
    rw [pandectref6_MayName.l0, if_pos (by omega), if_pos (by omega), List.drop_eq_getElem_cons hlt, List.any_cons, hb]
    by_cases h1 : bt s (i : Int) < 33
    · rw [if_pos h1, decide_eq_true h1]; simp
    · by_cases h2 : bt s (i : Int) > 126
      · rw [if_neg h1, if_pos h2, decide_eq_true h2]; simp
      · rw [if_neg h1, if_neg h2, show wrap64 ((i : Int) + 1) = ((i + 1 : Nat) : Int) from by unfold wrap64; omega, may_loop s hs n (i + 1) k (by omega) (by omega), decide_eq_false h1, decide_eq_false h2]
        simp
theorem ref_may (s : ByteArray) (hs : s.size ≤ 140737488351232) (k : Nat) (hk : s.size + 1 ≤ k) : pandectref6_MayName.f k s = some (nameB s) := may_loop s hs s.size 0 k (by omega) hk
end Key

section KeyStream
open Go.Proofs.Ytfgeffmlfbeodaa.Crc Go.Proofs.Ytfgeffmlfbeodaa.Names
theorem str_back {l : List Int} (hl : Bytes8 l) : bytesOf (strOfNums l) = l := by
  have e : bytesOf (strOfNums l) = l.map fun x => ((UInt8.ofNat x.toNat).toNat : Int) := by simp [bytesOf, strOfNums, Function.comp_def]
  rw [e]
  conv => rhs; rw [← List.map_id l]
  apply List.map_congr_left
  intro x hx
  have := hl x hx
  simp; omega
def none3 : ByteArray × Int × Bool := (⟨#[]⟩, 0, false)
def takeK (l : List Int) : ByteArray × Int × Bool := if 10 ≤ l.length ∧ nameB (strOfNums (l.take (l.length - 9))) = true ∧ rd l ((l.length : Int) - 9) = 0 ∧ nm (l.drop (l.length - 8)) ≤ 9223372036854775807 then (strOfNums (l.take (l.length - 9)), nm (l.drop (l.length - 8)), true) else none3
theorem ts_loop (l0 : List Int) (e : Int) (l : List Int) (hb : Bytes8 l) (h8 : l.length ≤ 8) (k : Nat) : ∀ (n i : Nat), i + n = l.length → key_TakeStream.l0 (n + 1 + k) l0 (wrap64 (nm (l.take i))) e l (l.length : Int) (i : Int) = key_TakeStream.l0 (k + 1) l0 (wrap64 (nm l)) e l (l.length : Int) (l.length : Int)
  | 0, i, hi => by
    rw [List.take_of_length_le (by omega), show 0 + 1 + k = k + 1 from by omega, show i = l.length from by omega]
  | n + 1, i, hi => by
    have hx := hb (l[i]'(by omega)) (List.getElem_mem (by omega))
    have hs := nm_small (l := l.take i) (fun x hx => hb x (List.mem_of_mem_take hx)) (by rw [List.length_take]; omega)
    have ih := ts_loop l0 e l hb h8 k n (i + 1) (by omega)
    rw [show n + 1 + 1 + k = (n + 1 + k) + 1 from by omega, key_TakeStream.l0, if_pos (by omega), if_pos (by omega), if_pos (by omega), rd_at l i (by omega), or_i64 _ (nm (l.take i) * 256) _ (l[i]'(by omega)) (by unfold wrap64; omega) (by unfold wrap64; omega), or64 _ _ (by omega) (by omega) (by omega) (by omega),
      show wrap64 ((i : Int) + 1) = ((i + 1 : Nat) : Int) from by unfold wrap64; omega, ← nm_take_succ l i (by omega)]
    exact ih
theorem take_stream (l : List Int) (hb : Bytes8 l) (hl : l.length ≤ 40) (k : Nat) (hk : 100 ≤ k) : key_TakeStream.f k l = some (takeK l) := by
  unfold key_TakeStream.f
  have e8 : wrap64 ((l.length : Int) - 8) = (l.length : Int) - 8 := by unfold wrap64; omega
  have e9 : wrap64 ((l.length : Int) - 8 - 1) = (l.length : Int) - 9 := by unfold wrap64; omega
  have e7 : wrap64 ((l.length : Int) - 9 + 1) = (l.length : Int) - 8 := by unfold wrap64; omega
  rw [e8, e9, e7]
  clear e8 e9 e7
  by_cases c0 : l.length < 9
  · rw [if_pos (by omega), takeK, if_neg (fun h => absurd h.1 (by omega))]; rfl
  · have hd : (l.drop (l.length - 8)).length = 8 := by rw [List.length_drop]; omega
    have hy : Bytes8 (l.drop (l.length - 8)) := fun x hx => hb x (List.mem_of_mem_drop hx)
    have ht : Bytes8 (l.take (l.length - 9)) := fun x hx => hb x (List.mem_of_mem_take hx)
    have hu := nm_u64 hy (by omega)
    have hsplit : l = l.take (l.length - 9) ++ (rd l ((l.length : Int) - 9) :: l.drop (l.length - 8)) := by
      have h1 := rd_at l (l.length - 9) (by omega)
      rw [show ((l.length - 9 : Nat) : Int) = (l.length : Int) - 9 from by omega] at h1
      have h2 := List.drop_eq_getElem_cons (l := l) (i := l.length - 9) (by omega)
      rw [show l.length - 9 + 1 = l.length - 8 from by omega] at h2
      rw [h1, ← h2, List.take_append_drop]
    rw [if_neg (by omega), if_pos (by omega), if_pos (by omega), Option.bind_some, show ((l.length : Int) - 8).toNat = l.length - 8 from by omega]
    obtain ⟨k, rfl⟩ : ∃ m, k = 8 + 1 + m := ⟨k - 9, by omega⟩
    have hloop := ts_loop l ((l.length : Int) - 9) (l.drop (l.length - 8)) hy (by omega) k 8 0 (by omega)
    have h00 : wrap64 (nm ((l.drop (l.length - 8)).take 0)) = 0 := by rw [List.take_zero, show nm [] = 0 from rfl]; unfold wrap64; omega
    rw [h00] at hloop
    rw [show ((0 : Nat) : Int) = 0 from rfl] at hloop
    rw [hloop, key_TakeStream.l0, if_neg (by omega), if_pos (by omega), if_pos (by omega), Option.bind_some, show ((l.length : Int) - 9).toNat = l.length - 9 from by omega]
    unfold takeK
    by_cases c1 : nameB (strOfNums (l.take (l.length - 9))) = true
    · have c10 : 10 ≤ l.length := by
        have := (name_pos c1).1.1
        rw [str_size, List.length_take] at this
        omega
      by_cases c3 : nm (l.drop (l.length - 8)) > 9223372036854775807
      · have hp : key_pair.f k (strOfNums (l.take (l.length - 9))) (wrap64 (nm (l.drop (l.length - 8)))) = some [] := by
          unfold key_pair.f
          rw [if_pos c1, if_pos (by unfold wrap64; omega)]
        rw [hp, Option.bind_some, if_pos rfl, if_neg (fun h => absurd h.2.2.2 (by omega))]; rfl
      · have hw : wrap64 (nm (l.drop (l.length - 8))) = nm (l.drop (l.length - 8)) := by unfold wrap64; omega
        have hbe : be 8 (nm (l.drop (l.length - 8))) = l.drop (l.length - 8) := by
          have := be_nm _ hy
          rw [hd] at this
          exact this
        rw [hw, pair_be _ _ k (by omega) c1 (by omega), Option.bind_some, hbe, str_back ht, if_neg (by simp)]
        unfold bytes_Equal.f
        rw [Option.bind_some]
        by_cases c2 : rd l ((l.length : Int) - 9) = 0
        · rw [c2] at hsplit
          have he : l.take (l.length - 9) ++ [0] ++ l.drop (l.length - 8) = l := by
            rw [List.append_assoc]; exact hsplit.symm
          rw [he, if_pos (beq_self_eq_true _), if_pos ⟨c10, c1, c2, by omega⟩]
        · rw [if_neg, if_neg (fun h => c2 h.2.2.1)]
          · rfl
          · intro hq
            have hq := beq_iff_eq.1 hq
            rw [str_u8, str_u8] at hq
            have hz : Bytes8 (l.take (l.length - 9) ++ [0] ++ l.drop (l.length - 8)) := fun x hx => by
              rcases List.mem_append.1 hx with h | h
              · rcases List.mem_append.1 h with h | h
                · exact ht x h
                · rw [List.mem_singleton.1 h]; omega
              · exact hy x h
            have h3 := u8_inj hz hb hq
            have h4 : l.take (l.length - 9) ++ (0 :: l.drop (l.length - 8)) = l.take (l.length - 9) ++ (rd l ((l.length : Int) - 9) :: l.drop (l.length - 8)) := by
              rw [← hsplit, ← h3]
              simp only [List.append_assoc, List.singleton_append]
              rw [List.append_assoc] at h3
              have h5 : List.take (l.length - 9) l ++ 0 :: List.drop (l.length - 8) l = l := h3
              simp only [h5]
            have h5 := List.append_cancel_left h4
            exact c2 (List.cons.inj h5).1.symm
    · have hp : key_pair.f k (strOfNums (l.take (l.length - 9))) (wrap64 (nm (l.drop (l.length - 8)))) = some [] := by
        unfold key_pair.f
        rw [if_neg c1]
      rw [hp, Option.bind_some, if_pos rfl, if_neg (fun h => c1 h.2.1)]; rfl
end KeyStream

open Go.Proofs.Ytfgeffmlfbeodaa.Crc Go.Proofs.Ytfgeffmlfbeodaa.Names
theorem begun_true (k : Nat) (hk : 400 ≤ k) : pandectlaw6_begun.f k = some true :=
  at_rounds (g := pandectlaw6_begun.f) pandectlaw6_begun.mono hk (by decide +kernel)
theorem letters (c : Int) (a : ByteArray) (h : nameB a = true) (ha : a.size ≤ 16) : key_letter.f c a = some ([c] ++ bytesOf a) := by
  unfold key_letter.f key_MayName.f
  rw [Option.bind_some, Option.bind_some, if_pos h, if_pos (by rw [List.length_singleton]; omega)]
theorem bytesOf_bytes' (s : ByteArray) : Bytes8 (bytesOf s) := fun x hx => by
  simp only [bytesOf, List.mem_map] at hx
  obtain ⟨c, _, rfl⟩ := hx
  have := c.toNat_lt
  exact ⟨by omega, by omega⟩
theorem str_bytes (s : ByteArray) : strOfNums (bytesOf s) = s := by
  have h1 : (strOfNums (bytesOf s)).toList = s.toList := by rw [str_u8, u8_bytesOf]
  rw [toList_data, toList_data] at h1
  have h2 := Array.toList_inj.1 h1
  cases hh : strOfNums (bytesOf s)
  cases s
  rw [hh] at h2
  simp only at h2
  rw [h2]
theorem take_of (a : ByteArray) (n : Int) (h : nameB a = true) (hn : 0 ≤ n) (h1 : n ≤ 9223372036854775807) : takeK (bytesOf a ++ [0] ++ be 8 n) = (a, n, true) := by
  have hl := bytesOf_length a
  have hbl := be_length 8 n
  have hlen : (bytesOf a ++ [0] ++ be 8 n).length = a.size + 9 := by simp only [List.length_append, List.length_singleton]; omega
  have hp := (name_pos h).1
  have et : (bytesOf a ++ [0] ++ be 8 n).take (a.size + 9 - 9) = bytesOf a := by
    rw [show a.size + 9 - 9 = (bytesOf a).length from by omega, List.append_assoc, List.take_left']
    rfl
  have ed : (bytesOf a ++ [0] ++ be 8 n).drop (a.size + 9 - 8) = be 8 n := by
    rw [show a.size + 9 - 8 = (bytesOf a ++ [0]).length from by rw [List.length_append, List.length_singleton]; omega, List.drop_left']
    rfl
  have er : rd (bytesOf a ++ [0] ++ be 8 n) (((a.size + 9 : Nat) : Int) - 9) = 0 := by
    rw [show ((a.size + 9 : Nat) : Int) - 9 = (a.size : Int) from by omega, rd_at _ a.size (by omega), List.getElem_append_left (by rw [List.length_append, List.length_singleton]; omega), List.getElem_append_right (by omega)]
    simp [hl]
  have en : nm (be 8 n) = n := nm_be 8 n hn (by have : (256 : Int) ^ 8 = 18446744073709551616 := by decide
                                                omega)
  unfold takeK
  rw [hlen, et, ed, er, en, str_bytes, if_pos ⟨by omega, h, rfl, h1⟩]
theorem str_cons (c : Int) (a : ByteArray) : (strOfNums ([c] ++ bytesOf a)).toList = UInt8.ofNat c.toNat :: a.toList := by
  rw [str_u8, u8_append, u8_bytesOf]; rfl
theorem beq2 {x y p q : List UInt8} (h1 : x = p) (h2 : y = q) : (x == y) = (p == q) := by rw [h1, h2]
theorem walk (a b : ByteArray) (w : World) (wa : a.size ≤ 140737488351232) (wb : b.size ≤ 140737488351232) :
    Calls Try.prog 14 #[.string a, .string b] w fun e w' => e = .returned (.bool true) ∧ Below w.heap.size w w' := by
  have key : ∀ k, k = 400 + a.size + b.size → Calls Try.prog 14 #[.string a, .string b] w fun e w' => e = .returned (.bool true) ∧ Below w.heap.size w w' := by
    intro k hk
    have h0 := begun_true k (by omega)
    have h1 := ref_may a wa k (by omega)
    have h2 := ref_may b wb k (by omega)
    cases ca : nameB a with
    | false => rw [ca] at h1; exact way_a k a b w h0 h1
    | true =>
      rw [ca] at h1
      cases cb : nameB b with
      | false => rw [cb] at h2; exact way_b k a b w h0 h1 h2
      | true =>
        rw [cb] at h2
        have pa := (name_pos ca).1
        have pb := (name_pos cb).1
        have hd : ∀ (s : ByteArray), nameB s = true → s.size ≤ 16 → key_Head.f s = some ([104] ++ bytesOf s) ∧ key_ID.f s = some ([105] ++ bytesOf s) ∧ key_Snap.f s = some ([115] ++ bytesOf s) ∧ key_Point.f s = some ([112] ++ bytesOf s) := fun s hs hl => by
          unfold key_Head.f key_ID.f key_Snap.f key_Point.f
          rw [letters 104 s hs hl, letters 105 s hs hl, letters 115 s hs hl, letters 112 s hs hl]
          exact ⟨rfl, rfl, rfl, rfl⟩
        have da := hd a ca pa.2
        have db := hd b cb pb.2
        have bz : ∀ (s : ByteArray) (n : Int), Bytes8 (bytesOf s ++ [0] ++ be 8 n) := fun s n x hx => by
          rcases List.mem_append.1 hx with h | h
          · rcases List.mem_append.1 h with h | h
            · exact bytesOf_bytes' s x h
            · rw [List.mem_singleton.1 h]; omega
          · exact be_bytes 8 n x h
        have bl : ∀ (s : ByteArray) (n : Int), s.size ≤ 16 → (bytesOf s ++ [0] ++ be 8 n).length ≤ 40 := fun s n hs => by
          simp only [List.length_append, List.length_singleton, bytesOf_length, be_length]; omega
        have hS : key_Stream.f k a 7 = some (bytesOf a ++ [0] ++ be 8 7) := by
          unfold key_Stream.f; rw [pair_be a 7 k (by omega) ca (by omega)]; rfl
        have hT : key_Type.f k b 9 = some (bytesOf b ++ [0] ++ be 8 9) := by
          unfold key_Type.f; rw [pair_be b 9 k (by omega) cb (by omega)]; rfl
        have tS : key_TakeStream.f k (bytesOf a ++ [0] ++ be 8 7) = some (a, 7, true) := by
          rw [take_stream _ (bz a 7) (bl a 7 pa.2) k (by omega), take_of a 7 ca (by omega) (by omega)]
        have tT : key_TakeType.f k (bytesOf b ++ [0] ++ be 8 9) = some (b, 9, true) := by
          unfold key_TakeType.f
          rw [take_stream _ (bz b 9) (bl b 9 pb.2) k (by omega), take_of b 9 cb (by omega) (by omega)]
          rfl
        refine main_ k a b _ _ _ _ _ _ _ _ _ _ _ _ w h0 h1 h2 da.1 da.2.1 da.2.2.1 da.2.2.2 db.1 db.2.1 db.2.2.1 db.2.2.2 hS tS hT tT rfl rfl pa.2 ?_ ?_
        · intro i j hi hi4 hj hj4
          obtain ⟨i, rfl⟩ := Int.eq_ofNat_of_zero_le hi
          obtain ⟨j, rfl⟩ := Int.eq_ofNat_of_zero_le hj
          have hi' : i = 0 ∨ i = 1 ∨ i = 2 ∨ i = 3 := by omega
          have hj' : j = 0 ∨ j = 1 ∨ j = 2 ∨ j = 3 := by omega
          rcases hi' with rfl | rfl | rfl | rfl <;> rcases hj' with rfl | rfl | rfl | rfl
          all_goals
            refine Eq.trans (beq2 (str_cons _ a) (str_cons _ b)) ?_
            rw [List.cons_beq_cons]
            rfl
        · intro i hi hi4
          obtain ⟨i, rfl⟩ := Int.eq_ofNat_of_zero_le hi
          have hi' : i = 0 ∨ i = 1 ∨ i = 2 ∨ i = 3 := by omega
          have z : ∀ c : Int, (strOfNums ([c] ++ bytesOf a)).size = a.size + 1 := fun c => by
            rw [str_size, List.length_append, List.length_singleton, bytesOf_length]; omega
          rcases hi' with rfl | rfl | rfl | rfl
          · exact z _
          · exact z _
          · exact z _
          · exact z _
  exact key _ rfl

end Go.Proofs.Ytfgeffmlfbeodaa.Pure
