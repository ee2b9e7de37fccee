/- RootBack: a root comes back, and eighty-eight bytes are one, or none. No condition. -/
import Derived.Test.YtffdonpkmnngpaaWalkRootBack
import Derived.Test.YtffdonpkmnngpaaStru
import Derived.Test.YtffdonpkmnngpaaCrc
namespace Go.Proofs.Ytffdonpkmnngpaa.Pure
open Go.RowKit Go.Proofs.Ytffdonpkmnngpaa.PRootAll Go.Proofs.YtffdonpkmnngpaaW.PrintWords Go.Proofs.YtffdonpkmnngpaaW.PrintLast
set_option linter.unusedVariables false
section Be
open Go.Proofs.Ytffdonpkmnngpaa.Crc
/-- A number in so many bytes, the highest first. -/
def be : Nat → Int → List Int
  | 0, _ => []
  | n + 1, v => (v / 256 ^ n) % 256 :: be n v
def nmF (a : Int) (l : List Int) : Int := l.foldl (fun a c => a * 256 + c) a
def nm (l : List Int) : Int := nmF 0 l
theorem be_length (n : Nat) (v : Int) : (be n v).length = n := by
  induction n with
  | zero => rfl
  | succ n ih => simp [be, ih]
theorem be_bytes (n : Nat) (v : Int) : Bytes8 (be n v) := by
  induction n with
  | zero => intro x hx; simp [be] at hx
  | succ n ih =>
    intro x hx
    rcases List.mem_cons.1 hx with rfl | h
    · exact ⟨Int.emod_nonneg _ (by decide), Int.emod_lt_of_pos _ (by decide)⟩
    · exact ih x h
theorem nat_mod_split (v m : Nat) : v % (m * 256) = (v / m % 256) * m + v % m := by
  rw [Nat.mod_mul, Nat.mul_comm m, Nat.add_comm]
theorem pw (n : Nat) : (256 : Int) ^ n = ((256 ^ n : Nat) : Int) := by rw [Int.natCast_pow]; rfl
theorem pw_pos (n : Nat) : (0 : Int) < 256 ^ n := Int.pow_pos (by decide)
theorem nmF_be (n : Nat) (v : Nat) : ∀ a : Int, nmF a (be n (v : Int)) = a * 256 ^ n + ((v % 256 ^ n : Nat) : Int) := by
  induction n with
  | zero => intro a; simp [be, nmF, Nat.mod_one]
  | succ n ih =>
    intro a
    have e : nmF a (be (n + 1) (v : Int)) = nmF (a * 256 + ((v : Int) / 256 ^ n) % 256) (be n (v : Int)) := rfl
    rw [e, ih]
    have h1 : ((v : Int) / 256 ^ n) % 256 = ((v / 256 ^ n % 256 : Nat) : Int) := by rw [pw]; rfl
    rw [h1, Nat.pow_succ, nat_mod_split]
    have h2 : (256 : Int) ^ (n + 1) = 256 ^ n * 256 := Int.pow_succ ..
    rw [h2, Int.natCast_add, Int.natCast_mul, ← pw, Int.add_mul, Int.mul_assoc, Int.mul_comm (256 : Int) (256 ^ n), Int.add_assoc]
theorem nm_be (n : Nat) (v : Int) (h0 : 0 ≤ v) (h1 : v < 256 ^ n) : nm (be n v) = v := by
  obtain ⟨m, rfl⟩ := Int.eq_ofNat_of_zero_le h0
  unfold nm
  rw [nmF_be, Int.zero_mul, Int.zero_add, Nat.mod_eq_of_lt]
  have : ((m : Nat) : Int) < ((256 ^ n : Nat) : Int) := by rw [← pw]; exact h1
  exact Int.ofNat_lt.1 this
theorem nmF_append (a : Int) (l r : List Int) : nmF a (l ++ r) = nmF (nmF a l) r := by simp [nmF]
theorem nmF_bound (l : List Int) (hl : Bytes8 l) : ∀ a : Int, a * 256 ^ l.length ≤ nmF a l ∧ nmF a l < (a + 1) * 256 ^ l.length := by
  induction l with
  | nil => intro a; simp [nmF]; omega
  | cons x l ih =>
    intro a
    have hx := hl x (by simp)
    have := ih (fun y hy => hl y (List.mem_cons_of_mem _ hy)) (a * 256 + x)
    have e : nmF a (x :: l) = nmF (a * 256 + x) l := rfl
    rw [e, List.length_cons]
    have hp : (0 : Int) < 256 ^ l.length := pw_pos _
    have h2 : (256 : Int) ^ (l.length + 1) = 256 * 256 ^ l.length := by rw [Int.pow_succ, Int.mul_comm]
    rw [h2, ← Int.mul_assoc, ← Int.mul_assoc]
    have h3 : a * 256 * 256 ^ l.length ≤ (a * 256 + x) * 256 ^ l.length := Int.mul_le_mul_of_nonneg_right (by omega) (Int.le_of_lt hp)
    have h4 : (a * 256 + x + 1) * 256 ^ l.length ≤ (a + 1) * 256 * 256 ^ l.length := Int.mul_le_mul_of_nonneg_right (by omega) (Int.le_of_lt hp)
    omega
theorem nm_range {l : List Int} (hl : Bytes8 l) : 0 ≤ nm l ∧ nm l < 256 ^ l.length := by
  have := nmF_bound l hl 0
  simp at this
  exact this
theorem be_nmF (l : List Int) (hl : Bytes8 l) : ∀ a : Int, 0 ≤ a → be l.length (nmF a l) = l := by
  induction l with
  | nil => intro a _; rfl
  | cons x l ih =>
    intro a ha
    have hx := hl x (by simp)
    have hl' : Bytes8 l := fun y hy => hl y (List.mem_cons_of_mem _ hy)
    have e : nmF a (x :: l) = nmF (a * 256 + x) l := rfl
    rw [e, List.length_cons, be, ih hl' _ (by omega)]
    have hb := nmF_bound l hl' (a * 256 + x)
    have hp : (0 : Int) < 256 ^ l.length := pw_pos _
    have hd : nmF (a * 256 + x) l / 256 ^ l.length = a * 256 + x := by
      apply Int.le_antisymm
      · have := Int.ediv_lt_of_lt_mul hp hb.2; omega
      · exact (Int.le_ediv_iff_mul_le hp).2 hb.1
    rw [hd]
    congr 1
    omega
theorem be_nm (l : List Int) (hl : Bytes8 l) : be l.length (nm l) = l := be_nmF l hl 0 (by omega)
theorem be_inj {n : Nat} {u v : Int} (hu : 0 ≤ u ∧ u < 256 ^ n) (hv : 0 ≤ v ∧ v < 256 ^ n) (h : be n u = be n v) : u = v := by
  rw [← nm_be n u hu.1 hu.2, h, nm_be n v hv.1 hv.2]
theorem nm_inj {l r : List Int} (hl : Bytes8 l) (hr : Bytes8 r) (hlen : l.length = r.length) (h : nm l = nm r) : l = r := by
  rw [← be_nm l hl, ← be_nm r hr, h, hlen]
end Be

section Loops
open Go.Proofs.Ytffdonpkmnngpaa.Crc
theorem shr_byte (K : IntKind) (hK : K.bits = 64) (v : Int) (n : Nat) (hn : n < 8) : shr K v (wrap64 (8 * (n : Int))) = v / 256 ^ n := by
  unfold shr
  rw [hK, show wrap64 (8 * (n : Int)) = 8 * (n : Int) from by unfold wrap64; omega, show (8 * (n : Int)).toNat = 8 * n from by omega, Nat.min_eq_left (by omega), Int.pow_mul]
  rfl
/-- A loop that puts a number's bytes, the highest first. -/
theorem put_loop {L : Nat → List Int → Int → Int → Option (List Int)} (K : IntKind) (hK : K.bits = 64)
    (hL : ∀ k b v i, L (k + 1) b v i = if i ≥ 0 then (if 0 ≤ (wrap64 (8 * i)) then (if b.length < 140737488355328 then (L k (b ++ [(shr K v (wrap64 (8 * i))) % 256]) v (wrap64 (i - 1))) else (none)) else (none)) else (some b)) (v : Int) :
    ∀ (n k : Nat) (b : List Int), n ≤ 8 → n + 1 ≤ k → b.length + n ≤ 140737488355328 → L k b v ((n : Int) - 1) = some (b ++ be n v)
  | 0, k, b, _, hk, _ => by
    obtain ⟨k, rfl⟩ : ∃ m, k = m + 1 := ⟨k - 1, by omega⟩
    rw [hL, if_neg (by omega)]; simp [be]
  | n + 1, k, b, hn, hk, hb => by
    obtain ⟨k, rfl⟩ : ∃ m, k = m + 1 := ⟨k - 1, by omega⟩
    rw [show (((n + 1 : Nat) : Int) - 1) = (n : Int) from by omega, hL, if_pos (by omega), if_pos (by unfold wrap64; omega), if_pos (by omega), shr_byte K hK v n (by omega), show wrap64 ((n : Int) - 1) = (n : Int) - 1 from by unfold wrap64; omega,
      put_loop K hK hL v n k _ (by omega) (by omega) (by simp only [List.length_append, List.length_cons, List.length_nil]; omega)]
    simp [be]
theorem or64 (x y : Int) (hx0 : 0 ≤ x) (hx1 : x < 72057594037927936) (hy0 : 0 ≤ y) (hy1 : y < 256) : Go.bits .or .u64 (x * 256) y = x * 256 + y :=
  Go.bits_join .u64 64 (by decide) (fun n h0 h1 => by rw [Go.IntKind.wrap_u64]; omega) 8 (x * 256) y (by omega) (by omega) (by omega) hy0 (by omega) (by omega)
theorem wrap_u64' (x : Int) (h0 : 0 ≤ x) (h1 : x < 18446744073709551616) : IntKind.u64.wrap x = x := by rw [Go.IntKind.wrap_u64]; omega
theorem ofInt64_congr {x y : Int} (h : x % 18446744073709551616 = y % 18446744073709551616) : BitVec.ofInt 64 x = BitVec.ofInt 64 y := by
  apply BitVec.eq_of_toNat_eq
  rw [BitVec.toNat_ofInt, BitVec.toNat_ofInt]
  show (x % (18446744073709551616 : Int)).toNat = (y % (18446744073709551616 : Int)).toNat
  rw [h]
theorem or_i64 (X X' Y Y' : Int) (hx : X % 18446744073709551616 = X' % 18446744073709551616) (hy : Y % 18446744073709551616 = Y' % 18446744073709551616) : Go.bits .or .i64 X Y = wrap64 (Go.bits .or .u64 X' Y') := by
  have e1 : Go.bits .or .i64 X Y = IntKind.i64.wrap ((BitVec.ofInt 64 X ||| BitVec.ofInt 64 Y).toNat : Int) := rfl
  have e2 : Go.bits .or .u64 X' Y' = IntKind.u64.wrap ((BitVec.ofInt 64 X' ||| BitVec.ofInt 64 Y').toNat : Int) := rfl
  have hb := (BitVec.ofInt 64 X' ||| BitVec.ofInt 64 Y').isLt
  rw [e1, e2, ofInt64_congr hx, ofInt64_congr hy, wrap_u64' _ (by omega) (by omega)]
  exact i64_w _
theorem rd_at (l : List Int) (j : Nat) (hl : j < l.length) : rd l (j : Int) = l[j] := by simp [rd, List.getD_eq_getElem?_getD, List.getElem?_eq_getElem hl]
theorem nm_take_succ (l : List Int) (i : Nat) (hi : i < l.length) : nm (l.take (i + 1)) = nm (l.take i) * 256 + l[i] := by
  rw [List.take_succ_eq_append_getElem hi]; unfold nm; rw [nmF_append]; rfl
theorem nm_small {l : List Int} (hl : Bytes8 l) (h : l.length ≤ 7) : 0 ≤ nm l ∧ nm l < 72057594037927936 := by
  have h1 := nm_range hl
  refine ⟨h1.1, Int.lt_of_lt_of_le h1.2 ?_⟩
  have : (256 : Nat) ^ l.length ≤ 256 ^ 7 := Nat.pow_le_pow_right (by decide) h
  rw [pw]
  exact Int.ofNat_le.2 this
theorem nm_u64 {l : List Int} (hl : Bytes8 l) (h : l.length ≤ 8) : 0 ≤ nm l ∧ nm l < 18446744073709551616 := by
  have h1 := nm_range hl
  refine ⟨h1.1, Int.lt_of_lt_of_le h1.2 ?_⟩
  have : (256 : Nat) ^ l.length ≤ 256 ^ 8 := Nat.pow_le_pow_right (by decide) h
  rw [pw]
  exact Int.ofNat_le.2 this
/-- A loop that reads a number, unsigned. -/
theorem num_loop {L : Nat → Int → List Int → Int → Int → Option Int}
    (hL : ∀ k a xs len i, L (k + 1) a xs len i = if i < len then (if 0 ≤ i then (if i < (xs.length : Int) then (L k (Go.bits .or .u64 (IntKind.u64.wrap (a * 256)) (IntKind.u64.wrap (rd xs i))) xs len (wrap64 (i + 1))) else (none)) else (none)) else (some a))
    (l : List Int) (hb : Bytes8 l) (h8 : l.length ≤ 8) : ∀ (n i k : Nat), i + n = l.length → n + 1 ≤ k → L k (nm (l.take i)) l (l.length : Int) (i : Int) = some (nm l)
  | 0, i, k, hi, hk => by
    obtain ⟨k, rfl⟩ : ∃ m, k = m + 1 := ⟨k - 1, by omega⟩
    rw [hL, if_neg (by omega), List.take_of_length_le (by omega)]
  | n + 1, i, k, hi, hk => by
    obtain ⟨k, rfl⟩ : ∃ m, k = m + 1 := ⟨k - 1, by omega⟩
    have hx := hb (l[i]'(by omega)) (List.getElem_mem (by omega))
    have hs := nm_small (l := l.take i) (fun x hx => hb x (List.mem_of_mem_take hx)) (by rw [List.length_take]; omega)
    rw [hL, if_pos (by omega), if_pos (by omega), if_pos (by omega), rd_at l i (by omega), wrap_u64' _ (by omega) (by omega), wrap_u64' _ (by omega) (by omega), or64 _ _ (by omega) (by omega) (by omega) (by omega),
      show wrap64 ((i : Int) + 1) = ((i + 1 : Nat) : Int) from by unfold wrap64; omega, ← nm_take_succ l i (by omega)]
    exact num_loop hL l hb h8 n (i + 1) k (by omega) (by omega)
/-- A loop that reads a number, signed. -/
theorem num_loop_i {L : Nat → Int → List Int → Int → Int → Option Int}
    (hL : ∀ k a xs len i, L (k + 1) a xs len i = if i < len then (if 0 ≤ i then (if i < (xs.length : Int) then (L k (Go.bits .or .i64 (wrap64 (a * 256)) (wrap64 (rd xs i))) xs len (wrap64 (i + 1))) else (none)) else (none)) else (some a))
    (l : List Int) (hb : Bytes8 l) (h8 : l.length ≤ 8) : ∀ (n i k : Nat), i + n = l.length → n + 1 ≤ k → L k (wrap64 (nm (l.take i))) l (l.length : Int) (i : Int) = some (wrap64 (nm l))
  | 0, i, k, hi, hk => by
    obtain ⟨k, rfl⟩ : ∃ m, k = m + 1 := ⟨k - 1, by omega⟩
    rw [hL, if_neg (by omega), List.take_of_length_le (by omega)]
  | n + 1, i, k, hi, hk => by
    obtain ⟨k, rfl⟩ : ∃ m, k = m + 1 := ⟨k - 1, by omega⟩
    have hx := hb (l[i]'(by omega)) (List.getElem_mem (by omega))
    have hs := nm_small (l := l.take i) (fun x hx => hb x (List.mem_of_mem_take hx)) (by rw [List.length_take]; omega)
    rw [hL, if_pos (by omega), if_pos (by omega), if_pos (by omega), rd_at l i (by omega), or_i64 _ (nm (l.take i) * 256) _ (l[i]'(by omega)) (by unfold wrap64; omega) (by unfold wrap64; omega), or64 _ _ (by omega) (by omega) (by omega) (by omega),
      show wrap64 ((i : Int) + 1) = ((i + 1 : Nat) : Int) from by unfold wrap64; omega, ← nm_take_succ l i (by omega)]
    exact num_loop_i hL l hb h8 n (i + 1) k (by omega) (by omega)
end Loops

section Ref
open Go.Proofs.Ytffdonpkmnngpaa.Crc
theorem be_snoc (n : Nat) : ∀ v : Int, be (n + 1) v = be n (v / 256) ++ [v % 256] := by
  induction n with
  | zero => intro v; simp [be]
  | succ n ih =>
    intro v
    have e1 : be (n + 1 + 1) v = (v / 256 ^ (n + 1)) % 256 :: be (n + 1) v := rfl
    have e2 : be (n + 1) (v / 256) = ((v / 256) / 256 ^ n) % 256 :: be n (v / 256) := rfl
    rw [e1, ih, e2, Int.ediv_ediv_of_nonneg (by decide), Int.pow_succ, Int.mul_comm]
    rfl
theorem high_loop : ∀ (n k : Nat) (v : Int) (t : List Int), 0 ≤ v → v < 18446744073709551616 → n ≤ 100 → n + 1 ≤ k → pandectref2_High.l0 k v (List.replicate n 0 ++ t) ((n : Int) - 1) = some (be n v ++ t)
  | 0, k, v, t, _, _, _, hk => by
    obtain ⟨k, rfl⟩ : ∃ m, k = m + 1 := ⟨k - 1, by omega⟩
    rw [pandectref2_High.l0, if_neg (by omega)]; simp [be]
  | n + 1, k, v, t, h0, h1, hn, hk => by
    obtain ⟨k, rfl⟩ : ∃ m, k = m + 1 := ⟨k - 1, by omega⟩
    have hs : (List.replicate (n + 1) (0 : Int) ++ t).set n (v % 256) = List.replicate n 0 ++ (v % 256 :: t) := by
      rw [List.replicate_succ', List.append_assoc, List.set_append_right _ _ (by simp)]
      simp
    have hd : Int.tdiv v 256 = v / 256 := Int.tdiv_eq_ediv_of_nonneg h0
    have hm : Int.tmod v 256 = v % 256 := Int.tmod_eq_emod_of_nonneg h0
    rw [pandectref2_High.l0, if_pos (by omega), if_pos (by omega), if_pos (by simp only [List.length_append, List.length_replicate]; omega), show (((n + 1 : Nat) : Int) - 1) = (n : Int) from by omega, Int.toNat_natCast, hd, hm, wrap_u64' _ (by omega) (by omega), show v % 256 % 256 = v % 256 from by omega, hs,
      show wrap64 ((n : Int) - 1) = (n : Int) - 1 from by unfold wrap64; omega, high_loop n k (v / 256) _ (by omega) (by omega) (by omega) (by omega), be_snoc]
    simp
/-- The document's numbers in bytes are the same. -/
theorem high_be (v : Int) (n k : Nat) (h0 : 0 ≤ v) (h1 : v < 18446744073709551616) (hn : n ≤ 100) (hk : n + 1 ≤ k) : pandectref2_High.f k v (n : Int) = some (be n v) := by
  unfold pandectref2_High.f
  have h := high_loop n k v [] h0 h1 hn hk
  rw [List.append_nil, List.append_nil] at h
  rw [if_pos (by omega), Int.toNat_natCast, if_pos (by omega), show wrap64 ((n : Int) - 1) = (n : Int) - 1 from by unfold wrap64; omega, h]
theorem refnum_loop (l : List Int) (hb : Bytes8 l) (h8 : l.length ≤ 8) : ∀ (n i k : Nat), i + n = l.length → n + 1 ≤ k → pandectref2_Num.l0 k l (nm (l.take i)) (i : Int) = some (nm l)
  | 0, i, k, hi, hk => by
    obtain ⟨k, rfl⟩ : ∃ m, k = m + 1 := ⟨k - 1, by omega⟩
    rw [pandectref2_Num.l0, if_neg (by omega), List.take_of_length_le (by omega)]
  | n + 1, i, k, hi, hk => by
    obtain ⟨k, rfl⟩ : ∃ m, k = m + 1 := ⟨k - 1, by omega⟩
    have hx := hb (l[i]'(by omega)) (List.getElem_mem (by omega))
    have hs := nm_small (l := l.take i) (fun x hx => hb x (List.mem_of_mem_take hx)) (by rw [List.length_take]; omega)
    rw [pandectref2_Num.l0, if_pos (by omega), if_pos (by omega), rd_at l i (by omega), wrap_u64' (nm (l.take i) * 256) (by omega) (by omega), wrap_u64' (l[i]'(by omega)) (by omega) (by omega), wrap_u64' _ (by omega) (by omega),
      show wrap64 ((i : Int) + 1) = ((i + 1 : Nat) : Int) from by unfold wrap64; omega, ← nm_take_succ l i (by omega)]
    exact refnum_loop l hb h8 n (i + 1) k (by omega) (by omega)
theorem num_nm (l : List Int) (hb : Bytes8 l) (h8 : l.length ≤ 8) (k : Nat) (hk : 9 ≤ k) : pandectref2_Num.f k l = some (nm l) := by
  unfold pandectref2_Num.f
  exact refnum_loop l hb h8 l.length 0 k (by omega) (by omega)
end Ref

section Root
open Go.Proofs.Ytffdonpkmnngpaa.Crc
/-- A root whose trees are rs may be. -/
def okR (rs : List (Int × Int)) : Bool := rs.all fun p => decide (0 ≤ p.1) && ((p.1 == 0) == (p.2 == 0))
/-- The bytes of a root. -/
def trB (rs : List (Int × Int)) : List Int := rs.flatMap fun p => be 8 p.1 ++ be 8 p.2
def putR (n : Int) (rs : List (Int × Int)) : List Int := if 0 ≤ n ∧ okR rs = true then be 8 n ++ trB rs else []
def In (rs : List (Int × Int)) : Prop := ∀ p ∈ rs, p.1 < 18446744073709551616 ∧ 0 ≤ p.2 ∧ p.2 < 18446744073709551616
theorem okR_cons (o c : Int) (r : List (Int × Int)) : okR ((o, c) :: r) = (decide (0 ≤ o) && ((o == 0) == (c == 0)) && okR r) := by simp [okR]
theorem gath_is : ∀ (rs : List (Int × Int)) (L : List Int), In rs → gath rs L = if okR rs = true then some (L ++ rs.flatMap fun p => [p.1, p.2]) else none
  | [], L, _ => by simp [gath, okR]
  | (o, c) :: r, L, h => by
    have h0 := h (o, c) (by simp)
    have hr : In r := fun p hp => h p (List.mem_cons_of_mem _ hp)
    unfold gath
    rw [okR_cons]
    by_cases c1 : o < 0
    · rw [if_pos c1, decide_eq_false (by omega)]; simp
    · rw [if_neg c1, decide_eq_true (by omega : 0 ≤ o), wrap_u64' o (by omega) h0.1]
      cases h1 : (o == 0) <;> cases h2 : (c == 0)
      · rw [if_neg (by decide), gath_is r _ hr]; simp
      · rw [if_pos (by decide)]; simp
      · rw [if_pos (by decide)]; simp
      · rw [if_neg (by decide), gath_is r _ hr]; simp
theorem rput_bytes (l : List Int) (i : Int) (v : Int) : ∀ (n k : Nat) (b : List Int), n ≤ 8 → b.length + n ≤ 140737488355328 → root_Put.l1 (k + n + 1) l i b v ((n : Int) - 1) = root_Put.l0 k l (wrap64 (i + 1)) (b ++ be n v)
  | 0, k, b, _, _ => by
    rw [root_Put.l1, if_neg (by omega)]; simp [be]
  | n + 1, k, b, hn, hb => by
    rw [show k + (n + 1) + 1 = (k + n + 1) + 1 by omega, show (((n + 1 : Nat) : Int) - 1) = (n : Int) from by omega, root_Put.l1, if_pos (by omega), if_pos (by unfold wrap64; omega), if_pos (by omega), shr_byte .u64 rfl v n (by omega), show wrap64 ((n : Int) - 1) = (n : Int) - 1 from by unfold wrap64; omega,
      rput_bytes l i v n k _ (by omega) (by simp only [List.length_append, List.length_cons, List.length_nil]; omega)]
    simp [be]
theorem rput_loop (l : List Int) : ∀ (m i k : Nat) (b : List Int), i + m = l.length → l.length ≤ 100 → b.length + 8 * m ≤ 100000 → root_Put.l0 (k + 10 * m + 1) l (i : Int) b = some (b ++ (l.drop i).flatMap (be 8))
  | 0, i, k, b, hi, _, _ => by
    rw [root_Put.l0, if_neg (by omega), List.drop_of_length_le (by omega)]; simp
  | m + 1, i, k, b, hi, hl, hb => by
    rw [show k + 10 * (m + 1) + 1 = (k + 10 * m + 1 + 8 + 1) + 1 by omega, root_Put.l0, if_pos (by omega), if_pos (by omega), show (7 : Int) = ((8 : Nat) : Int) - 1 from rfl, rput_bytes l i _ 8 (k + 10 * m + 1) b (by omega) (by omega),
      show wrap64 ((i : Int) + 1) = ((i + 1 : Nat) : Int) from by unfold wrap64; omega, rput_loop l m (i + 1) k _ (by omega) hl (by rw [List.length_append, be_length]; omega), rd_at l i (by omega), List.drop_eq_getElem_cons (by omega : i < l.length)]
    simp only [List.flatMap_cons, List.append_assoc]
theorem put_root (k : Nat) (hk : 200 ≤ k) (n : Int) (rs : List (Int × Int)) (hn : n < 18446744073709551616) (h5 : rs.length = 5) (h : In rs) : root_Put.f k n rs = some (putR n rs) := by
  unfold root_Put.f putR
  by_cases c1 : n < 0
  · rw [if_pos c1, if_neg (by omega)]
  · rw [if_neg c1, gath_is rs _ h, wrap_u64' n (by omega) hn]
    by_cases c2 : okR rs = true
    · rw [if_pos c2, if_pos ⟨by omega, c2⟩]
      unfold root_Put.fin
      have hl : ([n] ++ rs.flatMap fun p => [p.1, p.2]).length = 11 := by
        match rs, h5 with
        | [_, _, _, _, _], _ => rfl
      obtain ⟨k, rfl⟩ : ∃ j, k = j + 10 * 11 + 1 := ⟨k - 111, by omega⟩
      simp only
      rw [show (0 : Int) = ((0 : Nat) : Int) from rfl, rput_loop _ 11 0 k [] (by omega) (by omega) (by simp)]
      match rs, h5 with
      | [_, _, _, _, _], _ => simp [trB]
    · rw [if_neg c2, if_neg (fun e => c2 e.2)]; rfl
theorem ustep_nm (a x : Int) (h0 : 0 ≤ a) (h1 : a < 72057594037927936) (hx : 0 ≤ x ∧ x < 256) : ustep a x = a * 256 + x := by
  unfold ustep
  rw [wrap_u64' _ (by omega) (by omega), wrap_u64' _ (by omega) (by omega), or64 _ _ h0 h1 hx.1 hx.2]
theorem numu_take (l : List Int) (hb : Bytes8 l) (h8 : l.length ≤ 8) : ∀ i, i ≤ l.length → numu (l.take i) = nm (l.take i)
  | 0, _ => by simp [numu, nm, nmF]
  | i + 1, hi => by
    have hx := hb (l[i]'(by omega)) (List.getElem_mem (by omega))
    have hs := nm_small (l := l.take i) (fun x hx => hb x (List.mem_of_mem_take hx)) (by rw [List.length_take]; omega)
    rw [nm_take_succ l i (by omega), ← ustep_nm _ _ hs.1 hs.2 (by omega), ← numu_take l hb h8 i (by omega), List.take_succ_eq_append_getElem (by omega)]
    unfold numu
    rw [List.foldl_append]; rfl
theorem numu_nm (l : List Int) (hb : Bytes8 l) (h8 : l.length ≤ 8) : numu l = nm l := by
  have := numu_take l hb h8 l.length (Nat.le_refl _)
  rwa [List.take_length] at this
theorem part_bytes {l : List Int} (h : Bytes8 l) (i j : Nat) : Bytes8 ((l.drop i).take j) := fun x hx => h x (List.mem_of_mem_drop (List.mem_of_mem_take hx))
theorem part_len (l : List Int) (i : Nat) : ((l.drop i).take 8).length ≤ 8 := by rw [List.length_take]; omega
end Root

open Go Go.Proofs Go.Proofs.Ytffdonpkmnngpaa.Crc Go.Proofs.Ytffdonpkmnngpaa.Stru
theorem bytes_of {l : List Int} (h : ∀ n ∈ l, (Lit.int .u8 n).wf = true) : Bytes8 l := fun x hx => by
  have h1 := h x hx
  simp [Lit.wf, IntKind.min, IntKind.max, IntKind.signed, IntKind.bits] at h1
  omega
theorem wf_i64 {a : Int} (h : (Lit.int .i64 a).wf = true) : -9223372036854775808 ≤ a ∧ a ≤ 9223372036854775807 := by
  simp [Lit.wf, IntKind.min, IntKind.max, IntKind.signed, IntKind.bits] at h
  omega
theorem wf_u64 {a : Int} (h : (Lit.int .u64 a).wf = true) : 0 ≤ a ∧ a < 18446744073709551616 := by
  simp [Lit.wf, IntKind.min, IntKind.max, IntKind.signed, IntKind.bits] at h
  omega
/-- The root's numbers that bytes hold. -/
def rsOf (l : List Int) : List (Int × Int) := [(wrap64 (nm ((l.drop 8).take 8)), nm ((l.drop 16).take 8)), (wrap64 (nm ((l.drop 24).take 8)), nm ((l.drop 32).take 8)), (wrap64 (nm ((l.drop 40).take 8)), nm ((l.drop 48).take 8)), (wrap64 (nm ((l.drop 56).take 8)), nm ((l.drop 64).take 8)), (wrap64 (nm ((l.drop 72).take 8)), nm ((l.drop 80).take 8))]
theorem rsOf_in (l : List Int) (hb : Bytes8 l) : In (rsOf l) := by
  have h : ∀ i, 0 ≤ nm ((l.drop i).take 8) ∧ nm ((l.drop i).take 8) < 18446744073709551616 := fun i => nm_u64 (part_bytes hb i 8) (part_len l i)
  have h2 : ∀ i, wrap64 (nm ((l.drop i).take 8)) < 18446744073709551616 := fun i => by unfold wrap64; omega
  intro p hp
  simp only [rsOf, List.mem_cons, List.not_mem_nil, or_false] at hp
  rcases hp with rfl | rfl | rfl | rfl | rfl <;> exact ⟨h2 _, h _⟩
theorem numb (k : Nat) (hk : 9 ≤ k) (l : List Int) (hb : Bytes8 l) (i : Nat) : numu ((l.drop i).take 8) = nm ((l.drop i).take 8) ∧ pandectref2_Num.f k ((l.drop i).take 8) = some (nm ((l.drop i).take 8)) :=
  ⟨numu_nm _ (part_bytes hb i 8) (part_len l i), num_nm _ (part_bytes hb i 8) (part_len l i) k hk⟩
theorem take_root (k : Nat) (hk : 200 ≤ k) (gen : Int) (l : List Int) (hb : Bytes8 l) (h88 : l.length = 88) (q : Bool) (hq : ((strOfNums (putR (wrap64 (nm ((l.drop 0).take 8))) (rsOf l))).toList == (strOfNums l).toList) = q) (A : Option Addr) (c : Nat) (W : World) (hr : Kd.C (Kd.int .u8) W A l.length l) (hc : l.length ≤ c) :
    Calls Try.prog 29 #[.int .u64 gen, .slice A l.length c] W fun e w' => e = .returned (.tuple (if q = true then #[.agg #[.int .u64 gen, .int .i64 (wrap64 (nm ((l.drop 0).take 8))), .int .i64 (wrap64 (nm ((l.drop 8).take 8))), .int .u64 (nm ((l.drop 16).take 8)), .int .i64 (wrap64 (nm ((l.drop 24).take 8))), .int .u64 (nm ((l.drop 32).take 8)), .int .i64 (wrap64 (nm ((l.drop 40).take 8))), .int .u64 (nm ((l.drop 48).take 8)), .int .i64 (wrap64 (nm ((l.drop 56).take 8))), .int .u64 (nm ((l.drop 64).take 8)), .int .i64 (wrap64 (nm ((l.drop 72).take 8))), .int .u64 (nm ((l.drop 80).take 8))], .int .i64 0] else #[.agg #[.int .u64 0, .int .i64 0, .int .i64 0, .int .u64 0, .int .i64 0, .int .u64 0, .int .i64 0, .int .u64 0, .int .i64 0, .int .u64 0, .int .i64 0, .int .u64 0], .int .i64 2])) ∧ Below W.heap.size W w' :=
  take_long k A c l gen (nm ((l.drop 0).take 8)) (nm ((l.drop 8).take 8)) (nm ((l.drop 16).take 8)) (nm ((l.drop 24).take 8)) (nm ((l.drop 32).take 8)) (nm ((l.drop 40).take 8)) (nm ((l.drop 48).take 8)) (nm ((l.drop 56).take 8)) (nm ((l.drop 64).take 8)) (nm ((l.drop 72).take 8)) (nm ((l.drop 80).take 8)) (putR (wrap64 (nm ((l.drop 0).take 8))) (rsOf l)) q W hr hc h88 (numb k (by omega) l hb 0).1 (numb k (by omega) l hb 8).1 (numb k (by omega) l hb 16).1 (numb k (by omega) l hb 24).1 (numb k (by omega) l hb 32).1 (numb k (by omega) l hb 40).1 (numb k (by omega) l hb 48).1 (numb k (by omega) l hb 56).1 (numb k (by omega) l hb 64).1 (numb k (by omega) l hb 72).1 (numb k (by omega) l hb 80).1 (put_root k hk _ _ (by unfold wrap64; omega) rfl (rsOf_in l hb)) (by unfold bytes_Equal.f; rw [hq])
theorem part_be : ∀ (xs : List Int) (j : Nat) (x : Int), xs[j]? = some x → ((xs.flatMap (be 8)).drop (8 * j)).take 8 = be 8 x
  | [], j, x, h => by simp at h
  | y :: r, 0, x, h => by
    obtain rfl : y = x := by simpa using h
    rw [List.flatMap_cons, Nat.mul_zero, List.drop_zero, List.take_left' (be_length 8 _)]
  | y :: r, j + 1, x, h => by
    rw [List.flatMap_cons, show 8 * (j + 1) = 8 + 8 * j by omega, ← List.drop_drop, List.drop_left' (be_length 8 _)]
    exact part_be r j x (by simpa using h)
theorem flat_len : ∀ (xs : List Int), (xs.flatMap (be 8)).length = 8 * xs.length
  | [] => rfl
  | y :: r => by rw [List.flatMap_cons, List.length_append, be_length, flat_len r, List.length_cons]; omega
theorem flat_bytes (xs : List Int) : Bytes8 (xs.flatMap (be 8)) := fun x hx => by
  obtain ⟨y, _, hy⟩ := List.mem_flatMap.1 hx
  exact be_bytes 8 y x hy
theorem nm8 (v : Int) (h0 : 0 ≤ v) (h1 : v < 18446744073709551616) : nm (be 8 v) = v := nm_be 8 v h0 (by exact h1)
theorem wr (v : Int) (h0 : 0 ≤ v) (h1 : v < 9223372036854775808) : wrap64 v = v := by unfold wrap64; omega
theorem back_len (n : Int) (rs : List (Int × Int)) (hm : 0 ≤ n ∧ okR rs = true) (h5 : rs.length = 5) : (putR n rs).length = 88 := by
  unfold putR
  rw [if_pos hm]
  match rs, h5 with
  | [_, _, _, _, _], _ => simp [trB, be_length]
theorem back_take (a0 a1 o0 c0 o1 c1 o2 c2 o3 c3 o4 c4 : Int) (hn : 0 ≤ a1 ∧ a1 < 9223372036854775808) (ho0 : o0 < 9223372036854775808) (hc0 : 0 ≤ c0 ∧ c0 < 18446744073709551616) (ho1 : o1 < 9223372036854775808) (hc1 : 0 ≤ c1 ∧ c1 < 18446744073709551616) (ho2 : o2 < 9223372036854775808) (hc2 : 0 ≤ c2 ∧ c2 < 18446744073709551616) (ho3 : o3 < 9223372036854775808) (hc3 : 0 ≤ c3 ∧ c3 < 18446744073709551616) (ho4 : o4 < 9223372036854775808) (hc4 : 0 ≤ c4 ∧ c4 < 18446744073709551616) (hok : okR [(o0, c0), (o1, c1), (o2, c2), (o3, c3), (o4, c4)] = true) (A : Option Addr) (c : Nat) (W : World) (hr : Kd.C (Kd.int .u8) W A (putR a1 [(o0, c0), (o1, c1), (o2, c2), (o3, c3), (o4, c4)]).length (putR a1 [(o0, c0), (o1, c1), (o2, c2), (o3, c3), (o4, c4)])) (hc : (putR a1 [(o0, c0), (o1, c1), (o2, c2), (o3, c3), (o4, c4)]).length ≤ c) :
    Calls Try.prog 29 #[.int .u64 a0, .slice A (putR a1 [(o0, c0), (o1, c1), (o2, c2), (o3, c3), (o4, c4)]).length c] W fun e w' => e = .returned (.tuple #[.agg #[.int .u64 a0, .int .i64 a1, .int .i64 o0, .int .u64 c0, .int .i64 o1, .int .u64 c1, .int .i64 o2, .int .u64 c2, .int .i64 o3, .int .u64 c3, .int .i64 o4, .int .u64 c4], .int .i64 0]) ∧ Below W.heap.size W w' := by
  have el : putR a1 [(o0, c0), (o1, c1), (o2, c2), (o3, c3), (o4, c4)] = ([a1, o0, c0, o1, c1, o2, c2, o3, c3, o4, c4] : List Int).flatMap (be 8) := by
    unfold putR
    rw [if_pos ⟨hn.1, hok⟩]
    simp [trB]
  have hlen : (putR a1 [(o0, c0), (o1, c1), (o2, c2), (o3, c3), (o4, c4)]).length = 88 := by rw [el, flat_len]; rfl
  have hb : Bytes8 (putR a1 [(o0, c0), (o1, c1), (o2, c2), (o3, c3), (o4, c4)]) := by rw [el]; exact flat_bytes _
  obtain ⟨l, hl⟩ : ∃ l, putR a1 [(o0, c0), (o1, c1), (o2, c2), (o3, c3), (o4, c4)] = l := ⟨_, rfl⟩
  rw [hl] at el hlen hb hr hc ⊢
  have p := fun (j : Nat) (x : Int) (h : ([a1, o0, c0, o1, c1, o2, c2, o3, c3, o4, c4] : List Int)[j]? = some x) => part_be _ j x h
  rw [← el] at p
  have g0 : 0 ≤ o0 ∧ 0 ≤ o1 ∧ 0 ≤ o2 ∧ 0 ≤ o3 ∧ 0 ≤ o4 := by
    have h := List.all_eq_true.1 hok
    simp only [List.mem_cons, List.not_mem_nil, or_false, forall_eq_or_imp, forall_eq, Bool.and_eq_true, decide_eq_true_eq] at h
    exact ⟨h.1.1, h.2.1.1, h.2.2.1.1, h.2.2.2.1.1, h.2.2.2.2.1⟩
  obtain ⟨k0, k1, k2, k3, k4⟩ := g0
  have e0 : nm ((l.drop 0).take 8) = a1 := by rw [show 0 = 8 * 0 from rfl, p 0 a1 rfl]; exact nm8 a1 (by omega) (by omega)
  have e1 : nm ((l.drop 8).take 8) = o0 := by rw [show 8 = 8 * 1 from rfl, p 1 o0 rfl]; exact nm8 o0 (by omega) (by omega)
  have e2 : nm ((l.drop 16).take 8) = c0 := by rw [show 16 = 8 * 2 from rfl, p 2 c0 rfl]; exact nm8 c0 (by omega) (by omega)
  have e3 : nm ((l.drop 24).take 8) = o1 := by rw [show 24 = 8 * 3 from rfl, p 3 o1 rfl]; exact nm8 o1 (by omega) (by omega)
  have e4 : nm ((l.drop 32).take 8) = c1 := by rw [show 32 = 8 * 4 from rfl, p 4 c1 rfl]; exact nm8 c1 (by omega) (by omega)
  have e5 : nm ((l.drop 40).take 8) = o2 := by rw [show 40 = 8 * 5 from rfl, p 5 o2 rfl]; exact nm8 o2 (by omega) (by omega)
  have e6 : nm ((l.drop 48).take 8) = c2 := by rw [show 48 = 8 * 6 from rfl, p 6 c2 rfl]; exact nm8 c2 (by omega) (by omega)
  have e7 : nm ((l.drop 56).take 8) = o3 := by rw [show 56 = 8 * 7 from rfl, p 7 o3 rfl]; exact nm8 o3 (by omega) (by omega)
  have e8 : nm ((l.drop 64).take 8) = c3 := by rw [show 64 = 8 * 8 from rfl, p 8 c3 rfl]; exact nm8 c3 (by omega) (by omega)
  have e9 : nm ((l.drop 72).take 8) = o4 := by rw [show 72 = 8 * 9 from rfl, p 9 o4 rfl]; exact nm8 o4 (by omega) (by omega)
  have e10 : nm ((l.drop 80).take 8) = c4 := by rw [show 80 = 8 * 10 from rfl, p 10 c4 rfl]; exact nm8 c4 (by omega) (by omega)
  have f0 : wrap64 o0 = o0 := wr o0 k0 ho0
  have f1 : wrap64 o1 = o1 := wr o1 k1 ho1
  have f2 : wrap64 o2 = o2 := wr o2 k2 ho2
  have f3 : wrap64 o3 = o3 := wr o3 k3 ho3
  have f4 : wrap64 o4 = o4 := wr o4 k4 ho4
  have er : rsOf l = [(o0, c0), (o1, c1), (o2, c2), (o3, c3), (o4, c4)] := by
    unfold rsOf
    rw [e1, e2, e3, e4, e5, e6, e7, e8, e9, e10, f0, f1, f2, f3, f4]
  have ht := take_root 400 (by omega) a0 l hb hlen true (by rw [er, e0, wr a1 hn.1 hn.2, hl]; exact beq_self_eq_true _) A c W hr hc
  rw [e0, e1, e2, e3, e4, e5, e6, e7, e8, e9, e10, f0, f1, f2, f3, f4, wr a1 hn.1 hn.2] at ht
  exact ht
theorem walk (a0 a1 o0 c0 o1 c1 o2 c2 o3 c3 o4 c4 : Int) (bl : List Int) (w : World) (wa0 : (Lit.int .u64 a0).wf = true) (wa1 : (Lit.int .i64 a1).wf = true) (wo0 : (Lit.int .i64 o0).wf = true) (wc0 : (Lit.int .u64 c0).wf = true) (wo1 : (Lit.int .i64 o1).wf = true) (wc1 : (Lit.int .u64 c1).wf = true) (wo2 : (Lit.int .i64 o2).wf = true) (wc2 : (Lit.int .u64 c2).wf = true) (wo3 : (Lit.int .i64 o3).wf = true) (wc3 : (Lit.int .u64 c3).wf = true) (wo4 : (Lit.int .i64 o4).wf = true) (wc4 : (Lit.int .u64 c4).wf = true) (h88 : bl.length = 88) (hwf : ∀ n ∈ bl, (Lit.int .u8 n).wf = true) :
    Calls Try.prog 11 #[.agg #[.int .u64 a0, .int .i64 a1, .int .i64 o0, .int .u64 c0, .int .i64 o1, .int .u64 c1, .int .i64 o2, .int .u64 c2, .int .i64 o3, .int .u64 c3, .int .i64 o4, .int .u64 c4], .agg (nums .u8 bl).toArray] w fun e w' => e = .returned (.bool true) ∧ Below w.heap.size w w' := by
  have hb := bytes_of hwf
  have hI : In [(o0, c0), (o1, c1), (o2, c2), (o3, c3), (o4, c4)] := by
    intro p hp
    simp only [List.mem_cons, List.not_mem_nil, or_false] at hp
    rcases hp with rfl | rfl | rfl | rfl | rfl
    · have := wf_i64 wo0; have := wf_u64 wc0; exact ⟨by omega, by omega, by omega⟩
    · have := wf_i64 wo1; have := wf_u64 wc1; exact ⟨by omega, by omega, by omega⟩
    · have := wf_i64 wo2; have := wf_u64 wc2; exact ⟨by omega, by omega, by omega⟩
    · have := wf_i64 wo3; have := wf_u64 wc3; exact ⟨by omega, by omega, by omega⟩
    · have := wf_i64 wo4; have := wf_u64 wc4; exact ⟨by omega, by omega, by omega⟩
  have hn := wf_i64 wa1
  have wo0_ := wf_i64 wo0
  have wc0_ := wf_u64 wc0
  have wo1_ := wf_i64 wo1
  have wc1_ := wf_u64 wc1
  have wo2_ := wf_i64 wo2
  have wc2_ := wf_u64 wc2
  have wo3_ := wf_i64 wo3
  have wc3_ := wf_u64 wc3
  have wo4_ := wf_i64 wo4
  have wc4_ := wf_u64 wc4
  have hp := put_root 400 (by omega) a1 [(o0, c0), (o1, c1), (o2, c2), (o3, c3), (o4, c4)] (by omega) rfl hI
  have hpy := put_root 400 (by omega) (wrap64 (nm ((bl.drop 0).take 8))) (rsOf bl) (by unfold wrap64; omega) rfl (rsOf_in bl hb)
  cases hq : ((strOfNums (putR (wrap64 (nm ((bl.drop 0).take 8))) (rsOf bl))).toList == (strOfNums bl).toList) with
  | true =>
    have htb : ∀ (A : Option Addr) (c : Nat) (W : World), Kd.C (Kd.int .u8) W A 88 bl → 88 ≤ c → Calls Try.prog 29 #[.int .u64 9, .slice A 88 c] W fun e w' => e = .returned (.tuple #[.agg #[.int .u64 9, .int .i64 (wrap64 (nm ((bl.drop 0).take 8))), .int .i64 (wrap64 (nm ((bl.drop 8).take 8))), .int .u64 (nm ((bl.drop 16).take 8)), .int .i64 (wrap64 (nm ((bl.drop 24).take 8))), .int .u64 (nm ((bl.drop 32).take 8)), .int .i64 (wrap64 (nm ((bl.drop 40).take 8))), .int .u64 (nm ((bl.drop 48).take 8)), .int .i64 (wrap64 (nm ((bl.drop 56).take 8))), .int .u64 (nm ((bl.drop 64).take 8)), .int .i64 (wrap64 (nm ((bl.drop 72).take 8))), .int .u64 (nm ((bl.drop 80).take 8))], .int .i64 0]) ∧ Below W.heap.size W w' := by
      intro A c W h1 h2
      have := take_root 400 (by omega) 9 bl hb h88 true hq A c W (by rw [h88]; exact h1) (by rw [h88]; exact h2)
      rw [h88] at this
      exact this
    by_cases hm : 0 ≤ a1 ∧ okR [(o0, c0), (o1, c1), (o2, c2), (o3, c3), (o4, c4)] = true
    · exact back_B1 400 a0 a1 o0 c0 o1 c1 o2 c2 o3 c3 o4 c4 bl (putR a1 [(o0, c0), (o1, c1), (o2, c2), (o3, c3), (o4, c4)]) w h88 hp (back_len a1 [(o0, c0), (o1, c1), (o2, c2), (o3, c3), (o4, c4)] hm rfl) (fun A c W h1 h2 => back_take a0 a1 o0 c0 o1 c1 o2 c2 o3 c3 o4 c4 ⟨hm.1, by omega⟩ (by omega) wc0_ (by omega) wc1_ (by omega) wc2_ (by omega) wc3_ (by omega) wc4_ hm.2 A c W h1 h2) (wrap64 (nm ((bl.drop 0).take 8))) (wrap64 (nm ((bl.drop 8).take 8))) (nm ((bl.drop 16).take 8)) (wrap64 (nm ((bl.drop 24).take 8))) (nm ((bl.drop 32).take 8)) (wrap64 (nm ((bl.drop 40).take 8))) (nm ((bl.drop 48).take 8)) (wrap64 (nm ((bl.drop 56).take 8))) (nm ((bl.drop 64).take 8)) (wrap64 (nm ((bl.drop 72).take 8))) (nm ((bl.drop 80).take 8)) _ hpy hq htb
    · have e : putR a1 [(o0, c0), (o1, c1), (o2, c2), (o3, c3), (o4, c4)] = [] := by unfold putR; rw [if_neg hm]
      rw [e] at hp
      exact back_A1 400 a0 a1 o0 c0 o1 c1 o2 c2 o3 c3 o4 c4 bl w h88 hp (wrap64 (nm ((bl.drop 0).take 8))) (wrap64 (nm ((bl.drop 8).take 8))) (nm ((bl.drop 16).take 8)) (wrap64 (nm ((bl.drop 24).take 8))) (nm ((bl.drop 32).take 8)) (wrap64 (nm ((bl.drop 40).take 8))) (nm ((bl.drop 48).take 8)) (wrap64 (nm ((bl.drop 56).take 8))) (nm ((bl.drop 64).take 8)) (wrap64 (nm ((bl.drop 72).take 8))) (nm ((bl.drop 80).take 8)) _ hpy hq htb
  | false =>
    have htb : ∀ (A : Option Addr) (c : Nat) (W : World), Kd.C (Kd.int .u8) W A 88 bl → 88 ≤ c → Calls Try.prog 29 #[.int .u64 9, .slice A 88 c] W fun e w' => e = .returned (.tuple #[.agg #[.int .u64 0, .int .i64 0, .int .i64 0, .int .u64 0, .int .i64 0, .int .u64 0, .int .i64 0, .int .u64 0, .int .i64 0, .int .u64 0, .int .i64 0, .int .u64 0], .int .i64 2]) ∧ Below W.heap.size W w' := by
      intro A c W h1 h2
      have := take_root 400 (by omega) 9 bl hb h88 false hq A c W (by rw [h88]; exact h1) (by rw [h88]; exact h2)
      rw [h88] at this
      exact this
    by_cases hm : 0 ≤ a1 ∧ okR [(o0, c0), (o1, c1), (o2, c2), (o3, c3), (o4, c4)] = true
    · exact back_B0 400 a0 a1 o0 c0 o1 c1 o2 c2 o3 c3 o4 c4 bl (putR a1 [(o0, c0), (o1, c1), (o2, c2), (o3, c3), (o4, c4)]) w h88 hp (back_len a1 [(o0, c0), (o1, c1), (o2, c2), (o3, c3), (o4, c4)] hm rfl) (fun A c W h1 h2 => back_take a0 a1 o0 c0 o1 c1 o2 c2 o3 c3 o4 c4 ⟨hm.1, by omega⟩ (by omega) wc0_ (by omega) wc1_ (by omega) wc2_ (by omega) wc3_ (by omega) wc4_ hm.2 A c W h1 h2) htb
    · have e : putR a1 [(o0, c0), (o1, c1), (o2, c2), (o3, c3), (o4, c4)] = [] := by unfold putR; rw [if_neg hm]
      rw [e] at hp
      exact back_A0 400 a0 a1 o0 c0 o1 c1 o2 c2 o3 c3 o4 c4 bl w h88 hp htb

end Go.Proofs.Ytffdonpkmnngpaa.Pure
