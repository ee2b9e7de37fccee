/- RootAll: which bytes are roots, and which roots bytes, is as the document says. No condition. -/
import Derived.Test.YtffdonpkmnngpaaWalkRootAll
import Derived.Test.YtffdonpkmnngpaaStru
import Derived.Test.YtffdonpkmnngpaaCrc
namespace Go.Proofs.Ytffdonpkmnngpaa.Pure
open Go.RowKit Go.Proofs.Ytffdonpkmnngpaa.PRootAll Go.Proofs.YtffdonpkmnngpaaW.PrintWords Go.Proofs.YtffdonpkmnngpaaW.PrintLast
set_option linter.unusedVariables false
section Be
open Go.Proofs.Ytffdonpkmnngpaa.Crc
/-- A number in so many bytes, the highest first. -/
def be : Nat → Int → List Int
  | 0, _ => []
  | n + 1, v => (v / 256 ^ n) % 256 :: be n v
def nmF (a : Int) (l : List Int) : Int := l.foldl (fun a c => a * 256 + c) a
def nm (l : List Int) : Int := nmF 0 l
theorem be_length (n : Nat) (v : Int) : (be n v).length = n := by
  induction n with
  | zero => rfl
  | succ n ih => simp [be, ih]
theorem be_bytes (n : Nat) (v : Int) : Bytes8 (be n v) := by
  induction n with
  | zero => intro x hx; simp [be] at hx
  | succ n ih =>
    intro x hx
    rcases List.mem_cons.1 hx with rfl | h
    · exact ⟨Int.emod_nonneg _ (by decide), Int.emod_lt_of_pos _ (by decide)⟩
    · exact ih x h
theorem nat_mod_split (v m : Nat) : v % (m * 256) = (v / m % 256) * m + v % m := by
  rw [Nat.mod_mul, Nat.mul_comm m, Nat.add_comm]
theorem pw (n : Nat) : (256 : Int) ^ n = ((256 ^ n : Nat) : Int) := by rw [Int.natCast_pow]; rfl
theorem pw_pos (n : Nat) : (0 : Int) < 256 ^ n := Int.pow_pos (by decide)
theorem nmF_be (n : Nat) (v : Nat) : ∀ a : Int, nmF a (be n (v : Int)) = a * 256 ^ n + ((v % 256 ^ n : Nat) : Int) := by
  induction n with
  | zero => intro a; simp [be, nmF, Nat.mod_one]
  | succ n ih =>
    intro a
    have e : nmF a (be (n + 1) (v : Int)) = nmF (a * 256 + ((v : Int) / 256 ^ n) % 256) (be n (v : Int)) := rfl
    rw [e, ih]
    have h1 : ((v : Int) / 256 ^ n) % 256 = ((v / 256 ^ n % 256 : Nat) : Int) := by rw [pw]; rfl
    rw [h1, Nat.pow_succ, nat_mod_split]
    have h2 : (256 : Int) ^ (n + 1) = 256 ^ n * 256 := Int.pow_succ ..
    rw [h2, Int.natCast_add, Int.natCast_mul, ← pw, Int.add_mul, Int.mul_assoc, Int.mul_comm (256 : Int) (256 ^ n), Int.add_assoc]
theorem nm_be (n : Nat) (v : Int) (h0 : 0 ≤ v) (h1 : v < 256 ^ n) : nm (be n v) = v := by
  obtain ⟨m, rfl⟩ := Int.eq_ofNat_of_zero_le h0
  unfold nm
  rw [nmF_be, Int.zero_mul, Int.zero_add, Nat.mod_eq_of_lt]
  have : ((m : Nat) : Int) < ((256 ^ n : Nat) : Int) := by rw [← pw]; exact h1
  exact Int.ofNat_lt.1 this
theorem nmF_append (a : Int) (l r : List Int) : nmF a (l ++ r) = nmF (nmF a l) r := by simp [nmF]
theorem nmF_bound (l : List Int) (hl : Bytes8 l) : ∀ a : Int, a * 256 ^ l.length ≤ nmF a l ∧ nmF a l < (a + 1) * 256 ^ l.length := by
  induction l with
  | nil => intro a; simp [nmF]; omega
  | cons x l ih =>
    intro a
    have hx := hl x (by simp)
    have := ih (fun y hy => hl y (List.mem_cons_of_mem _ hy)) (a * 256 + x)
    have e : nmF a (x :: l) = nmF (a * 256 + x) l := rfl
    rw [e, List.length_cons]
    have hp : (0 : Int) < 256 ^ l.length := pw_pos _
    have h2 : (256 : Int) ^ (l.length + 1) = 256 * 256 ^ l.length := by rw [Int.pow_succ, Int.mul_comm]
    rw [h2, ← Int.mul_assoc, ← Int.mul_assoc]
    have h3 : a * 256 * 256 ^ l.length ≤ (a * 256 + x) * 256 ^ l.length := Int.mul_le_mul_of_nonneg_right (by omega) (Int.le_of_lt hp)
    have h4 : (a * 256 + x + 1) * 256 ^ l.length ≤ (a + 1) * 256 * 256 ^ l.length := Int.mul_le_mul_of_nonneg_right (by omega) (Int.le_of_lt hp)
    omega
theorem nm_range {l : List Int} (hl : Bytes8 l) : 0 ≤ nm l ∧ nm l < 256 ^ l.length := by
  have := nmF_bound l hl 0
  simp at this
  exact this
theorem be_nmF (l : List Int) (hl : Bytes8 l) : ∀ a : Int, 0 ≤ a → be l.length (nmF a l) = l := by
  induction l with
  | nil => intro a _; rfl
  | cons x l ih =>
    intro a ha
    have hx := hl x (by simp)
    have hl' : Bytes8 l := fun y hy => hl y (List.mem_cons_of_mem _ hy)
    have e : nmF a (x :: l) = nmF (a * 256 + x) l := rfl
    rw [e, List.length_cons, be, ih hl' _ (by omega)]
    have hb := nmF_bound l hl' (a * 256 + x)
    have hp : (0 : Int) < 256 ^ l.length := pw_pos _
    have hd : nmF (a * 256 + x) l / 256 ^ l.length = a * 256 + x := by
      apply Int.le_antisymm
      · have := Int.ediv_lt_of_lt_mul hp hb.2; omega
      · exact (Int.le_ediv_iff_mul_le hp).2 hb.1
    rw [hd]
    congr 1
    omega
theorem be_nm (l : List Int) (hl : Bytes8 l) : be l.length (nm l) = l := be_nmF l hl 0 (by omega)
theorem be_inj {n : Nat} {u v : Int} (hu : 0 ≤ u ∧ u < 256 ^ n) (hv : 0 ≤ v ∧ v < 256 ^ n) (h : be n u = be n v) : u = v := by
  rw [← nm_be n u hu.1 hu.2, h, nm_be n v hv.1 hv.2]
theorem nm_inj {l r : List Int} (hl : Bytes8 l) (hr : Bytes8 r) (hlen : l.length = r.length) (h : nm l = nm r) : l = r := by
  rw [← be_nm l hl, ← be_nm r hr, h, hlen]
end Be

section Loops
open Go.Proofs.Ytffdonpkmnngpaa.Crc
theorem shr_byte (K : IntKind) (hK : K.bits = 64) (v : Int) (n : Nat) (hn : n < 8) : shr K v (wrap64 (8 * (n : Int))) = v / 256 ^ n := by
  unfold shr
  rw [hK, show wrap64 (8 * (n : Int)) = 8 * (n : Int) from by unfold wrap64; omega, show (8 * (n : Int)).toNat = 8 * n from by omega, Nat.min_eq_left (by omega), Int.pow_mul]
  rfl
/-- A loop that puts a number's bytes, the highest first. -/
theorem put_loop {L : Nat → List Int → Int → Int → Option (List Int)} (K : IntKind) (hK : K.bits = 64)
    (hL : ∀ k b v i, L (k + 1) b v i = if i ≥ 0 then (if 0 ≤ (wrap64 (8 * i)) then (if b.length < 140737488355328 then (L k (b ++ [(shr K v (wrap64 (8 * i))) % 256]) v (wrap64 (i - 1))) else (none)) else (none)) else (some b)) (v : Int) :
    ∀ (n k : Nat) (b : List Int), n ≤ 8 → n + 1 ≤ k → b.length + n ≤ 140737488355328 → L k b v ((n : Int) - 1) = some (b ++ be n v)
  | 0, k, b, _, hk, _ => by
    obtain ⟨k, rfl⟩ : ∃ m, k = m + 1 := ⟨k - 1, by omega⟩
    rw [hL, if_neg (by omega)]; simp [be]
  | n + 1, k, b, hn, hk, hb => by
    obtain ⟨k, rfl⟩ : ∃ m, k = m + 1 := ⟨k - 1, by omega⟩
    rw [show (((n + 1 : Nat) : Int) - 1) = (n : Int) from by omega, hL, if_pos (by omega), if_pos (by unfold wrap64; omega), if_pos (by omega), shr_byte K hK v n (by omega), show wrap64 ((n : Int) - 1) = (n : Int) - 1 from by unfold wrap64; omega,
      put_loop K hK hL v n k _ (by omega) (by omega) (by simp only [List.length_append, List.length_cons, List.length_nil]; omega)]
    simp [be]
theorem or64 (x y : Int) (hx0 : 0 ≤ x) (hx1 : x < 72057594037927936) (hy0 : 0 ≤ y) (hy1 : y < 256) : Go.bits .or .u64 (x * 256) y = x * 256 + y :=
  Go.bits_join .u64 64 (by decide) (fun n h0 h1 => by rw [Go.IntKind.wrap_u64]; omega) 8 (x * 256) y (by omega) (by omega) (by omega) hy0 (by omega) (by omega)
theorem wrap_u64' (x : Int) (h0 : 0 ≤ x) (h1 : x < 18446744073709551616) : IntKind.u64.wrap x = x := by rw [Go.IntKind.wrap_u64]; omega
theorem ofInt64_congr {x y : Int} (h : x % 18446744073709551616 = y % 18446744073709551616) : BitVec.ofInt 64 x = BitVec.ofInt 64 y := by
  apply BitVec.eq_of_toNat_eq
  rw [BitVec.toNat_ofInt, BitVec.toNat_ofInt]
  show (x % (18446744073709551616 : Int)).toNat = (y % (18446744073709551616 : Int)).toNat
  rw [h]
theorem or_i64 (X X' Y Y' : Int) (hx : X % 18446744073709551616 = X' % 18446744073709551616) (hy : Y % 18446744073709551616 = Y' % 18446744073709551616) : Go.bits .or .i64 X Y = wrap64 (Go.bits .or .u64 X' Y') := by
  have e1 : Go.bits .or .i64 X Y = IntKind.i64.wrap ((BitVec.ofInt 64 X ||| BitVec.ofInt 64 Y).toNat : Int) := rfl
  have e2 : Go.bits .or .u64 X' Y' = IntKind.u64.wrap ((BitVec.ofInt 64 X' ||| BitVec.ofInt 64 Y').toNat : Int) := rfl
  have hb := (BitVec.ofInt 64 X' ||| BitVec.ofInt 64 Y').isLt
  rw [e1, e2, ofInt64_congr hx, ofInt64_congr hy, wrap_u64' _ (by omega) (by omega)]
  exact i64_w _
theorem rd_at (l : List Int) (j : Nat) (hl : j < l.length) : rd l (j : Int) = l[j] := by simp [rd, List.getD_eq_getElem?_getD, List.getElem?_eq_getElem hl]
theorem nm_take_succ (l : List Int) (i : Nat) (hi : i < l.length) : nm (l.take (i + 1)) = nm (l.take i) * 256 + l[i] := by
  rw [List.take_succ_eq_append_getElem hi]; unfold nm; rw [nmF_append]; rfl
theorem nm_small {l : List Int} (hl : Bytes8 l) (h : l.length ≤ 7) : 0 ≤ nm l ∧ nm l < 72057594037927936 := by
  have h1 := nm_range hl
  refine ⟨h1.1, Int.lt_of_lt_of_le h1.2 ?_⟩
  have : (256 : Nat) ^ l.length ≤ 256 ^ 7 := Nat.pow_le_pow_right (by decide) h
  rw [pw]
  exact Int.ofNat_le.2 this
theorem nm_u64 {l : List Int} (hl : Bytes8 l) (h : l.length ≤ 8) : 0 ≤ nm l ∧ nm l < 18446744073709551616 := by
  have h1 := nm_range hl
  refine ⟨h1.1, Int.lt_of_lt_of_le h1.2 ?_⟩
  have : (256 : Nat) ^ l.length ≤ 256 ^ 8 := Nat.pow_le_pow_right (by decide) h
  rw [pw]
  exact Int.ofNat_le.2 this
/-- A loop that reads a number, unsigned. -/
theorem num_loop {L : Nat → Int → List Int → Int → Int → Option Int}
    (hL : ∀ k a xs len i, L (k + 1) a xs len i = if i < len then (if 0 ≤ i then (if i < (xs.length : Int) then (L k (Go.bits .or .u64 (IntKind.u64.wrap (a * 256)) (IntKind.u64.wrap (rd xs i))) xs len (wrap64 (i + 1))) else (none)) else (none)) else (some a))
    (l : List Int) (hb : Bytes8 l) (h8 : l.length ≤ 8) : ∀ (n i k : Nat), i + n = l.length → n + 1 ≤ k → L k (nm (l.take i)) l (l.length : Int) (i : Int) = some (nm l)
  | 0, i, k, hi, hk => by
    obtain ⟨k, rfl⟩ : ∃ m, k = m + 1 := ⟨k - 1, by omega⟩
    rw [hL, if_neg (by omega), List.take_of_length_le (by omega)]
  | n + 1, i, k, hi, hk => by
    obtain ⟨k, rfl⟩ : ∃ m, k = m + 1 := ⟨k - 1, by omega⟩
    have hx := hb (l[i]'(by omega)) (List.getElem_mem (by omega))
    have hs := nm_small (l := l.take i) (fun x hx => hb x (List.mem_of_mem_take hx)) (by rw [List.length_take]; omega)
    rw [hL, if_pos (by omega), if_pos (by omega), if_pos (by omega), rd_at l i (by omega), wrap_u64' _ (by omega) (by omega), wrap_u64' _ (by omega) (by omega), or64 _ _ (by omega) (by omega) (by omega) (by omega),
      show wrap64 ((i : Int) + 1) = ((i + 1 : Nat) : Int) from by unfold wrap64; omega, ← nm_take_succ l i (by omega)]
    exact num_loop hL l hb h8 n (i + 1) k (by omega) (by omega)
/-- A loop that reads a number, signed. -/
theorem num_loop_i {L : Nat → Int → List Int → Int → Int → Option Int}
    (hL : ∀ k a xs len i, L (k + 1) a xs len i = if i < len then (if 0 ≤ i then (if i < (xs.length : Int) then (L k (Go.bits .or .i64 (wrap64 (a * 256)) (wrap64 (rd xs i))) xs len (wrap64 (i + 1))) else (none)) else (none)) else (some a))
    (l : List Int) (hb : Bytes8 l) (h8 : l.length ≤ 8) : ∀ (n i k : Nat), i + n = l.length → n + 1 ≤ k → L k (wrap64 (nm (l.take i))) l (l.length : Int) (i : Int) = some (wrap64 (nm l))
  | 0, i, k, hi, hk => by
    obtain ⟨k, rfl⟩ : ∃ m, k = m + 1 := ⟨k - 1, by omega⟩
    rw [hL, if_neg (by omega), List.take_of_length_le (by omega)]
  | n + 1, i, k, hi, hk => by
    obtain ⟨k, rfl⟩ : ∃ m, k = m + 1 := ⟨k - 1, by omega⟩
    have hx := hb (l[i]'(by omega)) (List.getElem_mem (by omega))
    have hs := nm_small (l := l.take i) (fun x hx => hb x (List.mem_of_mem_take hx)) (by rw [List.length_take]; omega)
    rw [hL, if_pos (by omega), if_pos (by omega), if_pos (by omega), rd_at l i (by omega), or_i64 _ (nm (l.take i) * 256) _ (l[i]'(by omega)) (by unfold wrap64; omega) (by unfold wrap64; omega), or64 _ _ (by omega) (by omega) (by omega) (by omega),
      show wrap64 ((i : Int) + 1) = ((i + 1 : Nat) : Int) from by unfold wrap64; omega, ← nm_take_succ l i (by omega)]
    exact num_loop_i hL l hb h8 n (i + 1) k (by omega) (by omega)
end Loops

section Ref
open Go.Proofs.Ytffdonpkmnngpaa.Crc
theorem be_snoc (n : Nat) : ∀ v : Int, be (n + 1) v = be n (v / 256) ++ [v % 256] := by
  induction n with
  | zero => intro v; simp [be]
  | succ n ih =>
    intro v
    have e1 : be (n + 1 + 1) v = (v / 256 ^ (n + 1)) % 256 :: be (n + 1) v := rfl
    have e2 : be (n + 1) (v / 256) = ((v / 256) / 256 ^ n) % 256 :: be n (v / 256) := rfl
    rw [e1, ih, e2, Int.ediv_ediv_of_nonneg (by decide), Int.pow_succ, Int.mul_comm]
    rfl
theorem high_loop : ∀ (n k : Nat) (v : Int) (t : List Int), 0 ≤ v → v < 18446744073709551616 → n ≤ 100 → n + 1 ≤ k → pandectref2_High.l0 k v (List.replicate n 0 ++ t) ((n : Int) - 1) = some (be n v ++ t)
  | 0, k, v, t, _, _, _, hk => by
    obtain ⟨k, rfl⟩ : ∃ m, k = m + 1 := ⟨k - 1, by omega⟩
    rw [pandectref2_High.l0, if_neg (by omega)]; simp [be]
  | n + 1, k, v, t, h0, h1, hn, hk => by
    obtain ⟨k, rfl⟩ : ∃ m, k = m + 1 := ⟨k - 1, by omega⟩
    have hs : (List.replicate (n + 1) (0 : Int) ++ t).set n (v % 256) = List.replicate n 0 ++ (v % 256 :: t) := by
      rw [List.replicate_succ', List.append_assoc, List.set_append_right _ _ (by simp)]
      simp
    have hd : Int.tdiv v 256 = v / 256 := Int.tdiv_eq_ediv_of_nonneg h0
    have hm : Int.tmod v 256 = v % 256 := Int.tmod_eq_emod_of_nonneg h0
    rw [pandectref2_High.l0, if_pos (by omega), if_pos (by omega), if_pos (by simp only [List.length_append, List.length_replicate]; omega), show (((n + 1 : Nat) : Int) - 1) = (n : Int) from by omega, Int.toNat_natCast, hd, hm, wrap_u64' _ (by omega) (by omega), show v % 256 % 256 = v % 256 from by omega, hs,
      show wrap64 ((n : Int) - 1) = (n : Int) - 1 from by unfold wrap64; omega, high_loop n k (v / 256) _ (by omega) (by omega) (by omega) (by omega), be_snoc]
    simp
/-- The document's numbers in bytes are the same. -/
theorem high_be (v : Int) (n k : Nat) (h0 : 0 ≤ v) (h1 : v < 18446744073709551616) (hn : n ≤ 100) (hk : n + 1 ≤ k) : pandectref2_High.f k v (n : Int) = some (be n v) := by
  unfold pandectref2_High.f
  have h := high_loop n k v [] h0 h1 hn hk
  rw [List.append_nil, List.append_nil] at h
  rw [if_pos (by omega), Int.toNat_natCast, if_pos (by omega), show wrap64 ((n : Int) - 1) = (n : Int) - 1 from by unfold wrap64; omega, h]
theorem refnum_loop (l : List Int) (hb : Bytes8 l) (h8 : l.length ≤ 8) : ∀ (n i k : Nat), i + n = l.length → n + 1 ≤ k → pandectref2_Num.l0 k l (nm (l.take i)) (i : Int) = some (nm l)
  | 0, i, k, hi, hk => by
    obtain ⟨k, rfl⟩ : ∃ m, k = m + 1 := ⟨k - 1, by omega⟩
    rw [pandectref2_Num.l0, if_neg (by omega), List.take_of_length_le (by omega)]
  | n + 1, i, k, hi, hk => by
    obtain ⟨k, rfl⟩ : ∃ m, k = m + 1 := ⟨k - 1, by omega⟩
    have hx := hb (l[i]'(by omega)) (List.getElem_mem (by omega))
    have hs := nm_small (l := l.take i) (fun x hx => hb x (List.mem_of_mem_take hx)) (by rw [List.length_take]; omega)
    rw [pandectref2_Num.l0, if_pos (by omega), if_pos (by omega), rd_at l i (by omega), wrap_u64' (nm (l.take i) * 256) (by omega) (by omega), wrap_u64' (l[i]'(by omega)) (by omega) (by omega), wrap_u64' _ (by omega) (by omega),
      show wrap64 ((i : Int) + 1) = ((i + 1 : Nat) : Int) from by unfold wrap64; omega, ← nm_take_succ l i (by omega)]
    exact refnum_loop l hb h8 n (i + 1) k (by omega) (by omega)
theorem num_nm (l : List Int) (hb : Bytes8 l) (h8 : l.length ≤ 8) (k : Nat) (hk : 9 ≤ k) : pandectref2_Num.f k l = some (nm l) := by
  unfold pandectref2_Num.f
  exact refnum_loop l hb h8 l.length 0 k (by omega) (by omega)
end Ref

section Root
open Go.Proofs.Ytffdonpkmnngpaa.Crc
/-- A root whose trees are rs may be. -/
def okR (rs : List (Int × Int)) : Bool := rs.all fun p => decide (0 ≤ p.1) && ((p.1 == 0) == (p.2 == 0))
/-- The bytes of a root. -/
def trB (rs : List (Int × Int)) : List Int := rs.flatMap fun p => be 8 p.1 ++ be 8 p.2
def putR (n : Int) (rs : List (Int × Int)) : List Int := if 0 ≤ n ∧ okR rs = true then be 8 n ++ trB rs else []
def In (rs : List (Int × Int)) : Prop := ∀ p ∈ rs, p.1 < 18446744073709551616 ∧ 0 ≤ p.2 ∧ p.2 < 18446744073709551616
theorem okR_cons (o c : Int) (r : List (Int × Int)) : okR ((o, c) :: r) = (decide (0 ≤ o) && ((o == 0) == (c == 0)) && okR r) := by simp [okR]
theorem gath_is : ∀ (rs : List (Int × Int)) (L : List Int), In rs → gath rs L = if okR rs = true then some (L ++ rs.flatMap fun p => [p.1, p.2]) else none
  | [], L, _ => by simp [gath, okR]
  | (o, c) :: r, L, h => by
    have h0 := h (o, c) (by simp)
    have hr : In r := fun p hp => h p (List.mem_cons_of_mem _ hp)
    unfold gath
    rw [okR_cons]
    by_cases c1 : o < 0
    · rw [if_pos c1, decide_eq_false (by omega)]; simp
    · rw [if_neg c1, decide_eq_true (by omega : 0 ≤ o), wrap_u64' o (by omega) h0.1]
      cases h1 : (o == 0) <;> cases h2 : (c == 0)
      · rw [if_neg (by decide), gath_is r _ hr]; simp
      · rw [if_pos (by decide)]; simp
      · rw [if_pos (by decide)]; simp
      · rw [if_neg (by decide), gath_is r _ hr]; simp
theorem rput_bytes (l : List Int) (i : Int) (v : Int) : ∀ (n k : Nat) (b : List Int), n ≤ 8 → b.length + n ≤ 140737488355328 → root_Put.l1 (k + n + 1) l i b v ((n : Int) - 1) = root_Put.l0 k l (wrap64 (i + 1)) (b ++ be n v)
  | 0, k, b, _, _ => by
    rw [root_Put.l1, if_neg (by omega)]; simp [be]
  | n + 1, k, b, hn, hb => by
    rw [show k + (n + 1) + 1 = (k + n + 1) + 1 by omega, show (((n + 1 : Nat) : Int) - 1) = (n : Int) from by omega, root_Put.l1, if_pos (by omega), if_pos (by unfold wrap64; omega), if_pos (by omega), shr_byte .u64 rfl v n (by omega), show wrap64 ((n : Int) - 1) = (n : Int) - 1 from by unfold wrap64; omega,
      rput_bytes l i v n k _ (by omega) (by simp only [List.length_append, List.length_cons, List.length_nil]; omega)]
    simp [be]
theorem rput_loop (l : List Int) : ∀ (m i k : Nat) (b : List Int), i + m = l.length → l.length ≤ 100 → b.length + 8 * m ≤ 100000 → root_Put.l0 (k + 10 * m + 1) l (i : Int) b = some (b ++ (l.drop i).flatMap (be 8))
  | 0, i, k, b, hi, _, _ => by
    rw [root_Put.l0, if_neg (by omega), List.drop_of_length_le (by omega)]; simp
  | m + 1, i, k, b, hi, hl, hb => by
    rw [show k + 10 * (m + 1) + 1 = (k + 10 * m + 1 + 8 + 1) + 1 by omega, root_Put.l0, if_pos (by omega), if_pos (by omega), show (7 : Int) = ((8 : Nat) : Int) - 1 from rfl, rput_bytes l i _ 8 (k + 10 * m + 1) b (by omega) (by omega),
      show wrap64 ((i : Int) + 1) = ((i + 1 : Nat) : Int) from by unfold wrap64; omega, rput_loop l m (i + 1) k _ (by omega) hl (by rw [List.length_append, be_length]; omega), rd_at l i (by omega), List.drop_eq_getElem_cons (by omega : i < l.length)]
    simp only [List.flatMap_cons, List.append_assoc]
theorem put_root (k : Nat) (hk : 200 ≤ k) (n : Int) (rs : List (Int × Int)) (hn : n < 18446744073709551616) (h5 : rs.length = 5) (h : In rs) : root_Put.f k n rs = some (putR n rs) := by
  unfold root_Put.f putR
  by_cases c1 : n < 0
  · rw [if_pos c1, if_neg (by omega)]
  · rw [if_neg c1, gath_is rs _ h, wrap_u64' n (by omega) hn]
    by_cases c2 : okR rs = true
    · rw [if_pos c2, if_pos ⟨by omega, c2⟩]
      unfold root_Put.fin
      have hl : ([n] ++ rs.flatMap fun p => [p.1, p.2]).length = 11 := by
        match rs, h5 with
        | [_, _, _, _, _], _ => rfl
      obtain ⟨k, rfl⟩ : ∃ j, k = j + 10 * 11 + 1 := ⟨k - 111, by omega⟩
      simp only
      rw [show (0 : Int) = ((0 : Nat) : Int) from rfl, rput_loop _ 11 0 k [] (by omega) (by omega) (by simp)]
      match rs, h5 with
      | [_, _, _, _, _], _ => simp [trB]
    · rw [if_neg c2, if_neg (fun e => c2 e.2)]; rfl
theorem high8 (k : Nat) (hk : 9 ≤ k) (v : Int) (h0 : 0 ≤ v) (h1 : v < 18446744073709551616) : pandectref2_High.f k v 8 = some (be 8 v) := high_be v 8 k h0 h1 (by omega) (by omega)
theorem rgo_is (k : Nat) (hk : 9 ≤ k) : ∀ (rs : List (Int × Int)) (b : List Int), In rs → b.length + 16 * rs.length ≤ 900 → (pandectref6_PutRoot.go k rs b = some (b ++ trB rs) ∧ okR rs = true) ∨ (pandectref6_PutRoot.go k rs b = some [] ∧ okR rs = false)
  | [], b, _, _ => by left; simp [pandectref6_PutRoot.go, trB, okR]
  | (o, c) :: r, b, h, hb => by
    have h0 := h (o, c) (by simp)
    have hr : In r := fun p hp => h p (List.mem_cons_of_mem _ hp)
    unfold pandectref6_PutRoot.go
    rw [okR_cons]
    simp only [List.length_cons] at hb
    by_cases c1 : o < 0
    · right; rw [if_pos c1, decide_eq_false (by omega)]; simp
    · rw [if_neg c1, decide_eq_true (by omega : 0 ≤ o), wrap_u64' o (by omega) h0.1, high8 k hk o (by omega) h0.1, high8 k hk c h0.2.1 h0.2.2]
      have ih := rgo_is k hk r (b ++ be 8 o ++ be 8 c) hr (by simp only [List.length_append, be_length]; omega)
      cases h1 : (o == 0) <;> cases h2 : (c == 0)
      · rw [if_neg (by decide), Option.bind_some, Option.bind_some, if_pos (by simp only [be_length]; omega)]
        rcases ih with ⟨i1, i2⟩ | ⟨i1, i2⟩
        · left; rw [i1, i2]; simp [trB]
        · right; rw [i1, i2]; simp
      · right; rw [if_pos (by decide)]; simp
      · right; rw [if_pos (by decide)]; simp
      · rw [if_neg (by decide), Option.bind_some, Option.bind_some, if_pos (by simp only [be_length]; omega)]
        rcases ih with ⟨i1, i2⟩ | ⟨i1, i2⟩
        · left; rw [i1, i2]; simp [trB]
        · right; rw [i1, i2]; simp
theorem put_rootR (k : Nat) (hk : 9 ≤ k) (n : Int) (rs : List (Int × Int)) (hn : n < 18446744073709551616) (h5 : rs.length = 5) (h : In rs) : pandectref6_PutRoot.f k n rs = some (putR n rs) := by
  unfold pandectref6_PutRoot.f putR
  by_cases c1 : n < 0
  · rw [if_pos c1, if_neg (by omega)]
  · rw [if_neg c1, wrap_u64' n (by omega) hn, high8 k hk n (by omega) hn, Option.bind_some]
    rcases rgo_is k hk rs (be 8 n) h (by rw [be_length]; omega) with ⟨i1, i2⟩ | ⟨i1, i2⟩
    · rw [i1, if_pos ⟨by omega, i2⟩]
    · rw [i1, if_neg (fun e => by rw [i2] at e; cases e.2)]
theorem ustep_nm (a x : Int) (h0 : 0 ≤ a) (h1 : a < 72057594037927936) (hx : 0 ≤ x ∧ x < 256) : ustep a x = a * 256 + x := by
  unfold ustep
  rw [wrap_u64' _ (by omega) (by omega), wrap_u64' _ (by omega) (by omega), or64 _ _ h0 h1 hx.1 hx.2]
theorem numu_take (l : List Int) (hb : Bytes8 l) (h8 : l.length ≤ 8) : ∀ i, i ≤ l.length → numu (l.take i) = nm (l.take i)
  | 0, _ => by simp [numu, nm, nmF]
  | i + 1, hi => by
    have hx := hb (l[i]'(by omega)) (List.getElem_mem (by omega))
    have hs := nm_small (l := l.take i) (fun x hx => hb x (List.mem_of_mem_take hx)) (by rw [List.length_take]; omega)
    rw [nm_take_succ l i (by omega), ← ustep_nm _ _ hs.1 hs.2 (by omega), ← numu_take l hb h8 i (by omega), List.take_succ_eq_append_getElem (by omega)]
    unfold numu
    rw [List.foldl_append]; rfl
theorem numu_nm (l : List Int) (hb : Bytes8 l) (h8 : l.length ≤ 8) : numu l = nm l := by
  have := numu_take l hb h8 l.length (Nat.le_refl _)
  rwa [List.take_length] at this
theorem part_bytes {l : List Int} (h : Bytes8 l) (i j : Nat) : Bytes8 ((l.drop i).take j) := fun x hx => h x (List.mem_of_mem_drop (List.mem_of_mem_take hx))
theorem part_len (l : List Int) (i : Nat) : ((l.drop i).take 8).length ≤ 8 := by rw [List.length_take]; omega
end Root

open Go Go.Proofs Go.Proofs.Ytffdonpkmnngpaa.Crc Go.Proofs.Ytffdonpkmnngpaa.Stru
theorem bytes_of {l : List Int} (h : ∀ n ∈ l, (Lit.int .u8 n).wf = true) : Bytes8 l := fun x hx => by
  have h1 := h x hx
  simp [Lit.wf, IntKind.min, IntKind.max, IntKind.signed, IntKind.bits] at h1
  omega
theorem wf_i64 {a : Int} (h : (Lit.int .i64 a).wf = true) : -9223372036854775808 ≤ a ∧ a ≤ 9223372036854775807 := by
  simp [Lit.wf, IntKind.min, IntKind.max, IntKind.signed, IntKind.bits] at h
  omega
theorem wf_u64 {a : Int} (h : (Lit.int .u64 a).wf = true) : 0 ≤ a ∧ a < 18446744073709551616 := by
  simp [Lit.wf, IntKind.min, IntKind.max, IntKind.signed, IntKind.bits] at h
  omega
/-- The root's numbers that bytes hold. -/
def rsOf (l : List Int) : List (Int × Int) := [(wrap64 (nm ((l.drop 8).take 8)), nm ((l.drop 16).take 8)), (wrap64 (nm ((l.drop 24).take 8)), nm ((l.drop 32).take 8)), (wrap64 (nm ((l.drop 40).take 8)), nm ((l.drop 48).take 8)), (wrap64 (nm ((l.drop 56).take 8)), nm ((l.drop 64).take 8)), (wrap64 (nm ((l.drop 72).take 8)), nm ((l.drop 80).take 8))]
theorem rsOf_in (l : List Int) (hb : Bytes8 l) : In (rsOf l) := by
  have h : ∀ i, 0 ≤ nm ((l.drop i).take 8) ∧ nm ((l.drop i).take 8) < 18446744073709551616 := fun i => nm_u64 (part_bytes hb i 8) (part_len l i)
  have h2 : ∀ i, wrap64 (nm ((l.drop i).take 8)) < 18446744073709551616 := fun i => by unfold wrap64; omega
  intro p hp
  simp only [rsOf, List.mem_cons, List.not_mem_nil, or_false] at hp
  rcases hp with rfl | rfl | rfl | rfl | rfl <;> exact ⟨h2 _, h _⟩
theorem numb (k : Nat) (hk : 9 ≤ k) (l : List Int) (hb : Bytes8 l) (i : Nat) : numu ((l.drop i).take 8) = nm ((l.drop i).take 8) ∧ pandectref2_Num.f k ((l.drop i).take 8) = some (nm ((l.drop i).take 8)) :=
  ⟨numu_nm _ (part_bytes hb i 8) (part_len l i), num_nm _ (part_bytes hb i 8) (part_len l i) k hk⟩
theorem take_root (k : Nat) (hk : 200 ≤ k) (gen : Int) (l : List Int) (hb : Bytes8 l) (h88 : l.length = 88) (q : Bool) (hq : ((strOfNums (putR (wrap64 (nm ((l.drop 0).take 8))) (rsOf l))).toList == (strOfNums l).toList) = q) (A : Option Addr) (c : Nat) (W : World) (hr : Kd.C (Kd.int .u8) W A l.length l) (hc : l.length ≤ c) :
    Calls Try.prog 29 #[.int .u64 gen, .slice A l.length c] W fun e w' => e = .returned (.tuple (if q = true then #[.agg #[.int .u64 gen, .int .i64 (wrap64 (nm ((l.drop 0).take 8))), .int .i64 (wrap64 (nm ((l.drop 8).take 8))), .int .u64 (nm ((l.drop 16).take 8)), .int .i64 (wrap64 (nm ((l.drop 24).take 8))), .int .u64 (nm ((l.drop 32).take 8)), .int .i64 (wrap64 (nm ((l.drop 40).take 8))), .int .u64 (nm ((l.drop 48).take 8)), .int .i64 (wrap64 (nm ((l.drop 56).take 8))), .int .u64 (nm ((l.drop 64).take 8)), .int .i64 (wrap64 (nm ((l.drop 72).take 8))), .int .u64 (nm ((l.drop 80).take 8))], .int .i64 0] else #[.agg #[.int .u64 0, .int .i64 0, .int .i64 0, .int .u64 0, .int .i64 0, .int .u64 0, .int .i64 0, .int .u64 0, .int .i64 0, .int .u64 0, .int .i64 0, .int .u64 0], .int .i64 2])) ∧ Below W.heap.size W w' :=
  take_long k A c l gen (nm ((l.drop 0).take 8)) (nm ((l.drop 8).take 8)) (nm ((l.drop 16).take 8)) (nm ((l.drop 24).take 8)) (nm ((l.drop 32).take 8)) (nm ((l.drop 40).take 8)) (nm ((l.drop 48).take 8)) (nm ((l.drop 56).take 8)) (nm ((l.drop 64).take 8)) (nm ((l.drop 72).take 8)) (nm ((l.drop 80).take 8)) (putR (wrap64 (nm ((l.drop 0).take 8))) (rsOf l)) q W hr hc h88 (numb k (by omega) l hb 0).1 (numb k (by omega) l hb 8).1 (numb k (by omega) l hb 16).1 (numb k (by omega) l hb 24).1 (numb k (by omega) l hb 32).1 (numb k (by omega) l hb 40).1 (numb k (by omega) l hb 48).1 (numb k (by omega) l hb 56).1 (numb k (by omega) l hb 64).1 (numb k (by omega) l hb 72).1 (numb k (by omega) l hb 80).1 (put_root k hk _ _ (by unfold wrap64; omega) rfl (rsOf_in l hb)) (by unfold bytes_Equal.f; rw [hq])
theorem take_rootR (k : Nat) (hk : 200 ≤ k) (gen : Int) (l : List Int) (hb : Bytes8 l) (h88 : l.length = 88) (q : Bool) (hq : ((strOfNums (putR (wrap64 (nm ((l.drop 0).take 8))) (rsOf l))).toList == (strOfNums l).toList) = q) (A : Option Addr) (c : Nat) (W : World) (hr : Kd.C (Kd.int .u8) W A l.length l) (hc : l.length ≤ c) :
    Calls Try.prog 30 #[.int .u64 gen, .slice A l.length c] W fun e w' => e = .returned (.tuple (if q = true then #[.agg #[.int .u64 gen, .int .i64 (wrap64 (nm ((l.drop 0).take 8))), .int .i64 (wrap64 (nm ((l.drop 8).take 8))), .int .u64 (nm ((l.drop 16).take 8)), .int .i64 (wrap64 (nm ((l.drop 24).take 8))), .int .u64 (nm ((l.drop 32).take 8)), .int .i64 (wrap64 (nm ((l.drop 40).take 8))), .int .u64 (nm ((l.drop 48).take 8)), .int .i64 (wrap64 (nm ((l.drop 56).take 8))), .int .u64 (nm ((l.drop 64).take 8)), .int .i64 (wrap64 (nm ((l.drop 72).take 8))), .int .u64 (nm ((l.drop 80).take 8))], .int .i64 0] else #[.agg #[.int .u64 0, .int .i64 0, .int .i64 0, .int .u64 0, .int .i64 0, .int .u64 0, .int .i64 0, .int .u64 0, .int .i64 0, .int .u64 0, .int .i64 0, .int .u64 0], .int .i64 2])) ∧ Below W.heap.size W w' :=
  takeR_long k A c l gen (nm ((l.drop 0).take 8)) (nm ((l.drop 8).take 8)) (nm ((l.drop 16).take 8)) (nm ((l.drop 24).take 8)) (nm ((l.drop 32).take 8)) (nm ((l.drop 40).take 8)) (nm ((l.drop 48).take 8)) (nm ((l.drop 56).take 8)) (nm ((l.drop 64).take 8)) (nm ((l.drop 72).take 8)) (nm ((l.drop 80).take 8)) (putR (wrap64 (nm ((l.drop 0).take 8))) (rsOf l)) q W hr hc h88 (numb k (by omega) l hb 0).2 (numb k (by omega) l hb 8).2 (numb k (by omega) l hb 16).2 (numb k (by omega) l hb 24).2 (numb k (by omega) l hb 32).2 (numb k (by omega) l hb 40).2 (numb k (by omega) l hb 48).2 (numb k (by omega) l hb 56).2 (numb k (by omega) l hb 64).2 (numb k (by omega) l hb 72).2 (numb k (by omega) l hb 80).2 (put_rootR k (by omega) _ _ (by unfold wrap64; omega) rfl (rsOf_in l hb)) hq
theorem walk (a0 a1 o0 c0 o1 c1 o2 c2 o3 c3 o4 c4 : Int) (gen : Int) (ad : Option Addr) (len cap : Nat) (z : List Int) (w : World) (wa0 : (Lit.int .u64 a0).wf = true) (wa1 : (Lit.int .i64 a1).wf = true) (wo0 : (Lit.int .i64 o0).wf = true) (wc0 : (Lit.int .u64 c0).wf = true) (wo1 : (Lit.int .i64 o1).wf = true) (wc1 : (Lit.int .u64 c1).wf = true) (wo2 : (Lit.int .i64 o2).wf = true) (wc2 : (Lit.int .u64 c2).wf = true) (wo3 : (Lit.int .i64 o3).wf = true) (wc3 : (Lit.int .u64 c3).wf = true) (wo4 : (Lit.int .i64 o4).wf = true) (wc4 : (Lit.int .u64 c4).wf = true) (wg : (Lit.int .u64 gen).wf = true) (w4 : IsRow .u8 w ad len cap z) (y4 : len * 1 ≤ 140737488351232) :
    Calls Try.prog 10 #[.agg #[.int .u64 a0, .int .i64 a1, .int .i64 o0, .int .u64 c0, .int .i64 o1, .int .u64 c1, .int .i64 o2, .int .u64 c2, .int .i64 o3, .int .u64 c3, .int .i64 o4, .int .u64 c4], .int .u64 gen, .slice ad len cap] w fun e w' => e = .returned (.bool true) ∧ Below w.heap.size w w' := by
  obtain ⟨l, rfl, hr, hmx, hw, hc⟩ := ReadsInt.ofRowC w4
  have hC : Kd.C (Kd.int .u8) w ad l.length l := Kd.C_of_reads (d := (0 : Int)) (h1 := fun _ => rfl) hr
  have hb := bytes_of hw
  by_cases j1 : (l.length : Int) > 100
  · exact all_heavy a0 a1 o0 c0 o1 c1 o2 c2 o3 c3 o4 c4 gen ad cap l w hC hc j1
  have hI : In [(o0, c0), (o1, c1), (o2, c2), (o3, c3), (o4, c4)] := by
    intro p hp
    simp only [List.mem_cons, List.not_mem_nil, or_false] at hp
    rcases hp with rfl | rfl | rfl | rfl | rfl
    · have := wf_i64 wo0; have := wf_u64 wc0; exact ⟨by omega, by omega, by omega⟩
    · have := wf_i64 wo1; have := wf_u64 wc1; exact ⟨by omega, by omega, by omega⟩
    · have := wf_i64 wo2; have := wf_u64 wc2; exact ⟨by omega, by omega, by omega⟩
    · have := wf_i64 wo3; have := wf_u64 wc3; exact ⟨by omega, by omega, by omega⟩
    · have := wf_i64 wo4; have := wf_u64 wc4; exact ⟨by omega, by omega, by omega⟩
  have hn : a1 < 18446744073709551616 := by have := wf_i64 wa1; omega
  have hp := put_root 400 (by omega) a1 [(o0, c0), (o1, c1), (o2, c2), (o3, c3), (o4, c4)] hn rfl hI
  have hpr := put_rootR 400 (by omega) a1 [(o0, c0), (o1, c1), (o2, c2), (o3, c3), (o4, c4)] hn rfl hI
  by_cases h88 : l.length = 88
  · cases hq : ((strOfNums (putR (wrap64 (nm ((l.drop 0).take 8))) (rsOf l))).toList == (strOfNums l).toList) with
    | true => exact all_light 400 a0 a1 o0 c0 o1 c1 o2 c2 o3 c3 o4 c4 gen ad cap l gen (wrap64 (nm ((l.drop 0).take 8))) (wrap64 (nm ((l.drop 8).take 8))) (nm ((l.drop 16).take 8)) (wrap64 (nm ((l.drop 24).take 8))) (nm ((l.drop 32).take 8)) (wrap64 (nm ((l.drop 40).take 8))) (nm ((l.drop 48).take 8)) (wrap64 (nm ((l.drop 56).take 8))) (nm ((l.drop 64).take 8)) (wrap64 (nm ((l.drop 72).take 8))) (nm ((l.drop 80).take 8)) 0 _ w hC hc j1 (fun A c W h1 h2 => take_root 400 (by omega) gen l hb h88 true hq A c W h1 h2) (fun A c W h1 h2 => take_rootR 400 (by omega) gen l hb h88 true hq A c W h1 h2) hp hpr
    | false => exact all_light 400 a0 a1 o0 c0 o1 c1 o2 c2 o3 c3 o4 c4 gen ad cap l 0 0 0 0 0 0 0 0 0 0 0 0 2 _ w hC hc j1 (fun A c W h1 h2 => take_root 400 (by omega) gen l hb h88 false hq A c W h1 h2) (fun A c W h1 h2 => take_rootR 400 (by omega) gen l hb h88 false hq A c W h1 h2) hp hpr
  · exact all_light 400 a0 a1 o0 c0 o1 c1 o2 c2 o3 c3 o4 c4 gen ad cap l 0 0 0 0 0 0 0 0 0 0 0 0 2 _ w hC hc j1 (fun A c W h1 h2 => take_short A c l gen W h1 h2 h88) (fun A c W h1 h2 => takeR_short A c l gen W h1 h2 h88) hp hpr

end Go.Proofs.Ytffdonpkmnngpaa.Pure
