/- HeadBack: what is put of heads, ids, marks and places comes back, and what may not be is nothing. No condition. -/
import Derived.Test.YtfgeffmlfbeodaaWalkHeadBack
import Derived.Test.YtfgeffmlfbeodaaCrc
import Derived.Test.YtfgeffmlfbeodaaStru
namespace Go.Proofs.Ytfgeffmlfbeodaa.Pure
open Go.RowKit Go.Proofs.Ytfgeffmlfbeodaa.PHeadBack Go.Proofs.YtfgeffmlfbeodaaW.PrintWords Go.Proofs.YtfgeffmlfbeodaaW.PrintLast
set_option linter.unusedVariables false
section Be
open Go.Proofs.Ytfgeffmlfbeodaa.Crc
/-- A number in so many bytes, the highest first. -/
def be : Nat → Int → List Int
  | 0, _ => []
  | n + 1, v => (v / 256 ^ n) % 256 :: be n v
def nmF (a : Int) (l : List Int) : Int := l.foldl (fun a c => a * 256 + c) a
def nm (l : List Int) : Int := nmF 0 l
theorem be_length (n : Nat) (v : Int) : (be n v).length = n := by
  induction n with
  | zero => rfl
  | succ n ih => simp [be, ih]
theorem be_bytes (n : Nat) (v : Int) : Bytes8 (be n v) := by
  induction n with
  | zero => intro x hx; simp [be] at hx
  | succ n ih =>
    intro x hx
    rcases List.mem_cons.1 hx with rfl | h
    · exact ⟨Int.emod_nonneg _ (by decide), Int.emod_lt_of_pos _ (by decide)⟩
    · exact ih x h
theorem nat_mod_split (v m : Nat) : v % (m * 256) = (v / m % 256) * m + v % m := by
  rw [Nat.mod_mul, Nat.mul_comm m, Nat.add_comm]
theorem pw (n : Nat) : (256 : Int) ^ n = ((256 ^ n : Nat) : Int) := by rw [Int.natCast_pow]; rfl
theorem pw_pos (n : Nat) : (0 : Int) < 256 ^ n := Int.pow_pos (by decide)
theorem nmF_be (n : Nat) (v : Nat) : ∀ a : Int, nmF a (be n (v : Int)) = a * 256 ^ n + ((v % 256 ^ n : Nat) : Int) := by
  induction n with
  | zero => intro a; simp [be, nmF, Nat.mod_one]
  | succ n ih =>
    intro a
    have e : nmF a (be (n + 1) (v : Int)) = nmF (a * 256 + ((v : Int) / 256 ^ n) % 256) (be n (v : Int)) := rfl
    rw [e, ih]
    have h1 : ((v : Int) / 256 ^ n) % 256 = ((v / 256 ^ n % 256 : Nat) : Int) := by rw [pw]; rfl
    rw [h1, Nat.pow_succ, nat_mod_split]
    have h2 : (256 : Int) ^ (n + 1) = 256 ^ n * 256 := Int.pow_succ ..
    rw [h2, Int.natCast_add, Int.natCast_mul, ← pw, Int.add_mul, Int.mul_assoc, Int.mul_comm (256 : Int) (256 ^ n), Int.add_assoc]
theorem nm_be (n : Nat) (v : Int) (h0 : 0 ≤ v) (h1 : v < 256 ^ n) : nm (be n v) = v := by
  obtain ⟨m, rfl⟩ := Int.eq_ofNat_of_zero_le h0
  unfold nm
  rw [nmF_be, Int.zero_mul, Int.zero_add, Nat.mod_eq_of_lt]
  have : ((m : Nat) : Int) < ((256 ^ n : Nat) : Int) := by rw [← pw]; exact h1
  exact Int.ofNat_lt.1 this
theorem nmF_append (a : Int) (l r : List Int) : nmF a (l ++ r) = nmF (nmF a l) r := by simp [nmF]
theorem nmF_bound (l : List Int) (hl : Bytes8 l) : ∀ a : Int, a * 256 ^ l.length ≤ nmF a l ∧ nmF a l < (a + 1) * 256 ^ l.length := by
  induction l with
  | nil => intro a; simp [nmF]; omega
  | cons x l ih =>
    intro a
    have hx := hl x (by simp)
    have := ih (fun y hy => hl y (List.mem_cons_of_mem _ hy)) (a * 256 + x)
    have e : nmF a (x :: l) = nmF (a * 256 + x) l := rfl
    rw [e, List.length_cons]
    have hp : (0 : Int) < 256 ^ l.length := pw_pos _
    have h2 : (256 : Int) ^ (l.length + 1) = 256 * 256 ^ l.length := by rw [Int.pow_succ, Int.mul_comm]
    rw [h2, ← Int.mul_assoc, ← Int.mul_assoc]
    have h3 : a * 256 * 256 ^ l.length ≤ (a * 256 + x) * 256 ^ l.length := Int.mul_le_mul_of_nonneg_right (by omega) (Int.le_of_lt hp)
    have h4 : (a * 256 + x + 1) * 256 ^ l.length ≤ (a + 1) * 256 * 256 ^ l.length := Int.mul_le_mul_of_nonneg_right (by omega) (Int.le_of_lt hp)
    omega
theorem nm_range {l : List Int} (hl : Bytes8 l) : 0 ≤ nm l ∧ nm l < 256 ^ l.length := by
  have := nmF_bound l hl 0
  simp at this
  exact this
theorem be_nmF (l : List Int) (hl : Bytes8 l) : ∀ a : Int, 0 ≤ a → be l.length (nmF a l) = l := by
  induction l with
  | nil => intro a _; rfl
  | cons x l ih =>
    intro a ha
    have hx := hl x (by simp)
    have hl' : Bytes8 l := fun y hy => hl y (List.mem_cons_of_mem _ hy)
    have e : nmF a (x :: l) = nmF (a * 256 + x) l := rfl
    rw [e, List.length_cons, be, ih hl' _ (by omega)]
    have hb := nmF_bound l hl' (a * 256 + x)
    have hp : (0 : Int) < 256 ^ l.length := pw_pos _
    have hd : nmF (a * 256 + x) l / 256 ^ l.length = a * 256 + x := by
      apply Int.le_antisymm
      · have := Int.ediv_lt_of_lt_mul hp hb.2; omega
      · exact (Int.le_ediv_iff_mul_le hp).2 hb.1
    rw [hd]
    congr 1
    omega
theorem be_nm (l : List Int) (hl : Bytes8 l) : be l.length (nm l) = l := be_nmF l hl 0 (by omega)
theorem be_inj {n : Nat} {u v : Int} (hu : 0 ≤ u ∧ u < 256 ^ n) (hv : 0 ≤ v ∧ v < 256 ^ n) (h : be n u = be n v) : u = v := by
  rw [← nm_be n u hu.1 hu.2, h, nm_be n v hv.1 hv.2]
theorem nm_inj {l r : List Int} (hl : Bytes8 l) (hr : Bytes8 r) (hlen : l.length = r.length) (h : nm l = nm r) : l = r := by
  rw [← be_nm l hl, ← be_nm r hr, h, hlen]
end Be

section Loops
open Go.Proofs.Ytfgeffmlfbeodaa.Crc
theorem shr_byte (K : IntKind) (hK : K.bits = 64) (v : Int) (n : Nat) (hn : n < 8) : shr K v (wrap64 (8 * (n : Int))) = v / 256 ^ n := by
  unfold shr
  rw [hK, show wrap64 (8 * (n : Int)) = 8 * (n : Int) from by unfold wrap64; omega, show (8 * (n : Int)).toNat = 8 * n from by omega, Nat.min_eq_left (by omega), Int.pow_mul]
  rfl
/-- A loop that puts a number's bytes, the highest first. -/
theorem put_loop {L : Nat → List Int → Int → Int → Option (List Int)} (K : IntKind) (hK : K.bits = 64)
    (hL : ∀ k b v i, L (k + 1) b v i = if i ≥ 0 then (if 0 ≤ (wrap64 (8 * i)) then (if b.length < 140737488355328 then (L k (b ++ [(shr K v (wrap64 (8 * i))) % 256]) v (wrap64 (i - 1))) else (none)) else (none)) else (some b)) (v : Int) :
    ∀ (n k : Nat) (b : List Int), n ≤ 8 → n + 1 ≤ k → b.length + n ≤ 140737488355328 → L k b v ((n : Int) - 1) = some (b ++ be n v)
  | 0, k, b, _, hk, _ => by
    obtain ⟨k, rfl⟩ : ∃ m, k = m + 1 := ⟨k - 1, by omega⟩
    rw [hL, if_neg (by omega)]; simp [be]
  | n + 1, k, b, hn, hk, hb => by
    obtain ⟨k, rfl⟩ : ∃ m, k = m + 1 := ⟨k - 1, by omega⟩
    rw [show (((n + 1 : Nat) : Int) - 1) = (n : Int) from by omega, hL, if_pos (by omega), if_pos (by unfold wrap64; omega), if_pos (by omega), shr_byte K hK v n (by omega), show wrap64 ((n : Int) - 1) = (n : Int) - 1 from by unfold wrap64; omega,
      put_loop K hK hL v n k _ (by omega) (by omega) (by simp only [List.length_append, List.length_cons, List.length_nil]; omega)]
    simp [be]
theorem or64 (x y : Int) (hx0 : 0 ≤ x) (hx1 : x < 72057594037927936) (hy0 : 0 ≤ y) (hy1 : y < 256) : Go.bits .or .u64 (x * 256) y = x * 256 + y :=
  Go.bits_join .u64 64 (by decide) (fun n h0 h1 => by rw [Go.IntKind.wrap_u64]; omega) 8 (x * 256) y (by omega) (by omega) (by omega) hy0 (by omega) (by omega)
theorem wrap_u64' (x : Int) (h0 : 0 ≤ x) (h1 : x < 18446744073709551616) : IntKind.u64.wrap x = x := by rw [Go.IntKind.wrap_u64]; omega
theorem ofInt64_congr {x y : Int} (h : x % 18446744073709551616 = y % 18446744073709551616) : BitVec.ofInt 64 x = BitVec.ofInt 64 y := by
  apply BitVec.eq_of_toNat_eq
  rw [BitVec.toNat_ofInt, BitVec.toNat_ofInt]
  show (x % (18446744073709551616 : Int)).toNat = (y % (18446744073709551616 : Int)).toNat
  rw [h]
theorem or_i64 (X X' Y Y' : Int) (hx : X % 18446744073709551616 = X' % 18446744073709551616) (hy : Y % 18446744073709551616 = Y' % 18446744073709551616) : Go.bits .or .i64 X Y = wrap64 (Go.bits .or .u64 X' Y') := by
  have e1 : Go.bits .or .i64 X Y = IntKind.i64.wrap ((BitVec.ofInt 64 X ||| BitVec.ofInt 64 Y).toNat : Int) := rfl
  have e2 : Go.bits .or .u64 X' Y' = IntKind.u64.wrap ((BitVec.ofInt 64 X' ||| BitVec.ofInt 64 Y').toNat : Int) := rfl
  have hb := (BitVec.ofInt 64 X' ||| BitVec.ofInt 64 Y').isLt
  rw [e1, e2, ofInt64_congr hx, ofInt64_congr hy, wrap_u64' _ (by omega) (by omega)]
  exact i64_w _
theorem rd_at (l : List Int) (j : Nat) (hl : j < l.length) : rd l (j : Int) = l[j] := by simp [rd, List.getD_eq_getElem?_getD, List.getElem?_eq_getElem hl]
theorem nm_take_succ (l : List Int) (i : Nat) (hi : i < l.length) : nm (l.take (i + 1)) = nm (l.take i) * 256 + l[i] := by
  rw [List.take_succ_eq_append_getElem hi]; unfold nm; rw [nmF_append]; rfl
theorem nm_small {l : List Int} (hl : Bytes8 l) (h : l.length ≤ 7) : 0 ≤ nm l ∧ nm l < 72057594037927936 := by
  have h1 := nm_range hl
  refine ⟨h1.1, Int.lt_of_lt_of_le h1.2 ?_⟩
  have : (256 : Nat) ^ l.length ≤ 256 ^ 7 := Nat.pow_le_pow_right (by decide) h
  rw [pw]
  exact Int.ofNat_le.2 this
theorem nm_u64 {l : List Int} (hl : Bytes8 l) (h : l.length ≤ 8) : 0 ≤ nm l ∧ nm l < 18446744073709551616 := by
  have h1 := nm_range hl
  refine ⟨h1.1, Int.lt_of_lt_of_le h1.2 ?_⟩
  have : (256 : Nat) ^ l.length ≤ 256 ^ 8 := Nat.pow_le_pow_right (by decide) h
  rw [pw]
  exact Int.ofNat_le.2 this
/-- A loop that reads a number, unsigned. -/
theorem num_loop {L : Nat → Int → List Int → Int → Int → Option Int}
    (hL : ∀ k a xs len i, L (k + 1) a xs len i = if i < len then (if 0 ≤ i then (if i < (xs.length : Int) then (L k (Go.bits .or .u64 (IntKind.u64.wrap (a * 256)) (IntKind.u64.wrap (rd xs i))) xs len (wrap64 (i + 1))) else (none)) else (none)) else (some a))
    (l : List Int) (hb : Bytes8 l) (h8 : l.length ≤ 8) : ∀ (n i k : Nat), i + n = l.length → n + 1 ≤ k → L k (nm (l.take i)) l (l.length : Int) (i : Int) = some (nm l)
  | 0, i, k, hi, hk => by
    obtain ⟨k, rfl⟩ : ∃ m, k = m + 1 := ⟨k - 1, by omega⟩
    rw [hL, if_neg (by omega), List.take_of_length_le (by omega)]
  | n + 1, i, k, hi, hk => by
    obtain ⟨k, rfl⟩ : ∃ m, k = m + 1 := ⟨k - 1, by omega⟩
    have hx := hb (l[i]'(by omega)) (List.getElem_mem (by omega))
    have hs := nm_small (l := l.take i) (fun x hx => hb x (List.mem_of_mem_take hx)) (by rw [List.length_take]; omega)
    rw [hL, if_pos (by omega), if_pos (by omega), if_pos (by omega), rd_at l i (by omega), wrap_u64' _ (by omega) (by omega), wrap_u64' _ (by omega) (by omega), or64 _ _ (by omega) (by omega) (by omega) (by omega),
      show wrap64 ((i : Int) + 1) = ((i + 1 : Nat) : Int) from by unfold wrap64; omega, ← nm_take_succ l i (by omega)]
    exact num_loop hL l hb h8 n (i + 1) k (by omega) (by omega)
/-- A loop that reads a number, signed. -/
theorem num_loop_i {L : Nat → Int → List Int → Int → Int → Option Int}
    (hL : ∀ k a xs len i, L (k + 1) a xs len i = if i < len then (if 0 ≤ i then (if i < (xs.length : Int) then (L k (Go.bits .or .i64 (wrap64 (a * 256)) (wrap64 (rd xs i))) xs len (wrap64 (i + 1))) else (none)) else (none)) else (some a))
    (l : List Int) (hb : Bytes8 l) (h8 : l.length ≤ 8) : ∀ (n i k : Nat), i + n = l.length → n + 1 ≤ k → L k (wrap64 (nm (l.take i))) l (l.length : Int) (i : Int) = some (wrap64 (nm l))
  | 0, i, k, hi, hk => by
    obtain ⟨k, rfl⟩ : ∃ m, k = m + 1 := ⟨k - 1, by omega⟩
    rw [hL, if_neg (by omega), List.take_of_length_le (by omega)]
  | n + 1, i, k, hi, hk => by
    obtain ⟨k, rfl⟩ : ∃ m, k = m + 1 := ⟨k - 1, by omega⟩
    have hx := hb (l[i]'(by omega)) (List.getElem_mem (by omega))
    have hs := nm_small (l := l.take i) (fun x hx => hb x (List.mem_of_mem_take hx)) (by rw [List.length_take]; omega)
    rw [hL, if_pos (by omega), if_pos (by omega), if_pos (by omega), rd_at l i (by omega), or_i64 _ (nm (l.take i) * 256) _ (l[i]'(by omega)) (by unfold wrap64; omega) (by unfold wrap64; omega), or64 _ _ (by omega) (by omega) (by omega) (by omega),
      show wrap64 ((i : Int) + 1) = ((i + 1 : Nat) : Int) from by unfold wrap64; omega, ← nm_take_succ l i (by omega)]
    exact num_loop_i hL l hb h8 n (i + 1) k (by omega) (by omega)
end Loops

open Go.Proofs.Ytfgeffmlfbeodaa.Crc
open Go.Proofs.Ytfgeffmlfbeodaa.Stru (IsRow)
theorem begun_true (k : Nat) (hk : 400 ≤ k) : pandectlaw8_begun.f k = some true :=
  at_rounds (g := pandectlaw8_begun.f) pandectlaw8_begun.mono hk (by decide +kernel)
theorem wf_i64 {a : Int} (h : (Lit.int .i64 a).wf = true) : -9223372036854775808 ≤ a ∧ a ≤ 9223372036854775807 := by
  simp [Lit.wf, IntKind.min, IntKind.max, IntKind.signed, IntKind.bits] at h
  omega
theorem hput (l : List Int) (v : Int) (n k : Nat) (hn : n ≤ 8) (hk : n + 1 ≤ k) (hl : l.length ≤ 140737488355000) : head_put.f k l v (n : Int) = some (l ++ be n v) := by
  unfold head_put.f
  rw [show wrap64 ((n : Int) - 1) = (n : Int) - 1 from by unfold wrap64; omega]
  exact put_loop .i64 rfl (fun k b v i => by rw [head_put.l0]) v n k l (by omega) (by omega) (by omega)
theorem hnum (l : List Int) (hb : Bytes8 l) (h8 : l.length ≤ 8) (k : Nat) (hk : 9 ≤ k) : head_num.f k l = some (wrap64 (nm l)) := by
  unfold head_num.f
  have h := num_loop_i (L := fun k a xs len i => head_num.l0 k a xs len i) (fun k a xs len i => by show head_num.l0 (k + 1) a xs len i = _; rw [head_num.l0]) l hb h8 l.length 0 k (by omega) (by omega)
  rw [List.take_zero, show nm [] = 0 from rfl, show wrap64 0 = 0 from by unfold wrap64; omega] at h
  exact h
theorem nm8 (v : Int) (h0 : 0 ≤ v) (h1 : v ≤ 9223372036854775807) : wrap64 (nm (be 8 v)) = v := by
  rw [nm_be 8 v h0 (by have : (256 : Int) ^ 8 = 18446744073709551616 := by decide
                       omega)]
  unfold wrap64; omega
theorem head_back (a b : Int) (c : Bool) (h1 : a ≤ 9223372036854775807) (k : Nat) (hk : 100 ≤ k) : ∃ X p0 p1 p2 pe, head_PutHead.f k a b c = some X ∧ head_TakeHead.f k X = some (p0, p1, p2, pe) ∧ (if (decide (0 ≤ b) && decide (b ≤ a)) = true then p0 = a ∧ p1 = b ∧ p2 = c ∧ pe = 0 else pe = 2) := by
  obtain ⟨k, rfl⟩ : ∃ m, k = m + 1 := ⟨k - 1, by omega⟩
  have no : head_PutHead.j0 (k + 1) true a b c = some [] := by rw [head_PutHead.j0, if_pos rfl]
  have nt : head_TakeHead.f (k + 1) [] = some (0, 0, false, 2) := by unfold head_TakeHead.f; rw [if_neg (by decide)]
  by_cases c1 : b < 0
  · refine ⟨[], 0, 0, false, 2, by unfold head_PutHead.f; rw [if_pos c1, no], nt, ?_⟩
    rw [decide_eq_false (show ¬ 0 ≤ b by omega)]; simp
  · by_cases c2 : b > a
    · refine ⟨[], 0, 0, false, 2, by unfold head_PutHead.f; rw [if_neg c1, decide_eq_true c2, no], nt, ?_⟩
      rw [decide_eq_true (show 0 ≤ b by omega), decide_eq_false (show ¬ b ≤ a by omega)]; simp
    · rw [decide_eq_true (show 0 ≤ b by omega), decide_eq_true (show b ≤ a by omega)]
      have put : ∀ z : Bool, head_PutHead.f (k + 1) a b z = some (be 8 a ++ be 8 b ++ [if z then 1 else 0]) := fun z => by
        have e1 := hput [] a 8 k (by omega) (by omega) (by simp)
        have e2 := hput (be 8 a) b 8 k (by omega) (by omega) (by rw [be_length]; omega)
        have e3 : ∀ v : Int, head_put.f k (be 8 a ++ be 8 b) v 1 = some (be 8 a ++ be 8 b ++ be 1 v) := fun v => hput (be 8 a ++ be 8 b) v 1 k (by omega) (by omega) (by rw [List.length_append, be_length, be_length]; omega)
        rw [show ((8 : Nat) : Int) = 8 from rfl] at e1 e2
        rw [List.nil_append] at e1
        have b1 : be 1 1 = [1] := by decide +kernel
        have b0 : be 1 0 = [0] := by decide +kernel
        unfold head_PutHead.f
        rw [if_neg c1, decide_eq_false c2]
        cases z
        · rw [head_PutHead.j0, if_neg (by decide), if_neg (by decide), e1, Option.bind_some, e2, Option.bind_some, e3, Option.bind_some, b0]; rfl
        · rw [head_PutHead.j0, if_neg (by decide), if_pos rfl, e1, Option.bind_some, e2, Option.bind_some, e3, Option.bind_some, b1]; rfl
      have l1 := be_length 8 a
      have l2 := be_length 8 b
      generalize hz : (if c then (1 : Int) else 0) = z
      have hX : (be 8 a ++ be 8 b ++ [z]).length = 17 := by simp [l1, l2]
      have t1 : (be 8 a ++ be 8 b ++ [z]).take 8 = be 8 a := by rw [List.append_assoc, List.take_append_of_le_length (by omega), List.take_of_length_le (by omega)]
      have t2 : ((be 8 a ++ be 8 b ++ [z]).take 16).drop 8 = be 8 b := by
        rw [List.take_append_of_le_length (by rw [List.length_append]; omega), List.take_of_length_le (by rw [List.length_append]; omega), List.drop_append_of_le_length (by omega), List.drop_of_length_le (by omega), List.nil_append]
      have t3 : rd (be 8 a ++ be 8 b ++ [z]) 16 = z := by
        have := rd_at (be 8 a ++ be 8 b ++ [z]) 16 (by omega)
        rw [show ((16 : Nat) : Int) = 16 from rfl] at this
        rw [this, List.getElem_append_right (by rw [List.length_append]; omega)]
        simp [l1, l2]
      have n1 := nm8 a (by omega) h1
      have n2 := nm8 b (by omega) (by omega)
      have zc : (z == 1) = c := by subst hz; cases c <;> rfl
      have hp := put c
      rw [hz] at hp
      refine ⟨_, a, b, c, 0, hp, ?_, by simp⟩
      unfold head_TakeHead.f bytes_Equal.f
      rw [if_pos (by omega), if_pos (by omega), t1, hnum _ (be_bytes 8 a) (by omega) (k + 1) (by omega), Option.bind_some, if_pos (show (8 : Nat) ≤ 16 by decide), if_pos (by omega), t2, hnum _ (be_bytes 8 b) (by omega) (k + 1) (by omega), Option.bind_some, if_pos (by omega), t3, n1, n2, zc, hp, Option.bind_some, Option.bind_some, beq_self_eq_true, if_pos rfl]
theorem done_back (a b : Int) (c : Bool) (h1 : a ≤ 9223372036854775807) (k : Nat) (hk : 100 ≤ k) : ∃ X q0 q1 q2 qe, head_PutDone.f k a b c = some X ∧ head_TakeDone.f k X = some (q0, q1, q2, qe) ∧ (if (decide (0 ≤ a) && decide (1 ≤ b) && decide (b ≤ 65535) && !c) = true then q0 = a ∧ q1 = b ∧ q2 = c ∧ qe = 0 else qe = 2) := by
  obtain ⟨k, rfl⟩ : ∃ m, k = m + 1 := ⟨k - 1, by omega⟩
  have no : head_PutDone.j0 (k + 1) true a b c = some [] := by rw [head_PutDone.j0, if_pos rfl]
  have nt : head_TakeDone.f (k + 1) [] = some (0, 0, false, 2) := by unfold head_TakeDone.f; rw [if_neg (by decide)]
  by_cases c1 : a < 0
  · refine ⟨[], 0, 0, false, 2, by unfold head_PutDone.f; rw [if_pos c1, no], nt, ?_⟩
    rw [decide_eq_false (show ¬ 0 ≤ a by omega)]; simp
  · by_cases c2 : b < 1
    · refine ⟨[], 0, 0, false, 2, by unfold head_PutDone.f; rw [if_neg c1, if_pos c2, no], nt, ?_⟩
      rw [decide_eq_false (show ¬ 1 ≤ b by omega)]; simp
    · by_cases c3 : b > 65535
      · refine ⟨[], 0, 0, false, 2, by unfold head_PutDone.f; rw [if_neg c1, if_neg c2, if_pos c3, no], nt, ?_⟩
        rw [decide_eq_false (show ¬ b ≤ 65535 by omega)]; simp
      · cases c with
        | true =>
          refine ⟨[], 0, 0, false, 2, by unfold head_PutDone.f; rw [if_neg c1, if_neg c2, if_neg c3, no], nt, ?_⟩
          simp
        | false =>
          have put : head_PutDone.f (k + 1) a b false = some (be 8 a ++ be 2 b) := by
            have e1 := hput [] a 8 k (by omega) (by omega) (by simp)
            have e2 := hput (be 8 a) b 2 k (by omega) (by omega) (by rw [be_length]; omega)
            rw [show ((8 : Nat) : Int) = 8 from rfl] at e1
            rw [show ((2 : Nat) : Int) = 2 from rfl] at e2
            rw [List.nil_append] at e1
            unfold head_PutDone.f
            rw [if_neg c1, if_neg c2, if_neg c3, head_PutDone.j0, if_neg (by decide), e1, Option.bind_some, e2, Option.bind_some]
          have l1 := be_length 8 a
          have l2 := be_length 2 b
          have hX : (be 8 a ++ be 2 b).length = 10 := by simp [l1, l2]
          have t1 : (be 8 a ++ be 2 b).take 8 = be 8 a := by rw [List.take_append_of_le_length (by omega), List.take_of_length_le (by omega)]
          have t2 : (be 8 a ++ be 2 b).drop 8 = be 2 b := by rw [List.drop_append_of_le_length (by omega), List.drop_of_length_le (by omega), List.nil_append]
          have n1 := nm8 a (by omega) h1
          have n2 : wrap64 (nm (be 2 b)) = b := by
            rw [nm_be 2 b (by omega) (by have : (256 : Int) ^ 2 = 65536 := by decide
                                         omega)]
            unfold wrap64; omega
          have ne : ¬ be 8 a ++ be 2 b = [] := fun h => by rw [h] at hX; simp at hX
          refine ⟨_, a, b, false, 0, put, ?_, by simp; omega⟩
          unfold head_TakeDone.f
          rw [if_pos (by omega), if_pos (by omega), t1, hnum _ (be_bytes 8 a) (by omega) (k + 1) (by omega), Option.bind_some, t2, hnum _ (be_bytes 2 b) (by omega) (k + 1) (by omega), Option.bind_some, n1, n2, put, Option.bind_some, if_neg ne]
theorem mark_back (v : Int) (l : List Int) (h1 : v ≤ 9223372036854775807) (k : Nat) (hk : 100 ≤ k) : ∃ X t0 lt te, head_PutMark.f k v l = some X ∧ head_TakeMark.f k X = some (t0, lt, te) ∧ (if (decide (0 ≤ v) && decide (l.length ≤ 100)) = true then t0 = v ∧ lt = l ∧ te = 0 else te = 2) := by
  have nt : head_TakeMark.f k [] = some (0, [], 2) := by unfold head_TakeMark.f; rw [if_pos (by decide)]
  by_cases c : v < 0
  · refine ⟨[], 0, [], 2, by unfold head_PutMark.f; rw [if_pos c], nt, ?_⟩
    rw [decide_eq_false (show ¬ 0 ≤ v by omega)]; simp
  · by_cases c2 : (l.length : Int) > 100
    · refine ⟨[], 0, [], 2, by unfold head_PutMark.f; rw [if_neg c, if_pos c2], nt, ?_⟩
      rw [decide_eq_false (show ¬ l.length ≤ 100 by omega)]; simp
    · have put : head_PutMark.f k v l = some (be 8 v ++ l) := by
        have e1 := hput [] v 8 k (by omega) (by omega) (by simp)
        have e3 := be_length 8 v
        rw [show ((8 : Nat) : Int) = 8 from rfl] at e1
        unfold head_PutMark.f
        rw [if_neg c, if_neg c2, e1, Option.bind_some, List.nil_append, if_pos (by omega)]
      have l1 := be_length 8 v
      have hX : (be 8 v ++ l).length = 8 + l.length := by simp [l1]
      have t1 : (be 8 v ++ l).take 8 = be 8 v := by rw [List.take_append_of_le_length (by omega), List.take_of_length_le (by omega)]
      have t2 : (be 8 v ++ l).drop 8 = l := by rw [List.drop_append_of_le_length (by omega), List.drop_of_length_le (by omega), List.nil_append]
      have n1 := nm8 v (by omega) h1
      have ne : ¬ be 8 v ++ l = [] := fun h => by rw [h] at hX; simp at hX; omega
      refine ⟨_, v, l, 0, put, ?_, by simp; omega⟩
      unfold head_TakeMark.f
      rw [if_neg (by omega), if_pos (by omega), t1, hnum _ (be_bytes 8 v) (by omega) k (by omega), Option.bind_some, Option.bind_some, t2, Option.bind_some, if_pos (by rw [List.length_nil]; omega), Option.bind_some, List.nil_append, n1, put, Option.bind_some, if_neg ne]
theorem off_back (v : Int) (h1 : v ≤ 9223372036854775807) (k : Nat) (hk : 100 ≤ k) : ∃ X v0 ve, head_PutOff.f k v = some X ∧ head_TakeOff.f k X = some (v0, ve) ∧ (if decide (0 ≤ v) = true then v0 = v ∧ ve = 0 else ve = 2) := by
  have nt : head_TakeOff.f k [] = some (0, 2) := by unfold head_TakeOff.f; rw [if_neg (by decide)]
  by_cases c : v < 0
  · refine ⟨[], 0, 2, by unfold head_PutOff.f; rw [if_pos c], nt, ?_⟩
    rw [decide_eq_false (show ¬ 0 ≤ v by omega)]; simp
  · have e1 := hput [] v 8 k (by omega) (by omega) (by simp)
    have l1 := be_length 8 v
    have n1 := nm8 v (by omega) h1
    rw [show ((8 : Nat) : Int) = 8 from rfl] at e1
    rw [List.nil_append] at e1
    refine ⟨be 8 v, v, 0, by unfold head_PutOff.f; rw [if_neg c, e1, Option.bind_some], ?_, by simp; omega⟩
    unfold head_TakeOff.f
    rw [if_pos (by omega), hnum _ (be_bytes 8 v) (by omega) k (by omega), Option.bind_some, n1, if_neg c, Option.bind_some]
theorem walk (h0 h1 : Int) (h2 : Bool) (d0 d1 : Int) (d2 : Bool) (m0 : Int) (am : Option Addr) (lenm capm : Nat) (zm : List Int) (off : Int) (w : World)
    (wh0 : (Lit.int .i64 h0).wf = true) (wh1 : (Lit.int .i64 h1).wf = true) (wd0 : (Lit.int .i64 d0).wf = true) (wd1 : (Lit.int .i64 d1).wf = true) (wm0 : (Lit.int .i64 m0).wf = true) (wm : IsRow .u8 w am lenm capm zm) (w3 : (Lit.int .i64 off).wf = true) :
    Calls Try.prog 7 #[.agg #[.int .i64 h0, .int .i64 h1, .bool h2], .agg #[.int .i64 d0, .int .i64 d1, .bool d2], .agg #[.int .i64 m0, .slice am lenm capm], .int .i64 off] w fun e w' => e = .returned (.bool true) ∧ Below w.heap.size w w' := by
  obtain ⟨lm, rfl, hrm, hmm, hwm, hcm⟩ := ReadsInt.ofRowC wm
  have n0 := wf_i64 wh0
  have n2 := wf_i64 wd0
  have n3 := wf_i64 wm0
  have n4 := wf_i64 w3
  have hb := begun_true 400 (Nat.le_refl _)
  by_cases c1 : 120 < lm.length
  · exact way_m 400 h0 h1 h2 d0 d1 d2 m0 _ _ lm off w hb c1
  · obtain ⟨X1, p0, p1, p2, pe, x1, t1, a1⟩ := head_back h0 h1 h2 n0.2 400 (by omega)
    obtain ⟨X2, q0, q1, q2, qe, x2, t2, a2⟩ := done_back d0 d1 d2 n2.2 400 (by omega)
    obtain ⟨X3, t0, lt, te, x3, t3, a3⟩ := mark_back m0 lm n3.2 400 (by omega)
    obtain ⟨X4, v0, ve, x4, t4, a4⟩ := off_back off n4.2 400 (by omega)
    exact main_ 400 h0 h1 h2 d0 d1 d2 m0 _ _ lm off p0 p1 p2 pe q0 q1 q2 qe t0 lt te v0 ve X1 X2 X3 X4 _ _ _ _ w hb (Kd.C_of_reads (d := (0 : Int)) (h1 := fun _ => rfl) hrm) hcm (by omega) x1 t1 x2 t2 x3 t3 x4 t4 rfl rfl rfl rfl a1 a2 a3 a4

end Go.Proofs.Ytfgeffmlfbeodaa.Pure
