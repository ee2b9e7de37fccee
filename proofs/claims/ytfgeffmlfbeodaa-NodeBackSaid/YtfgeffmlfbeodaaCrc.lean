/- The plain law of the sums: a change of up to 32 bits in a row, or of a byte, turns a sum, and sums of three texts add up; no program here, no condition but those written in each theorem. -/
import Derived.Laws.BitsLemmas
import GoSem.Claim
namespace Go.Proofs.Ytfgeffmlfbeodaa.Crc

def poly : BitVec 32 := 0x82F63B78#32
/-- One bit's step. -/
def cstep (r : BitVec 32) : BitVec 32 := (r >>> 1) ^^^ (if r.getLsbD 0 then poly else 0#32)
def steps : Nat → BitVec 32 → BitVec 32
  | 0, r => r
  | n + 1, r => steps n (cstep r)
/-- A byte's. -/
def g (r : BitVec 32) : BitVec 32 := steps 8 r
def upd (r : BitVec 32) (c : Int) : BitVec 32 := g (r ^^^ BitVec.ofInt 32 c)
def reg (l : List Int) : BitVec 32 := l.foldl upd (BitVec.allOnes 32)
def crc (l : List Int) : Int := ((BitVec.allOnes 32 ^^^ reg l).toNat : Int)

theorem cstep_xor (a b : BitVec 32) : cstep (a ^^^ b) = cstep a ^^^ cstep b := by
  unfold cstep
  rw [BitVec.getLsbD_xor, BitVec.ushiftRight_xor_distrib]
  cases a.getLsbD 0 <;> cases b.getLsbD 0
  · simp
  · simp only [Bool.false_xor, if_true, Bool.false_eq_true, if_false, BitVec.xor_zero]; ac_rfl
  · simp only [Bool.xor_false, if_true, Bool.false_eq_true, if_false, BitVec.xor_zero]; ac_rfl
  · simp only [Bool.true_xor, Bool.not_true, if_true, Bool.false_eq_true, if_false, BitVec.xor_zero]
    have : poly ^^^ poly = 0#32 := BitVec.xor_self
    calc a >>> 1 ^^^ b >>> 1 = a >>> 1 ^^^ b >>> 1 ^^^ (poly ^^^ poly) := by rw [this, BitVec.xor_zero]
      _ = _ := by ac_rfl

theorem cstep_zero : cstep 0#32 = 0#32 := by decide
theorem cstep_eq_zero (a : BitVec 32) (h : cstep a = 0#32) : a = 0#32 := by
  unfold cstep at h
  have h31 := congrArg (fun x => BitVec.getLsbD x 31) h
  simp only [BitVec.getLsbD_xor, BitVec.getLsbD_ushiftRight] at h31
  have ha : a.getLsbD 0 = false := by
    cases ha : a.getLsbD 0
    · rfl
    · have hb : a.getLsbD (1 + 31) = false := BitVec.getLsbD_of_ge _ _ (by omega)
      rw [ha, hb] at h31
      simp [poly] at h31
  rw [ha] at h
  apply BitVec.eq_of_getLsbD_eq
  intro i hi
  rcases Nat.eq_zero_or_pos i with rfl | hp
  · simpa using ha
  · have := congrArg (fun x => BitVec.getLsbD x (i - 1)) h
    simp only [BitVec.getLsbD_xor, BitVec.getLsbD_ushiftRight] at this
    have e : 1 + (i - 1) = i := by omega
    rw [e] at this
    simpa using this
theorem steps_xor (n : Nat) : ∀ a b : BitVec 32, steps n (a ^^^ b) = steps n a ^^^ steps n b := by
  induction n with
  | zero => intro a b; rfl
  | succ n ih => intro a b; simp only [steps, cstep_xor, ih]
theorem steps_zero (n : Nat) : steps n 0#32 = 0#32 := by
  induction n with
  | zero => rfl
  | succ n ih => simp only [steps, cstep_zero, ih]
theorem steps_eq_zero (n : Nat) : ∀ a : BitVec 32, steps n a = 0#32 → a = 0#32 := by
  induction n with
  | zero => intro a h; exact h
  | succ n ih => intro a h; exact cstep_eq_zero a (ih _ h)
theorem xor_eq_zero {a b : BitVec 32} (h : a ^^^ b = 0#32) : a = b := by
  apply BitVec.eq_of_getLsbD_eq
  intro i hi
  have := congrArg (fun x => BitVec.getLsbD x i) h
  simp only [BitVec.getLsbD_xor] at this
  cases ha : a.getLsbD i <;> cases hb : b.getLsbD i <;> simp [ha, hb] at this ⊢
theorem g_xor (a b : BitVec 32) : g (a ^^^ b) = g a ^^^ g b := steps_xor 8 a b
theorem g_zero : g 0#32 = 0#32 := steps_zero 8
theorem g_eq_zero {a : BitVec 32} (h : g a = 0#32) : a = 0#32 := steps_eq_zero 8 a h
theorem g_inj {a b : BitVec 32} (h : g a = g b) : a = b := xor_eq_zero (g_eq_zero (by rw [g_xor, h]; simp))
/-- A byte that has been pushed up comes down again. -/
theorem cstep_shl (x : BitVec 32) (h : x.getLsbD 31 = false) : cstep (x <<< 1) = x := by
  unfold cstep
  have h0 : (x <<< 1).getLsbD 0 = false := by simp
  rw [h0]
  apply BitVec.eq_of_getLsbD_eq
  intro i hi
  simp only [BitVec.getLsbD_xor, BitVec.getLsbD_ushiftRight, BitVec.getLsbD_shiftLeft]
  rcases Nat.lt_or_ge (1 + i) 32 with h1 | h1
  · simp [h1]
  · have : i = 31 := by omega
    subst this
    rw [h]
    simp

/-- What a change does to a register: the changes of a text's Bytes8, one behind the other. -/
def lin (ds : List (BitVec 32)) (r : BitVec 32) : BitVec 32 := ds.foldl (fun r d => g (r ^^^ d)) r
theorem lin_zero_iff (r : BitVec 32) : ∀ n, lin (List.replicate n 0#32) r = 0#32 ↔ r = 0#32 := by
  intro n
  induction n generalizing r with
  | zero => exact Iff.rfl
  | succ n ih =>
    rw [List.replicate_succ]
    show lin (List.replicate n 0#32) (g (r ^^^ 0#32)) = 0#32 ↔ _
    rw [ih, BitVec.xor_zero]
    exact ⟨g_eq_zero, fun h => by rw [h]; exact g_zero⟩
def diffs (b c : List Int) : List (BitVec 32) := (b.zip c).map fun p => BitVec.ofInt 32 p.1 ^^^ BitVec.ofInt 32 p.2
theorem foldl_diff : ∀ (b c : List Int), b.length = c.length → ∀ r s : BitVec 32, b.foldl upd r ^^^ c.foldl upd s = lin (diffs b c) (r ^^^ s)
  | [], [], _, r, s => rfl
  | x :: b, y :: c, h, r, s => by
    have hl : b.length = c.length := by simpa using h
    show b.foldl upd (upd r x) ^^^ c.foldl upd (upd s y) = lin (diffs b c) (g ((r ^^^ s) ^^^ (BitVec.ofInt 32 x ^^^ BitVec.ofInt 32 y)))
    rw [foldl_diff b c hl]
    congr 1
    unfold upd
    rw [← g_xor]
    congr 1
    ac_rfl
  | [], _ :: _, h, _, _ => by simp at h
  | _ :: _, [], h, _, _ => by simp at h
theorem reg_diff (b c : List Int) (h : b.length = c.length) : reg b ^^^ reg c = lin (diffs b c) 0#32 := by
  unfold reg
  rw [foldl_diff b c h]
  simp
theorem crc_eq_iff (b c : List Int) (h : b.length = c.length) : crc b = crc c ↔ lin (diffs b c) 0#32 = 0#32 := by
  rw [← reg_diff b c h]
  unfold crc
  constructor
  · intro e
    have e1 : BitVec.allOnes 32 ^^^ reg b = BitVec.allOnes 32 ^^^ reg c := BitVec.eq_of_toNat_eq (by exact_mod_cast e)
    have e2 : reg b = reg c := by
      have := congrArg (fun x => BitVec.allOnes 32 ^^^ x) e1
      simpa [← BitVec.xor_assoc] using this
    rw [e2]; simp
  · intro e
    rw [xor_eq_zero e]
theorem lin_xor : ∀ (a b : List (BitVec 32)), a.length = b.length → ∀ r s, lin (List.zipWith (· ^^^ ·) a b) (r ^^^ s) = lin a r ^^^ lin b s
  | [], [], _, r, s => rfl
  | x :: a, y :: b, h, r, s => by
    have hl : a.length = b.length := by simpa using h
    show lin (List.zipWith (· ^^^ ·) a b) (g ((r ^^^ s) ^^^ (x ^^^ y))) = lin a (g (r ^^^ x)) ^^^ lin b (g (s ^^^ y))
    rw [← lin_xor a b hl, ← g_xor]
    congr 2
    ac_rfl
  | [], _ :: _, h, _, _ => by simp at h
  | _ :: _, [], h, _, _ => by simp at h
/-- No bit from m on. -/
def small (m : Nat) (x : BitVec 32) : Prop := ∀ i, m ≤ i → x.getLsbD i = false
theorem small_xor {m : Nat} {a b : BitVec 32} (ha : small m a) (hb : small m b) : small m (a ^^^ b) := fun i hi => by rw [BitVec.getLsbD_xor, ha i hi, hb i hi]; rfl
theorem small_shl {m k : Nat} {a : BitVec 32} (ha : small m a) : small (m + k) (a <<< k) := fun i hi => by
  rw [BitVec.getLsbD_shiftLeft, ha (i - k) (by omega)]; simp
theorem small_mono {m n : Nat} {a : BitVec 32} (h : m ≤ n) (ha : small m a) : small n a := fun i hi => ha i (by omega)
theorem small_zero (m : Nat) : small m 0#32 := fun i _ => by simp
theorem small_byte (x : Int) (h0 : 0 ≤ x) (h1 : x < 256) : small 8 (BitVec.ofInt 32 x) := fun i hi => by
  obtain ⟨n, rfl⟩ := Int.eq_ofNat_of_zero_le h0
  have hn : n < 256 := by omega
  rw [BitVec.ofInt_natCast]
  simp only [BitVec.getLsbD_ofNat]
  have : n.testBit i = false := Nat.testBit_lt_two_pow (Nat.lt_of_lt_of_le (show n < 2 ^ 8 by omega) (Nat.pow_le_pow_right (by decide) hi))
  rw [this]; simp
theorem steps_shl (n : Nat) : ∀ x : BitVec 32, small (32 - n) x → n ≤ 32 → steps n (x <<< n) = x := by
  induction n with
  | zero => intro x _ _; simp [steps]
  | succ n ih =>
    intro x hx hn
    show steps n (cstep (x <<< (n + 1))) = x
    rw [BitVec.shiftLeft_add, cstep_shl]
    · exact ih x (small_mono (by omega) hx) (by omega)
    · rw [BitVec.getLsbD_shiftLeft, hx (31 - n) (by omega)]; simp
theorem g_up (x : BitVec 32) (hx : small 24 x) : g (x <<< 8) = x := steps_shl 8 x hx (by omega)
def word : List (BitVec 32) → BitVec 32
  | [] => 0#32
  | d :: ds => d ^^^ (word ds <<< 8)
def gn : Nat → BitVec 32 → BitVec 32
  | 0, r => r
  | n + 1, r => gn n (g r)
theorem gn_eq_zero : ∀ n r, gn n r = 0#32 ↔ r = 0#32
  | 0, _ => Iff.rfl
  | n + 1, r => (gn_eq_zero n (g r)).trans ⟨g_eq_zero, fun h => by rw [h]; exact g_zero⟩
theorem word_small : ∀ ds : List (BitVec 32), (∀ d ∈ ds, small 8 d) → small (8 * ds.length) (word ds)
  | [], _ => small_zero _
  | d :: ds, h => small_xor (small_mono (by simp; omega) (h d (by simp))) (small_mono (by simp; omega) (small_shl (k := 8) (word_small ds (fun x hx => h x (by simp [hx])))))
theorem lin_word : ∀ ds : List (BitVec 32), ds.length ≤ 4 → (∀ d ∈ ds, small 8 d) → ∀ r, lin ds r = gn ds.length (r ^^^ word ds)
  | [], _, _, r => by simp [lin, word, gn]
  | d :: ds, hl, h, r => by
    have hl' : ds.length ≤ 3 := by simpa using hl
    have h' : ∀ x ∈ ds, small 8 x := fun x hx => h x (by simp [hx])
    show lin ds (g (r ^^^ d)) = gn ds.length (g (r ^^^ (d ^^^ (word ds <<< 8))))
    rw [lin_word ds (by omega) h', ← BitVec.xor_assoc, g_xor (r ^^^ d), g_up _ (small_mono (by omega) (word_small ds h'))]
theorem word_eq_zero : ∀ ds : List (BitVec 32), ds.length ≤ 4 → (∀ d ∈ ds, small 8 d) → (word ds = 0#32 ↔ ∀ d ∈ ds, d = 0#32)
  | [], _, _ => by simp [word]
  | d :: ds, hl, h => by
    have hl' : ds.length ≤ 3 := by simpa using hl
    have h' : ∀ x ∈ ds, small 8 x := fun x hx => h x (by simp [hx])
    have hd := h d (by simp)
    have ih := word_eq_zero ds (by omega) h'
    constructor
    · intro e
      have e1 : d = word ds <<< 8 := xor_eq_zero e
      have d0 : d = 0#32 := by
        apply BitVec.eq_of_getLsbD_eq
        intro i hi
        rcases Nat.lt_or_ge i 8 with h8 | h8
        · rw [e1, BitVec.getLsbD_shiftLeft]; simp [h8]
        · rw [hd i h8]; simp
      have w0 : word ds = 0#32 := by
        have hs := small_mono (show 8 * ds.length ≤ 24 by omega) (word_small ds h')
        rw [← g_up _ hs, ← e1, d0, g_zero]
      intro x hx
      rcases List.mem_cons.1 hx with rfl | hx
      · exact d0
      · exact ih.1 w0 x hx
    · intro e
      have w0 := ih.2 (fun x hx => e x (by simp [hx]))
      show d ^^^ (word ds <<< 8) = 0#32
      rw [w0, e d (by simp)]; simp
theorem lin_small (ds : List (BitVec 32)) (hl : ds.length ≤ 4) (h : ∀ d ∈ ds, small 8 d) : lin ds 0#32 = 0#32 ↔ ∀ d ∈ ds, d = 0#32 := by
  rw [lin_word ds hl h, gn_eq_zero, BitVec.zero_xor, word_eq_zero ds hl h]
theorem lin_append (a b : List (BitVec 32)) (r : BitVec 32) : lin (a ++ b) r = lin b (lin a r) := by
  unfold lin; rw [List.foldl_append]
theorem lin_window (k m : Nat) (ds : List (BitVec 32)) (hl : ds.length ≤ 4) (h : ∀ d ∈ ds, small 8 d) :
    lin (List.replicate k 0#32 ++ ds ++ List.replicate m 0#32) 0#32 = 0#32 ↔ ∀ d ∈ ds, d = 0#32 := by
  rw [lin_append, lin_append, (lin_zero_iff 0#32 k).2 rfl, lin_zero_iff, lin_small ds hl h]
theorem ofInt_byte_inj {x y : Int} (hx : 0 ≤ x) (hx1 : x < 256) (hy : 0 ≤ y) (hy1 : y < 256) (h : BitVec.ofInt 32 x = BitVec.ofInt 32 y) : x = y := by
  obtain ⟨a, rfl⟩ := Int.eq_ofNat_of_zero_le hx
  obtain ⟨b, rfl⟩ := Int.eq_ofNat_of_zero_le hy
  rw [BitVec.ofInt_natCast, BitVec.ofInt_natCast] at h
  have := congrArg BitVec.toNat h
  simp only [BitVec.toNat_ofNat] at this
  omega
def Bytes8 (l : List Int) : Prop := ∀ x ∈ l, 0 ≤ x ∧ x < 256
theorem diffs_self : ∀ b : List Int, diffs b b = List.replicate b.length 0#32
  | [] => rfl
  | x :: b => by
    show (BitVec.ofInt 32 x ^^^ BitVec.ofInt 32 x) :: diffs b b = _
    rw [diffs_self b, BitVec.xor_self]; rfl
theorem diffs_append (a b c d : List Int) (h : a.length = c.length) : diffs (a ++ b) (c ++ d) = diffs a c ++ diffs b d := by
  unfold diffs; rw [List.zip_append h, List.map_append]
theorem diffs_small : ∀ (u v : List Int), Bytes8 u → Bytes8 v → ∀ d ∈ diffs u v, small 8 d
  | [], _, _, _, d, hd => by simp [diffs] at hd
  | _ :: _, [], _, _, d, hd => by simp [diffs] at hd
  | x :: u, y :: v, hu, hv, d, hd => by
    have hd' : d ∈ (BitVec.ofInt 32 x ^^^ BitVec.ofInt 32 y) :: diffs u v := hd
    rcases List.mem_cons.1 hd' with rfl | hd'
    · exact small_xor (small_byte _ (hu x (by simp)).1 (hu x (by simp)).2) (small_byte _ (hv y (by simp)).1 (hv y (by simp)).2)
    · exact diffs_small u v (fun z hz => hu z (by simp [hz])) (fun z hz => hv z (by simp [hz])) d hd'
theorem diffs_zero : ∀ (u v : List Int), Bytes8 u → Bytes8 v → u.length = v.length → (∀ d ∈ diffs u v, d = 0#32) → u = v
  | [], [], _, _, _, _ => rfl
  | [], _ :: _, _, _, h, _ => by simp at h
  | _ :: _, [], _, _, h, _ => by simp at h
  | x :: u, y :: v, hu, hv, hl, h => by
    have h1 := h (BitVec.ofInt 32 x ^^^ BitVec.ofInt 32 y) (by simp [diffs])
    have e := ofInt_byte_inj (hu x (by simp)).1 (hu x (by simp)).2 (hv y (by simp)).1 (hv y (by simp)).2 (xor_eq_zero h1)
    rw [e, diffs_zero u v (fun z hz => hu z (by simp [hz])) (fun z hz => hv z (by simp [hz])) (by simpa using hl) (fun d hd => h d (by
      show d ∈ (BitVec.ofInt 32 x ^^^ BitVec.ofInt 32 y) :: diffs u v
      exact List.mem_cons_of_mem _ hd))]
/-- A change of up to four Bytes8 in a row is told by the sum. -/
theorem crc_window (a u v z : List Int) (hl : u.length = v.length) (h4 : u.length ≤ 4) (hu : Bytes8 u) (hv : Bytes8 v) : crc (a ++ u ++ z) = crc (a ++ v ++ z) ↔ u = v := by
  rw [crc_eq_iff _ _ (by simp [hl]), diffs_append _ _ _ _ (by simp [hl]), diffs_append _ _ _ _ rfl, diffs_self, diffs_self]
  have hd : (diffs u v).length = u.length := by simp [diffs, hl]
  rw [lin_window _ _ _ (by omega) (diffs_small u v hu hv)]
  refine ⟨diffs_zero u v hu hv hl, fun h => ?_⟩
  subst h
  rw [diffs_self]
  intro d hd
  exact (List.mem_replicate.1 hd).2
/-- Of one byte. -/
theorem crc_set (b : List Int) (i : Nat) (hi : i < b.length) (hb : Bytes8 b) (y : Int) (h0 : 0 ≤ y) (h1 : y < 256) : crc (b.set i y) = crc b ↔ y = b[i] := by
  have e1 : b = b.take i ++ [b[i]] ++ b.drop (i + 1) := by
    rw [List.append_assoc, List.singleton_append, List.getElem_cons_drop, List.take_append_drop]
  have e2 : b.set i y = b.take i ++ [y] ++ b.drop (i + 1) := by
    rw [List.set_eq_take_append_cons_drop, if_pos hi, List.append_assoc, List.singleton_append]
  have := crc_window (b.take i) [y] [b[i]] (b.drop (i + 1)) rfl (by simp) (fun x hx => by simp at hx; subst hx; exact ⟨h0, h1⟩) (fun x hx => by simp at hx; subst hx; exact hb _ (List.getElem_mem hi))
  rw [← e2, ← e1] at this
  simpa using this
theorem bx8 (a b : Nat) (ha : a < 256) (hb : b < 256) : Go.bits .xor .u8 (a : Int) (b : Int) = ((a ^^^ b : Nat) : Int) := by
  have e : Go.bits .xor .u8 (a : Int) (b : Int) = IntKind.u8.wrap ((BitVec.ofInt 8 (a : Int) ^^^ BitVec.ofInt 8 (b : Int)).toNat : Int) := rfl
  have hx : a ^^^ b < 2 ^ 8 := Nat.xor_lt_two_pow (by omega) (by omega)
  rw [e, BitVec.ofInt_natCast, BitVec.ofInt_natCast, BitVec.toNat_xor, BitVec.toNat_ofNat, BitVec.toNat_ofNat, Nat.mod_eq_of_lt (by omega), Nat.mod_eq_of_lt (by omega), Go.IntKind.wrap_u8]
  omega
theorem bx8_bytes (x y : Int) (hx : 0 ≤ x ∧ x < 256) (hy : 0 ≤ y ∧ y < 256) : (0 ≤ Go.bits .xor .u8 x y ∧ Go.bits .xor .u8 x y < 256) ∧ BitVec.ofInt 32 (Go.bits .xor .u8 x y) = BitVec.ofInt 32 x ^^^ BitVec.ofInt 32 y := by
  obtain ⟨a, rfl⟩ := Int.eq_ofNat_of_zero_le hx.1
  obtain ⟨b, rfl⟩ := Int.eq_ofNat_of_zero_le hy.1
  have hl : a ^^^ b < 2 ^ 8 := Nat.xor_lt_two_pow (by omega) (by omega)
  rw [bx8 a b (by omega) (by omega)]
  refine ⟨by omega, ?_⟩
  rw [BitVec.ofInt_natCast, BitVec.ofInt_natCast, BitVec.ofInt_natCast]
  apply BitVec.eq_of_toNat_eq
  rw [BitVec.toNat_xor, BitVec.toNat_ofNat, BitVec.toNat_ofNat, BitVec.toNat_ofNat, Nat.mod_eq_of_lt (by omega), Nat.mod_eq_of_lt (by omega), Nat.mod_eq_of_lt (by omega)]
theorem bx8_zero (x y : Int) (hx : 0 ≤ x ∧ x < 256) (hy : 0 ≤ y ∧ y < 256) : Go.bits .xor .u8 x y = x ↔ y = 0 := by
  have h := bx8_bytes x y hx hy
  constructor
  · intro e
    rw [e] at h
    have e1 : BitVec.ofInt 32 y = 0#32 := by
      have := congrArg (fun z => BitVec.ofInt 32 x ^^^ z) h.2
      simpa [← BitVec.xor_assoc] using this.symm
    exact ofInt_byte_inj hy.1 hy.2 (by omega) (by omega) e1
  · rintro rfl
    refine ofInt_byte_inj h.1.1 h.1.2 hx.1 hx.2 ?_
    rw [h.2]
    simp
theorem bytes_of {l : List Int} (h : ∀ x ∈ l, (Lit.int .u8 x).wf = true) : Bytes8 l := fun x hx => by
  have := h x hx
  simp [Lit.wf, IntKind.min, IntKind.max, IntKind.signed, IntKind.bits] at this
  omega
theorem crc_range (l : List Int) : 0 ≤ crc l ∧ crc l < 4294967296 := by
  have := (BitVec.allOnes 32 ^^^ reg l).isLt
  unfold crc
  omega
theorem crc_three (x a b c : List Int) (ha : x.length = a.length) (hb : x.length = b.length) (hc : x.length = c.length) (h : diffs x c = diffs a b) : reg x = reg a ^^^ reg b ^^^ reg c := by
  have h1 := reg_diff x c hc
  have h2 := reg_diff a b (by omega)
  rw [h, ← h2] at h1
  have := congrArg (fun z => z ^^^ reg c) h1
  simpa [BitVec.xor_assoc] using this
end Go.Proofs.Ytfgeffmlfbeodaa.Crc
