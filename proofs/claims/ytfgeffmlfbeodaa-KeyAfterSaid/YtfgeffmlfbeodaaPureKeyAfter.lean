/- KeyAfter: the least string above all that begin as a key does. No condition. -/
import Derived.Test.YtfgeffmlfbeodaaWalkKeyAfter
import Derived.Test.YtfgeffmlfbeodaaCrc
namespace Go.Proofs.Ytfgeffmlfbeodaa.Pure
open Go.RowKit Go.Proofs.Ytfgeffmlfbeodaa.PKeyAfter Go.Proofs.YtfgeffmlfbeodaaW.PrintWords Go.Proofs.YtfgeffmlfbeodaaW.PrintLast
set_option linter.unusedVariables false

open Go.Proofs.Ytfgeffmlfbeodaa.Crc Go.Proofs.Ytfgeffmlfbeodaa.Names
theorem begun_true (k : Nat) (hk : 400 ≤ k) : pandectlaw6_begun.f k = some true :=
  at_rounds (g := pandectlaw6_begun.f) pandectlaw6_begun.mono hk (by decide +kernel)
def u8 (l : List Int) : List UInt8 := l.map fun x => UInt8.ofNat x.toNat
theorem str_u8 (l : List Int) : (strOfNums l).toList = u8 l := by simp [strOfNums, u8]
theorem rd_at (l : List Int) (j : Nat) (hl : j < l.length) : rd l (j : Int) = l[j] := by simp [rd, List.getD_eq_getElem?_getD, List.getElem?_eq_getElem hl]
theorem less_rep : ∀ (m : Nat) (X : List UInt8), Op.bytesLess X (List.replicate m 255) = !(X.take m == List.replicate m 255)
  | 0, X => by cases X <;> simp [Op.bytesLess]
  | m + 1, [] => by simp [List.replicate_succ, Op.bytesLess]
  | m + 1, x :: X => by
    have ih := less_rep m X
    rw [List.replicate_succ, List.take_succ_cons, Op.bytesLess, ih, List.cons_beq_cons]
    by_cases h : x = 255
    · subst h
      simp
    · have h2 : x < 255 := by
        rw [UInt8.lt_iff_toNat_lt]
        have h3 : x.toNat ≠ 255 := fun h3 => h (UInt8.toNat_inj.1 h3)
        have h4 := x.toNat_lt
        have h5 : (255 : UInt8).toNat = 255 := rfl
        omega
      rw [decide_eq_true h2, beq_eq_false_iff_ne.2 h]
      rfl
theorem between (c d : UInt8) (hd : d.toNat = c.toNat + 1) (m : Nat) : ∀ (p X : List UInt8), (!Op.bytesLess X (p ++ c :: List.replicate m 255) && Op.bytesLess X (p ++ [d])) = (X.take (p.length + 1 + m) == p ++ c :: List.replicate m 255)
  | [], [] => by simp [Op.bytesLess]
  | [], x :: X => by
    have ih := less_rep m X
    rw [List.nil_append, List.nil_append, List.length_nil, show 0 + 1 + m = m + 1 from by omega, List.take_succ_cons, Op.bytesLess, Op.bytesLess, ih, List.cons_beq_cons, show Op.bytesLess X [] = false from by cases X <;> rfl]
    by_cases h1 : x = c
    · subst h1
      have h2 : ¬ x < x := by rw [UInt8.lt_iff_toNat_lt]; omega
      have h3 : x < d := by rw [UInt8.lt_iff_toNat_lt]; omega
      rw [decide_eq_false h2, decide_eq_true h3]
      simp
    · rw [beq_eq_false_iff_ne.2 h1]
      have h4 : x.toNat ≠ c.toNat := fun h => h1 (UInt8.toNat_inj.1 h)
      by_cases h2 : x < c
      · rw [decide_eq_true h2]; simp
      · have h3 : ¬ x < d := by
          rw [UInt8.lt_iff_toNat_lt] at h2 ⊢
          omega
        rw [decide_eq_false h3]; simp
  | q :: p, [] => by simp [Op.bytesLess]
  | q :: p, x :: X => by
    have ih := between c d hd m p X
    rw [List.cons_append, List.cons_append, List.length_cons, show p.length + 1 + 1 + m = (p.length + 1 + m) + 1 from by omega, List.take_succ_cons, Op.bytesLess, Op.bytesLess, List.cons_beq_cons, ← ih]
    by_cases h1 : x = q
    · subst h1
      have h2 : ¬ x < x := by rw [UInt8.lt_iff_toNat_lt]; omega
      rw [decide_eq_false h2]
      simp
    · rw [beq_eq_false_iff_ne.2 h1]
      cases decide (x < q) <;> rfl
theorem above (c d : UInt8) (hd : d.toNat = c.toNat + 1) (r : List UInt8) : ∀ p : List UInt8, Op.bytesLess (p ++ [d]) (p ++ c :: r) = false ∧ ((p ++ [d]) == (p ++ c :: r)) = false
  | [] => by
    have h1 : ¬ d < c := by rw [UInt8.lt_iff_toNat_lt]; omega
    have h2 : ¬ d = c := fun h => by rw [h] at hd; omega
    rw [List.nil_append, List.nil_append, Op.bytesLess, List.cons_beq_cons, decide_eq_false h1, beq_eq_false_iff_ne.2 h2]
    exact ⟨rfl, rfl⟩
  | q :: p => by
    have ih := above c d hd r p
    have h2 : ¬ q < q := by rw [UInt8.lt_iff_toNat_lt]; omega
    rw [List.cons_append, List.cons_append, Op.bytesLess, List.cons_beq_cons, decide_eq_false h2, ih.1, ih.2]
    simp
theorem after_form : ∀ (n : Nat) (l : List Int), l.length = n → Bytes8 l → l.length ≤ 40 → ∀ k, n + 1 ≤ k → (key_After.l0 k l = some [] ∧ l = List.replicate n 255) ∨ ∃ p c m, l = p ++ c :: List.replicate m 255 ∧ 0 ≤ c ∧ c < 255 ∧ key_After.l0 k l = some (p ++ [c + 1])
  | 0, l, hn, _, _, k, hk => by
    obtain ⟨k, rfl⟩ : ∃ m, k = m + 1 := ⟨k - 1, by omega⟩
    cases l with
    | nil => exact .inl ⟨by rw [key_After.l0, if_neg (by simp), if_pos (by simp)], rfl⟩
    | cons x l => simp at hn
  | n + 1, l, hn, hb, hl, k, hk => by
    obtain ⟨k, rfl⟩ : ∃ m, k = m + 1 := ⟨k - 1, by omega⟩
    have hne : l ≠ [] := fun h => by rw [h] at hn; simp at hn
    obtain ⟨a, x, rfl⟩ : ∃ a x, l = a ++ [x] := ⟨l.dropLast, l.getLast hne, (List.dropLast_concat_getLast hne).symm⟩
    have ha : a.length = n := by rw [List.length_append, List.length_singleton] at hn; omega
    have hx := hb x (by simp)
    have hr : rd (a ++ [x]) (n : Int) = x := by
      rw [rd_at _ n (by omega), List.getElem_append_right (by omega)]
      simp [ha]
    have ew : wrap64 (((a ++ [x]).length : Int) - 1) = (n : Int) := by rw [hn]; unfold wrap64; omega
    rw [key_After.l0, if_pos (by omega), ew, if_pos (by omega), if_pos (by omega), hr]
    by_cases c : x = 255
    · have ih := after_form n a ha (fun y hy => hb y (List.mem_append_left _ hy)) (by omega) k (by omega)
      rw [if_pos c, if_pos (by omega), Int.toNat_natCast, List.take_append_of_le_length (by omega), List.take_of_length_le (by omega)]
      rcases ih with ⟨h1, h2⟩ | ⟨p, c', m, h1, h2, h3, h4⟩
      · refine .inl ⟨h1, ?_⟩
        rw [List.replicate_succ', ← h2, c]
      · refine .inr ⟨p, c', m + 1, ?_, h2, h3, h4⟩
        rw [List.replicate_succ', h1, c]
        simp
    · rw [if_neg c, if_neg (by omega), Int.toNat_natCast]
      refine .inr ⟨a, x, 0, by simp, hx.1, by omega, ?_⟩
      rw [List.set_append_right _ _ (by omega), show n - a.length = 0 from by omega, show (x + 1) % 256 = x + 1 from by omega]
      rfl
theorem walk (a0 : Option Addr) (len0 cap0 : Nat) (z0 : List Int) (a1 : Option Addr) (len1 cap1 : Nat) (z1 : List Int) (w : World)
    (w0 : (a0 = none ∧ len0 = 0 ∧ cap0 = 0 ∧ z0 = []) ∨ ∃ x, a0 = some x ∧ len0 ≤ cap0 ∧ cap0 ≤ maxLen ∧ z0.length = cap0 ∧ (∀ i, i < z0.length → w.cell? (x.add i) = some (.int .u8 (z0.getD i 0))) ∧ ∀ n ∈ z0, (Lit.int .u8 n).wf = true) (y0 : len0 * 1 ≤ 140737488351232)
    (w1 : (a1 = none ∧ len1 = 0 ∧ cap1 = 0 ∧ z1 = []) ∨ ∃ x, a1 = some x ∧ len1 ≤ cap1 ∧ cap1 ≤ maxLen ∧ z1.length = cap1 ∧ (∀ i, i < z1.length → w.cell? (x.add i) = some (.int .u8 (z1.getD i 0))) ∧ ∀ n ∈ z1, (Lit.int .u8 n).wf = true) (y1 : len1 * 1 ≤ 140737488351232) :
    Calls Try.prog 13 #[.slice a0 len0 cap0, .slice a1 len1 cap1] w fun e w' => e = .returned (.bool true) ∧ Below w.heap.size w w' := by
  obtain ⟨l0, rfl, hr0, hm0, hw0, hc0⟩ := ReadsInt.ofRowC w0
  obtain ⟨l1, rfl, hr1, hm1, hw1, hc1⟩ := ReadsInt.ofRowC w1
  have hb0 := bytes_of hw0
  have hb1 := bytes_of hw1
  have h0 := begun_true 400 (Nat.le_refl _)
  by_cases c1 : 20 < l0.length
  · exact way_k 400 _ _ l0 _ _ l1 w h0 c1
  · by_cases c2 : 20 < l1.length
    · exact way_x 400 _ _ l0 _ _ l1 w h0 (by omega) c2
    · have R0 : Kd.C (Kd.int .u8) w a0 l0.length l0 := Kd.C_of_reads (d := (0 : Int)) (h1 := fun _ => rfl) hr0
      have R1 : Kd.C (Kd.int .u8) w a1 l1.length l1 := Kd.C_of_reads (d := (0 : Int)) (h1 := fun _ => rfl) hr1
      have hf : key_After.f 400 l0 = key_After.l0 400 l0 := by
        unfold key_After.f slices_Clone_byte_byte.f
        rw [if_pos (by omega), Option.bind_some]
      rcases after_form l0.length l0 rfl hb0 (by omega) 400 (by omega) with ⟨e1, e2⟩ | ⟨p, c, m, e1, e2, e3, e4⟩
      · rw [← hf] at e1
        have h255 : ∀ x : Int, 0 ≤ x → x < (l0.length : Int) → rd l0 x = 255 := by
          intro x h1 h2
          obtain ⟨j, rfl⟩ := Int.eq_ofNat_of_zero_le h1
          rw [rd_at l0 j (by omega)]
          have h3 : ∀ (n j : Nat) (l : List Int) (h : j < l.length), l = List.replicate n 255 → l[j] = 255 := by
            intro n j l h e
            subst e
            simp
          exact h3 _ j l0 (by omega) e2
        by_cases c3 : l0.length ≤ l1.length
        · exact long_e 400 _ _ l0 _ _ l1 [] w h0 R0 hc0 R1 hc1 (by omega) (by omega) e1 c3 _ rfl (by rw [str_u8]; rfl) h255
        · exact short_e 400 _ _ l0 _ _ l1 [] w h0 R0 hc0 R1 hc1 (by omega) (by omega) e1 (by omega) (by rw [str_u8]; rfl) h255
      · rw [← hf] at e4
        have hd : (UInt8.ofNat (c + 1).toNat).toNat = (UInt8.ofNat c.toNat).toNat + 1 := by simp; omega
        have k0 : u8 l0 = u8 p ++ UInt8.ofNat c.toNat :: List.replicate m 255 := by
          rw [e1]; simp [u8]
        have kF : u8 (p ++ [c + 1]) = u8 p ++ [UInt8.ofNat (c + 1).toNat] := by simp [u8]
        have hlen : l0.length = (u8 p).length + 1 + m := by
          rw [e1]; simp [u8]; omega
        have B := between _ _ hd m (u8 p) (u8 l1)
        have A := above _ _ hd (List.replicate m 255) (u8 p)
        rw [← k0, ← kF, ← hlen] at B
        rw [← k0, ← kF] at A
        have ne : ((strOfNums (p ++ [c + 1])).toList == ([] : List UInt8)) = false := by
          rw [str_u8, kF]; simp
        by_cases c3 : l0.length ≤ l1.length
        · refine long_n 400 _ _ l0 _ _ l1 _ w h0 R0 hc0 R1 hc1 (by omega) (by omega) e4 c3 _ rfl (Op.bytesLess (u8 l1) (u8 l0)) (Op.bytesLess (u8 l1) (u8 (p ++ [c + 1]))) ((u8 l1).take l0.length == u8 l0) ne (by rw [str_u8, str_u8]) (by rw [str_u8, str_u8]) (by rw [str_u8, str_u8]; exact A.1) (by rw [str_u8, str_u8]; exact A.2) (by rw [str_u8, str_u8]; simp [u8]) ?_
          rw [← B]
          cases Op.bytesLess (u8 l1) (u8 l0) <;> cases Op.bytesLess (u8 l1) (u8 (p ++ [c + 1])) <;> simp
        · refine short_n 400 _ _ l0 _ _ l1 _ w h0 R0 hc0 R1 hc1 (by omega) (by omega) e4 (by omega) (Op.bytesLess (u8 l1) (u8 l0)) (Op.bytesLess (u8 l1) (u8 (p ++ [c + 1]))) false ne (by rw [str_u8, str_u8]) (by rw [str_u8, str_u8]) (by rw [str_u8, str_u8]; exact A.1) (by rw [str_u8, str_u8]; exact A.2) ?_
          have hz : ((u8 l1).take l0.length == u8 l0) = false := by
            rw [beq_eq_false_iff_ne]
            intro h
            have := congrArg List.length h
            simp [u8] at this
            omega
          rw [hz] at B
          cases h1 : Op.bytesLess (u8 l1) (u8 l0) <;> cases h2 : Op.bytesLess (u8 l1) (u8 (p ++ [c + 1])) <;> rw [h1, h2] at B <;> simp at B ⊢

end Go.Proofs.Ytfgeffmlfbeodaa.Pure
