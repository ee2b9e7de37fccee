/- EV, part W: regions that draw their order do what the text's order does. No program here. -/
import Derived.Test.YtpjkbjpjhkcofaaEvZ
import Derived.Test.YtpjkbjpjhkcofaaEvT
namespace Go.Proofs.Ytpjkbjpjhkcofaa.Ev
open Go Go.RowKit Go.Proofs.Ytpjkbjpjhkcofaa.RG
set_option linter.unusedVariables false
set_option linter.unusedSimpArgs false
theorem hasBit_eq (m n : Nat) : hasBit m n = m.testBit n := by
  unfold hasBit Nat.testBit
  show Nat.beq ((m >>> n) &&& 1) 1 = (1 &&& (m >>> n) != 0)
  rw [Nat.and_comm, Nat.one_and_eq_mod_two]
  have h := Nat.mod_two_eq_zero_or_one (m >>> n)
  rcases h with h | h <;> rw [h] <;> rfl
theorem hasBit_lor [Th] (a b n : Nat) : hasBit (Nat.lor a b) n = (hasBit a n || hasBit b n) := by
  rw [hasBit_eq, hasBit_eq, hasBit_eq]
  exact Nat.testBit_or a b n
theorem hasBit_one [Th] (d n : Nat) : hasBit (Nat.shiftLeft 1 d) n = true ↔ n = d := by
  rw [hasBit_eq]
  show (1 <<< d).testBit n = true ↔ _
  rw [Nat.one_shiftLeft, Nat.testBit_two_pow]
  simp [eq_comm]
theorem hasBit_zero [Th] (n : Nat) : hasBit 0 n = false := by rw [hasBit_eq]; exact Nat.zero_testBit n
theorem lowB_ok : ∀ (l : List Oper) (k : Nat), lowB k l = true → ∀ (i : Nat) (o : Oper), l[i]? = some o → ∀ e ∈ o.after, Region.binds .any e = true → e.on < k + i
  | [], _, _, i, o, h, _, _, _ => by simp at h
  | q :: l, k, h, i, o, ho, e, he, hb => by
    simp only [lowB, Bool.and_eq_true, List.all_eq_true] at h
    cases i with
    | zero =>
      simp only [List.getElem?_cons_zero, Option.some.injEq] at ho
      subst ho
      have := h.1 e (by simpa using he)
      rw [hb] at this
      simpa [Nat.blt_eq] using this
    | succ i =>
      have := lowB_ok l (k + 1) h.2 i o (by simpa using ho) e he hb
      omega
theorem dstBits_ok [Th] : ∀ (l : List Oper) (m : Nat), dstBits l = some m → (∀ (i : Nat) (o : Oper) (d : Nat), l[i]? = some o → o.dst = some d → hasBit m d = true) ∧ ∀ (i j : Nat) (o q : Oper) (d : Nat), l[i]? = some o → l[j]? = some q → o.dst = some d → q.dst = some d → i = j
  | [], _, _ => ⟨fun i o d h => by simp at h, fun i j o q d h => by simp at h⟩
  | x :: l, m, h => by
    unfold dstBits at h
    split at h
    · rename_i m' hm'
      obtain ⟨h1, h2⟩ := dstBits_ok l m' hm'
      split at h
      · rename_i d0 hd0
        split at h
        · cases h
        · rename_i hn
          simp only [Option.some.injEq] at h
          subst h
          refine ⟨fun i o d ho hd => ?_, fun i j o q d ho hq hd hd' => ?_⟩
          · rw [hasBit_lor, Bool.or_eq_true]
            cases i with
            | zero => simp only [List.getElem?_cons_zero, Option.some.injEq] at ho; subst ho; rw [hd0] at hd; cases hd; exact .inl ((hasBit_one _ _).2 rfl)
            | succ i => exact .inr (h1 i o d (by simpa using ho) hd)
          · cases i with
            | zero =>
              cases j with
              | zero => rfl
              | succ j =>
                simp only [List.getElem?_cons_zero, Option.some.injEq] at ho; subst ho; rw [hd0] at hd; cases hd
                exact absurd (h1 j q _ (by simpa using hq) hd') hn
            | succ i =>
              cases j with
              | zero =>
                simp only [List.getElem?_cons_zero, Option.some.injEq] at hq; subst hq; rw [hd0] at hd'; cases hd'
                exact absurd (h1 i o _ (by simpa using ho) hd) hn
              | succ j => rw [h2 i j o q d (by simpa using ho) (by simpa using hq) hd hd']
      · rename_i hd0
        simp only [Option.some.injEq] at h
        subst h
        refine ⟨fun i o d ho hd => ?_, fun i j o q d ho hq hd hd' => ?_⟩
        · cases i with
          | zero => simp only [List.getElem?_cons_zero, Option.some.injEq] at ho; subst ho; rw [hd0] at hd; cases hd
          | succ i => exact h1 i o d (by simpa using ho) hd
        · cases i with
          | zero => simp only [List.getElem?_cons_zero, Option.some.injEq] at ho; subst ho; rw [hd0] at hd; cases hd
          | succ i =>
            cases j with
            | zero => simp only [List.getElem?_cons_zero, Option.some.injEq] at hq; subst hq; rw [hd0] at hd'; cases hd'
            | succ j => rw [h2 i j o q d (by simpa using ho) (by simpa using hq) hd hd']
    · cases h
theorem hasDst_ok {d : Nat} {q : Oper} (h : hasDst d q = true) : q.dst = some d := by
  unfold hasDst at h
  split at h
  · rename_i d' hd'
    rw [hd', Nat.eq_of_beq_eq_true h]
  · cases h
theorem lookB_ok [Th] {ops : Array Oper} {m : Nat} : ∀ (l : List Oper) (k : Nat), lookB ops m k l = true → ∀ (i : Nat) (o : Oper), l[i]? = some o → ∀ d ∈ o.looksAt ops, hasBit m d = true →
    (∃ e ∈ o.after, Region.binds .any e = true ∧ ∃ q, ops[e.on]? = some q ∧ q.dst = some d) ∨ ∃ (j : Nat) (q : Oper), ops[j]? = some q ∧ q.dst = some d ∧ ∃ e ∈ q.after, Region.binds .any e = true ∧ e.on = k + i
  | [], _, _, i, o, h => by simp at h
  | x :: l, k, h, i, o, ho => by
    simp only [lookB, Bool.and_eq_true, List.all_eq_true] at h
    cases i with
    | zero =>
      simp only [List.getElem?_cons_zero, Option.some.injEq] at ho
      subst ho
      intro d hd hb
      have := h.1 d hd
      rw [hb] at this
      simp only [Bool.not_true, Bool.false_or, List.any_eq_true, Bool.and_eq_true, Bool.or_eq_true] at this
      rcases this with ⟨e, he, h1, h2⟩ | ⟨q, hq, h1, e, he, h2, h3⟩
      · refine .inl ⟨e, by simpa using he, h1, ?_⟩
        split at h2
        · rename_i q hq
          exact ⟨q, hq, hasDst_ok h2⟩
        · cases h2
      · obtain ⟨j, hj⟩ := List.mem_iff_getElem?.1 hq
        exact .inr ⟨j, q, by simpa using hj, hasDst_ok h1, e, by simpa using he, h2, Nat.eq_of_beq_eq_true h3⟩
    | succ i =>
      rw [show k + (i + 1) = k + 1 + i by omega]
      exact lookB_ok l (k + 1) h.2 i o (by simpa using ho)
theorem statOk_ok [Th] {ops : Array Oper} (h : statOk ops = true) : StatOk ops := by
  unfold statOk at h
  rw [Bool.and_eq_true] at h
  obtain ⟨h1, h2⟩ := h
  split at h2
  · rename_i m hm
    obtain ⟨b1, b2⟩ := dstBits_ok _ _ hm
    refine ⟨fun i o ho e he hb => ?_, fun i j o q d ho hq => b2 i j o q d (by simpa using ho) (by simpa using hq), fun i j o q d ho hq hd hl => ?_⟩
    · have := lowB_ok _ _ h1 i o (by simpa using ho) e he hb
      omega
    · rcases lookB_ok _ _ h2 i o (by simpa using ho) d hl (b1 j q d (by simpa using hq) hd) with ⟨e, he, hb, q', hq', hd'⟩ | ⟨j', q', hq', hd', e, he, hb, hi⟩
      · exact .inl ⟨e, he, hb, b2 e.on j q' q d (by simpa using hq') (by simpa using hq) hd' hd⟩
      · have hj := b2 j' j q' q d (by simpa using hq') (by simpa using hq) hd' hd
        subst hj
        rw [hq] at hq'
        cases hq'
        exact .inr ⟨e, he, hb, by omega⟩
  · cases h2
theorem ancBits_ok [Th] {ops : Array Oper} {acc : List Nat} {j : Nat} {o : Oper} (ho : ops[j]? = some o) (hacc : ∀ k i, hasBit (acc.getD k 0) i = true → Anc ops i k) {i : Nat} : ∀ (l : List Edge), (∀ e ∈ l, e ∈ o.after) → hasBit (ancBits acc l) i = true → Anc ops i j
  | [], _, h => by rw [ancBits, hasBit_zero] at h; cases h
  | e :: l, hl, h => by
    unfold ancBits at h
    split at h
    · rename_i hb
      rw [hasBit_lor, hasBit_lor, Bool.or_eq_true, Bool.or_eq_true, hasBit_one] at h
      rcases h with h | h | h
      · exact .one ho (hl e (by simp)) hb h.symm
      · exact .step ho (hl e (by simp)) hb rfl (hacc _ _ h)
      · exact ancBits_ok ho hacc l (fun e he => hl e (by simp [he])) h
    · exact ancBits_ok ho hacc l (fun e he => hl e (by simp [he])) h
theorem preds_ok [Th] {ops : Array Oper} : ∀ (l : List Oper) (acc : List Nat), (∀ i, l[i]? = ops[acc.length + i]?) → (∀ k i, hasBit (acc.getD k 0) i = true → Anc ops i k) → ∀ k i, hasBit ((preds l acc).getD k 0) i = true → Anc ops i k
  | [], acc, _, h => h
  | o :: l, acc, hl, h => by
    unfold preds
    refine preds_ok l _ (fun i => ?_) fun k i hk => ?_
    · have := hl (i + 1)
      rw [List.getElem?_cons_succ] at this
      rw [this, List.length_append, List.length_singleton]
      congr 1
      omega
    · rw [List.getD_eq_getElem?_getD] at hk
      by_cases h1 : k < acc.length
      · rw [List.getElem?_append_left h1, ← List.getD_eq_getElem?_getD] at hk
        exact h k i hk
      · rw [List.getElem?_append_right (by omega)] at hk
        by_cases h2 : k = acc.length
        · subst h2
          simp only [Nat.sub_self, List.getElem?_cons_zero, Option.getD_some] at hk
          have ho := hl 0
          rw [List.getElem?_cons_zero, Nat.add_zero] at ho
          exact ancBits_ok ho.symm h _ (fun e he => by simpa using he) hk
        · rw [List.getElem?_eq_none (by simp; omega), Option.getD_none, hasBit_zero] at hk
          cases hk
theorem untouching_no {a b : Ent} (h : untouching b = true) : clash a b = false := by
  unfold untouching at h
  split at h
  · rename_i lo hi
    have hm : ∀ l : List Nat, meets l [] = false := fun l => by induction l with
      | nil => rfl
      | cons x l ih => simp [meets, memN, ih]
    have hm2 : ∀ l : List Nat, meets [] l = false := fun l => rfl
    simp [clash, hm, hm2, among]
  · cases h
theorem silentB_no {a b : Ent} (h : silentB a = true) : clash a b = false := by
  unfold silentB at h
  split at h
  · rename_i lo hi
    have e := Nat.eq_of_beq_eq_true h
    subst e
    have hm : ∀ l : List Nat, meets l [] = false := fun l => by induction l with
      | nil => rfl
      | cons x l ih => simp [meets, memN, ih]
    have hm2 : ∀ l : List Nat, meets [] l = false := fun l => rfl
    have ha : ∀ l : List Nat, among lo lo l = false := fun l => by induction l with
      | nil => rfl
      | cons x l ih =>
        unfold among
        rw [ih, Bool.or_false]
        by_cases hx : Nat.ble lo x = true
        · have := Nat.le_of_ble_eq_true hx
          rw [show Nat.blt x lo = false from by
            cases hb : Nat.blt x lo with
            | false => rfl
            | true => have := Nat.le_of_ble_eq_true (show Nat.ble (x + 1) lo = true from hb); omega]
          exact Bool.and_false _
        · rw [Bool.eq_false_iff.2 hx]; rfl
    simp [clash, hm, hm2, ha]
  · cases h
theorem freeV_ok [Th] {ps : List Nat} {k : Nat} {a : Ent} : ∀ (l : List Ent) (m : Nat), freeV ps k a m l = true → ∀ j b, l[j]? = some b → clash a b = true → hasBit (ps.getD (m + j) 0) k = true
  | [], _, _, j, b, h, _ => by simp at h
  | x :: l, m, h, j, b, hb, hc => by
    simp only [freeV, Bool.and_eq_true, Bool.or_eq_true] at h
    cases j with
    | zero =>
      simp only [List.getElem?_cons_zero, Option.some.injEq] at hb
      subst hb
      rcases h.1 with h1 | h1 | h1
      · rw [untouching_no h1] at hc; cases hc
      · rw [hc] at h1; cases h1
      · exact h1
    | succ j =>
      have := freeV_ok l (m + 1) h.2 j b (by simpa using hb) hc
      rw [show m + (j + 1) = m + 1 + j by omega]
      exact this
theorem freeL_ok [Th] {ps : List Nat} : ∀ (l : List Ent) (k : Nat), freeL ps k l = true → ∀ i j a b, i < j → l[i]? = some a → l[j]? = some b → clash a b = true → hasBit (ps.getD (k + j) 0) (k + i) = true
  | [], _, _, i, j, a, b, _, h, _, _ => by simp at h
  | x :: l, k, h, i, j, a, b, hij, ha, hb, hc => by
    simp only [freeL, Bool.and_eq_true, Bool.or_eq_true] at h
    obtain ⟨j, rfl⟩ : ∃ j', j = j' + 1 := ⟨j - 1, by omega⟩
    rw [List.getElem?_cons_succ] at hb
    cases i with
    | zero =>
      simp only [List.getElem?_cons_zero, Option.some.injEq] at ha
      subst ha
      rcases h.1 with h1 | h1
      · rw [silentB_no h1] at hc; cases hc
      · have := freeV_ok l (k + 1) h1 j b hb hc
        rw [show k + (j + 1) = k + 1 + j by omega]
        exact this
    | succ i =>
      have := freeL_ok l (k + 1) h.2 i j a b (by omega) (by simpa using ha) hb hc
      rw [show k + (j + 1) = k + 1 + j by omega, show k + (i + 1) = k + 1 + i by omega]
      exact this
theorem freeOk_ok [Th] {ops : Array Oper} {fs : List Ent} (h : freeOk ops fs = true) : StatOk ops ∧ FreeOk ops fs := by
  unfold freeOk at h
  rw [Bool.and_eq_true] at h
  refine ⟨statOk_ok h.1, fun i j a b hij ha hb hc => ?_⟩
  have := freeL_ok fs 0 h.2 i j a b hij ha hb hc
  rw [Nat.zero_add, Nat.zero_add] at this
  exact preds_ok ops.toList [] (fun i => by simp) (fun k i hk => by simp [hasBit_zero] at hk) j i this
theorem drawn_ok [Th] {P : Program} {xc : XC} (hm : P.follows .mixedOrders = true) (hcmp : CmpOk P xc) : DrawnOk P xc := by
  intro call p id ops env H e2 H2 r w fs hcall hfr h hfree ρ D G W T a Q he hp hQ
  obtain ⟨hs, hf⟩ := freeOk_ok hfree
  obtain ⟨es, Hs, vs, ft, R⟩ := aopsD_run _ _ _ h
  have hrep : ∀ i, ¬ on (Array.replicate ops.size false) i := fun i hi => by
    unfold on at hi
    by_cases hlt : i < ops.size
    · simp [hlt] at hi
    · simp [hlt] at hi
  have hu : ∀ k, k ≤ ops.size → unl (Array.replicate ops.size false) k = k := by
    intro k
    induction k with
    | zero => intro _; rfl
    | succ k ih => intro hk; rw [unl, ih (by omega)]; simp [show k < ops.size by omega]
  have hon : ∀ (L : Array Bool) (i : Nat), L.size = ops.size → i < ops.size → (L.getD i true = true ↔ on L i) := fun L i hL hi => by
    unfold on
    have : i < L.size := by omega
    simp [this]
  refine wp_region_any hm (any_of_inv (I := fun L a' w' => ∃ ρ' G' env', Inv p ops es Hs vs ft ρ D G W T a L a' w' ρ' G' env') hs.low ?_ ?_ ops.size _ a _ (by simp) (hu _ (Nat.le_refl _)) ?_)
  · rintro L a' w' i o hL ⟨ρ', G', env', I⟩ ho hb hr
    have hi := (Array.getElem?_eq_some_iff.1 ho).1
    exact I.step hcall hfr hcmp R hp hs hf hL ho (fun hn => by rw [(hon L i hL hi).2 hn] at hb; cases hb) hr
  · rintro L a' w' hL hall ⟨ρ', G', env', I⟩
    exact hQ ρ' a' w' I.defers (I.all hfr R hp hs fun i hi => (hon L i hL hi).1 (hall i hi))
  · refine ⟨ρ, G, env, fun j o _ hj => absurd hj (hrep j), fun _ _ => rfl, ?_, by rw [R.e0], fun i o d _ hi => absurd hi (hrep i), fun t _ => by rw [R.e0], ?_, fun id i _ hi => absurd hi (hrep i), fun _ _ => rfl, ?_, rfl⟩
    · rw [DL_none _ fun i _ => hrep i]; exact he
    · rw [DL_none _ fun i _ => hrep i, DL_none _ fun i _ => hrep i]; exact hp.hr.heap rfl
    · exact ⟨rfl, rfl, rfl, Nat.le_refl _, fun k hk => by omega⟩
/-- The top, with nothing left open but what the program says. -/
theorem closed_ok [Th] {P : Program} {xc : XC} {d : Nat} {f : FuncId} (hm : P.follows .mixedOrders = true) (hcmp : CmpOk P xc) (h : isTrue (acall P xc d f [] AH.empty) = true) (w : World) :
    Calls P f #[] w fun e w' => e = .returned (.bool true) ∧ Below w.heap.size w w' := closed_true hcmp (drawn_ok hm hcmp) h w
end Go.Proofs.Ytpjkbjpjhkcofaa.Ev
