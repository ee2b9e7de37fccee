/- A region that draws its order and in which some operations, each behind the one before, turn a state: walked once in the text's order; what is told of an operation stays true where the others work. No program here. -/
import Derived.Test.YtfgeffmlfbeodaaRGK
namespace Go.Proofs.Ytfgeffmlfbeodaa.RP
open Go Go.RowKit Go.Proofs.Ytfgeffmlfbeodaa.RG Go.Proofs.YtfgeffmlfbeodaaW.PrintWords Go.Proofs.YtfgeffmlfbeodaaW.PrintLast Go.Proofs.YtfgeffmlfbeodaaW.PrintMore
section
variable {P : Program} {ops : Array Oper} {Q : Exit → Act → World → Prop} {md : Region.Mode} {Rl : World → World → Prop} {ch : List Nat} {S : Nat → World → Prop}
/-- The step of one operation: one of the row turns the state on, another leaves it as it is. -/
def Part (P : Program) (md : Region.Mode) (ops : Array Oper) (ch : List Nat) (S : Nat → World → Prop) (Rl : World → World → Prop) (o : Oper) (s : Sp) (i : Nat) (b : Act) (fs : List (Nat × (World → Prop))) : Prop :=
  (∀ k, ch[k]? = some i → ∀ w, S k w → Known md o fs w → Step P ops o b w (fun v w' => s.holds v w' ∧ Rl w w' ∧ S (k + 1) w')) ∧
  (i ∉ ch → ∀ k w, S k w → Known md o fs w → Step P ops o b w (fun v w' => s.holds v w' ∧ Rl w w' ∧ S k w'))
def pW (P : Program) (md : Region.Mode) (ops : Array Oper) (ch : List Nat) (S : Nat → World → Prop) (Rl : World → World → Prop) (Q : Exit → Act → World → Prop) : List Oper → List Sp → Nat → Act → List (Nat × (World → Prop)) → Prop
  | [], _, _, b, fs => ∀ w, S ch.length w → All fs w → Q .normal b w
  | o :: rest, .exact c :: sp, i, b, fs => Part P md ops ch S Rl o (.exact c) i b fs ∧ pW P md ops ch S Rl Q rest sp (i + 1) (b.put o.dst c) fs
  | o :: rest, .ex G :: sp, i, b, fs => Part P md ops ch S Rl o (.ex G) i b fs ∧ ∀ v, pW P md ops ch S Rl Q rest sp (i + 1) (b.put o.dst v) ((i, G v) :: fs)
  | _ :: _, [], _, _, _ => False
def StableR (Rl : World → World → Prop) : List Sp → Prop
  | [] => True
  | .exact _ :: r => StableR Rl r
  | .ex G :: r => (∀ v w w', Rl w w' → G v w → G v w') ∧ StableR Rl r
theorem StableR.all : ∀ {sps : List Sp}, StableR Rl sps → ∀ s ∈ sps, ∀ v w w', Rl w w' → s.holds v w → s.holds v w'
  | .exact c :: r, h, s, hs, v, w, w', hb, hv => by
    rcases List.mem_cons.1 hs with rfl | hs
    · exact hv
    · exact StableR.all (sps := r) h s hs v w w' hb hv
  | .ex G :: r, h, s, hs, v, w, w', hb, hv => by
    rcases List.mem_cons.1 hs with rfl | hs
    · exact h.1 v w w' hb hv
    · exact StableR.all (sps := r) h.2 s hs v w w' hb hv
/-- The row of operations that turn the state: each waits for the one before. -/
def chB (md : Region.Mode) (ops : Array Oper) (m : Nat) (ch : List Nat) : Bool :=
  (ch.all fun i => decide (i < m)) && ((List.range ch.length).all fun k => match ch[k]?, ch[k + 1]? with
    | some a, some b => (match ops[b]? with | some o => dep md o a | none => false) && decide (a < b)
    | _, _ => true)
def cnt (listed : Array Bool) : List Nat → Nat
  | [] => 0
  | c :: r => if listed.getD c false = true then cnt listed r + 1 else 0
theorem cnt_le (listed : Array Bool) : ∀ ch : List Nat, cnt listed ch ≤ ch.length
  | [] => Nat.le_refl _
  | c :: r => by rw [cnt]; split <;> simp [cnt_le listed r]
theorem cnt_is {listed : Array Bool} : ∀ (ch : List Nat) (k : Nat), (∀ j c, j < k → ch[j]? = some c → listed.getD c false = true) → (∀ c, ch[k]? = some c → listed.getD c false = false) → k ≤ ch.length → cnt listed ch = k
  | [], k, _, _, hk => by simp at hk; subst hk; rfl
  | c :: r, 0, _, h2, _ => by rw [cnt, if_neg (by rw [h2 c rfl]; decide)]
  | c :: r, k + 1, h1, h2, hk => by
    rw [cnt, if_pos (h1 0 c (by omega) rfl), cnt_is r k (fun j d hj hd => h1 (j + 1) d (by omega) (by simpa using hd)) (fun d hd => h2 d (by simpa using hd)) (by simp at hk; omega)]
theorem cnt_off {listed : Array Bool} {i : Nat} : ∀ (ch : List Nat), i ∉ ch → cnt (listed.setIfInBounds i true) ch = cnt listed ch
  | [], _ => rfl
  | c :: r, h => by
    have h1 : i ≠ c := fun e => h (by rw [e]; exact List.mem_cons_self)
    rw [cnt, cnt, getD_set_ne false h1, cnt_off r fun h' => h (List.mem_cons_of_mem _ h')]
structure Inv (S : Nat → World → Prop) (md : Region.Mode) (ch : List Nat) (sps : List Sp) (ops : Array Oper) (m : Nat) (a0 : Act) (listed : Array Bool) (vals : Nat → Value) (a : Act) (w : World) : Prop where
  size : listed.size = ops.size
  asize : a.tmps.size = a0.tmps.size
  adef : a.defers = a0.defers
  base : ∀ t, (∀ i o, ops[i]? = some o → listed.getD i false = true → o.dst ≠ some t) → a.tmps[t]? = a0.tmps[t]?
  got : ∀ i o d, ops[i]? = some o → listed.getD i false = true → o.dst = some d → a.tmps[d]? = some (vals i)
  ex : ∀ i c, sps[i]? = some (.exact c) → vals i = c
  told : ∀ i s, listed.getD i false = true → sps[i]? = some s → s.holds (vals i) w
  s : S (cnt listed ch) w
  tail : ∀ t, m ≤ t → listed.getD t false = false
  down : ∀ i o j, ops[i]? = some o → listed.getD i false = true → dep md o j = true → listed.getD j false = true
theorem ch_at {m : Nat} (h : chB md ops m ch = true) {k i : Nat} (hk : ch[k]? = some i) : i < m := by
  simp only [chB, Bool.and_eq_true] at h
  have := List.all_eq_true.1 h.1 i (List.mem_of_getElem? hk)
  simpa using this
theorem ch_dep {m : Nat} (h : chB md ops m ch = true) {k a b : Nat} (ha : ch[k]? = some a) (hb : ch[k + 1]? = some b) : (∃ o, ops[b]? = some o ∧ dep md o a = true) ∧ a < b := by
  simp only [chB, Bool.and_eq_true] at h
  have := List.all_eq_true.1 h.2 k (List.mem_range.2 (List.getElem?_eq_some_iff.1 ha).1)
  simp only [ha, hb, Bool.and_eq_true, decide_eq_true_eq] at this
  obtain ⟨h1, h2⟩ := this
  split at h1
  · rename_i o ho; exact ⟨⟨o, ho, h1⟩, h2⟩
  · cases h1
theorem ch_lt {m : Nat} (h : chB md ops m ch = true) : ∀ {k j a b : Nat}, ch[k]? = some a → ch[j]? = some b → k < j → a < b := by
  intro k j
  induction j with
  | zero => intro a b _ _ h; omega
  | succ j ih =>
    intro a b ha hb hkj
    have hj : j < ch.length := by have := (List.getElem?_eq_some_iff.1 hb).1; omega
    have hc := (ch_dep h (List.getElem?_eq_getElem hj) hb).2
    rcases Nat.lt_or_ge k j with h1 | h1
    · have := ih ha (List.getElem?_eq_getElem hj) h1; omega
    · have : k = j := by omega
      subst this
      rw [List.getElem?_eq_getElem hj] at ha
      injection ha with ha
      omega
/-- Where one of the row is ready, just those before it have come up. -/
theorem cnt_on {sps : List Sp} {m : Nat} {a0 a : Act} {listed : Array Bool} {vals : Nat → Value} {w : World} (hch : chB md ops m ch = true) (inv : Inv S md ch sps ops m a0 listed vals a w) {k i : Nat} {o : Oper} (hk : ch[k]? = some i) (ho : ops[i]? = some o)
    (hun : listed.getD i false = false) (hdl : ∀ j, dep md o j = true → listed.getD j false = true) (hil : i < listed.size) : cnt listed ch = k ∧ cnt (listed.setIfInBounds i true) ch = k + 1 := by
  have hkl := (List.getElem?_eq_some_iff.1 hk).1
  have low : ∀ d j c, j + d + 1 = k → ch[j]? = some c → listed.getD c false = true := by
    intro d
    induction d with
    | zero =>
      intro j c hj hc
      have : j + 1 = k := by omega
      subst this
      obtain ⟨⟨o', ho', hd⟩, _⟩ := ch_dep hch hc hk
      rw [ho] at ho'; cases ho'
      exact hdl c hd
    | succ d ih =>
      intro j c hj hc
      have hjl : j + 1 < ch.length := by omega
      have h1 := ih (j + 1) _ (by omega) (List.getElem?_eq_getElem hjl)
      obtain ⟨⟨o', ho', hd⟩, _⟩ := ch_dep hch hc (List.getElem?_eq_getElem hjl)
      exact inv.down _ o' c ho' h1 hd
  have low' : ∀ j c, j < k → ch[j]? = some c → listed.getD c false = true := fun j c hj hc => low (k - j - 1) j c (by omega) hc
  have ne : ∀ j c, j < k → ch[j]? = some c → i ≠ c := fun j c hj hc e => by have := ch_lt hch hc hk hj; omega
  refine ⟨cnt_is ch k low' (fun c hc => by rw [hk] at hc; cases hc; exact hun) (by omega), cnt_is ch (k + 1) (fun j c hj hc => ?_) (fun c hc => ?_) (by omega)⟩
  · by_cases hjk : j = k
    · subst hjk
      rw [hk] at hc; cases hc
      simp [hil]
    · rw [getD_set_ne false (ne j c (by omega) hc)]; exact low' j c (by omega) hc
  · have hlt := ch_lt hch hk hc (by omega)
    rw [getD_set_ne false (by omega)]
    cases hl : listed.getD c false with
    | false => rfl
    | true =>
      obtain ⟨⟨o', ho', hd⟩, _⟩ := ch_dep hch hk hc
      have := inv.down _ o' i ho' hl hd
      rw [hun] at this; cases this
theorem pw_at {sps : List Sp} {a0 : Act} {vals : Nat → Value} {m : Nat} (hm : m ≤ ops.size) (hv : ∀ i c, sps[i]? = some (.exact c) → vals i = c) (h : pW P md ops ch S Rl Q (ops.toList.take m) sps 0 a0 []) :
    ∀ i, i ≤ m → pW P md ops ch S Rl Q ((ops.toList.take m).drop i) (sps.drop i) i (lex ops a0 vals i) (facts sps vals i)
  | 0, _ => h
  | i + 1, hi => by
    have ih := pw_at hm hv h i (by omega)
    have hget : ops[i]? = some (ops[i]'(by omega)) := Array.getElem?_eq_getElem (by omega)
    have hlen : i < (ops.toList.take m).length := by rw [List.length_take, Array.length_toList]; omega
    rw [List.drop_eq_getElem_cons hlen] at ih
    cases hs : sps[i]? with
    | none =>
      rw [List.drop_of_length_le (List.getElem?_eq_none_iff.1 hs)] at ih
      exact False.elim ih
    | some s =>
      obtain ⟨hl, hse⟩ := List.getElem?_eq_some_iff.1 hs
      have ho : (ops.toList.take m)[i]'hlen = ops[i]'(by omega) := by simp
      rw [List.drop_eq_getElem_cons hl, hse, ho] at ih
      rw [lex, facts, hget, hs]
      cases s with
      | exact c => rw [hv i c hs]; exact ih.2
      | ex G => exact ih.2 (vals i)
theorem pw_step {sps : List Sp} {a0 : Act} {vals : Nat → Value} {m : Nat} (hm : m ≤ ops.size) (hv : ∀ i c, sps[i]? = some (.exact c) → vals i = c) (h : pW P md ops ch S Rl Q (ops.toList.take m) sps 0 a0 []) {i : Nat} {o : Oper} (him : i < m) (hi : ops[i]? = some o) :
    ∃ s, sps[i]? = some s ∧ Part P md ops ch S Rl o s i (lex ops a0 vals i) (facts sps vals i) := by
  obtain ⟨hlt, ho⟩ := Array.getElem?_eq_some_iff.1 hi
  have ih := pw_at hm hv h i (by omega)
  have hlen : i < (ops.toList.take m).length := by rw [List.length_take, Array.length_toList]; omega
  rw [List.drop_eq_getElem_cons hlen] at ih
  rw [show (ops.toList.take m)[i]'hlen = o from by simpa using ho] at ih
  cases hs : sps[i]? with
  | none =>
    rw [List.drop_of_length_le (List.getElem?_eq_none_iff.1 hs)] at ih
    exact False.elim ih
  | some s =>
    obtain ⟨hl, hse⟩ := List.getElem?_eq_some_iff.1 hs
    rw [List.drop_eq_getElem_cons hl, hse] at ih
    refine ⟨s, rfl, ?_⟩
    cases s with
    | exact c => exact ih.1
    | ex G => exact ih.1
theorem pw_any {sps : List Sp} {a0 : Act} {n m : Nat} {Q0 : Exit → Act → World → Prop} (hok : okB md ops n m = true) (htl : tailB md ops m = true) (hn : a0.tmps.size = n) (hch : chB md ops m ch = true)
    (hG : ∀ (i : Nat) (s : Sp) (v : Value) (w w' : World), sps[i]? = some s → Rl w w' → s.holds v w → s.holds v w') (hQ : Q0 .normal = wpList P ops Q (ops.toList.drop m)) (h : pW P md ops ch S Rl Q0 (ops.toList.take m) sps 0 a0 []) :
    ∀ (u : Nat) (listed : Array Bool) (vals : Nat → Value) (a : Act) (w : World), unl listed m = u → Inv S md ch sps ops m a0 listed vals a w → wpAny P md ops Q (u + (ops.size - m)) listed a w := by
  have hle := okB_le hok
  simp only [tailB, Bool.and_eq_true] at htl
  obtain ⟨htl, hseq⟩ := htl
  have fin : ∀ (listed : Array Bool) (vals : Nat → Value) (a : Act) (w : World), Inv S md ch sps ops m a0 listed vals a w → (∀ i, i < m → listed.getD i true = true) → wpAny P md ops Q (ops.size - m) listed a w := by
    intro listed vals a w inv hall
    have hall' : ∀ i, i < m → listed.getD i false = true := fun i hi => by
      have h1 := hall i hi
      have : i < listed.size := by rw [inv.size]; omega
      simp [this] at h1 ⊢
      exact h1
    have h1 := pw_at hle inv.ex h m (Nat.le_refl _)
    rw [List.drop_of_length_le (by rw [List.length_take]; omega)] at h1
    have hcn : cnt listed ch = ch.length := cnt_is ch ch.length (fun j c _ hc => hall' c (ch_at hch hc)) (fun c hc => by rw [List.getElem?_eq_none (Nat.le_refl _)] at hc; cases hc) (Nat.le_refl _)
    have h2 := h1 w (hcn ▸ inv.s) (all_of m fun j G hj hs => inv.told j _ (hall' j hj) hs)
    have e : lex ops a0 vals m = a := by
      have et : (lex ops a0 vals m).tmps = a.tmps := by
        apply Array.ext_getElem?
        intro t
        by_cases ht : ∃ (j : Nat) (p : Oper), j < m ∧ ops[j]? = some p ∧ p.dst = some t
        · obtain ⟨j, p, hjm, hj, hd⟩ := ht
          rw [lex_got a0 vals hok hn hj hd m hjm (Nat.le_refl _), inv.got j p t hj (hall' j hjm) hd]
        · have h1 := inv.base t (fun j p hj hl hd => by
            rcases Nat.lt_or_ge j m with hjm | hjm
            · exact ht ⟨j, p, hjm, hj, hd⟩
            · rw [inv.tail j hjm] at hl; cases hl)
          rw [h1, lex_base a0 vals m fun j p hjm hj hd => ht ⟨j, p, hjm, hj, hd⟩]
      have ed : (lex ops a0 vals m).defers = a.defers := by rw [lex_defers, inv.adef]
      cases hx : lex ops a0 vals m
      cases a
      rw [hx] at et ed
      simp only at et ed
      rw [et, ed]
    rw [e, hQ] at h2
    have hL : listed = Array.replicate m true ++ Array.replicate (ops.size - m) false := by
      apply Array.ext_getElem?
      intro t
      rcases Nat.lt_or_ge t m with ht | ht
      · have h3 := hall' t ht
        have : t < listed.size := by rw [inv.size]; omega
        rw [Array.getElem?_append_left (by simpa using ht)]
        simp [this, ht] at h3 ⊢
        exact h3
      · rw [Array.getElem?_append_right (by simpa using ht)]
        have h3 := inv.tail t ht
        by_cases hts : t < ops.size
        · have : t < listed.size := by rw [inv.size]; omega
          simp [this] at h3
          rw [Array.getElem?_eq_getElem this, h3, Array.size_replicate, Array.getElem?_replicate, if_pos (by omega)]
        · rw [Array.getElem?_eq_none (by rw [inv.size]; omega), Array.getElem?_eq_none (by simp; omega)]
    have hlen : (ops.toList.drop m).length = ops.size - m := by simp
    rw [← hlen]
    refine wpAny_of_seq (ops.toList.drop m) m listed a w (fun j => by simp) ?_ h2
    rw [hlen, hL]
    exact hseq
  intro u
  induction u with
  | zero =>
    intro listed vals a w hu inv
    rw [Nat.zero_add]
    exact fin listed vals a w inv (unl_zero m hu)
  | succ u ih =>
    intro listed vals a w hu inv
    rw [show u + 1 + (ops.size - m) = (u + (ops.size - m)) + 1 by omega]
    obtain ⟨j0, hj0, hj1⟩ := unl_pos m (by omega : unl listed m ≠ 0)
    refine ⟨fun hr => ?_, fun i hi => ?_⟩
    · have := all_listed inv.size hok hr j0 hj0
      rw [this] at hj1
      cases hj1
    obtain ⟨hun, o, ho, hdeps⟩ := mem_ready.1 hi
    have hlt : i < ops.size := (Array.getElem?_eq_some_iff.1 ho).1
    have hdl : ∀ j, dep md o j = true → listed.getD j false = true := by
      intro j hj
      obtain ⟨e, he, hb⟩ := Array.any_eq_true'.1 hj
      simp only [Bool.and_eq_true, beq_iff_eq] at hb
      rw [← hb.2]
      exact hdeps e he hb.1
    have him : i < m := by
      rcases Nat.lt_or_ge i m with h' | h'
      · exact h'
      · have h1 := List.all_eq_true.1 htl i (List.mem_range.2 hlt)
        simp only [Bool.or_eq_true, decide_eq_true_eq, ho] at h1
        rcases h1 with h1 | h1
        · omega
        · have h2 := hdl j0 (List.all_eq_true.1 h1 j0 (List.mem_range.2 hj0))
          have : j0 < listed.size := by rw [inv.size]; omega
          simp [this] at h2 hj1
          rw [h2] at hj1
          cases hj1
    have ok := okB_spec hok him ho
    obtain ⟨s, hs, hst⟩ := pw_step hle inv.ex h him ho
    have hils : i < listed.size := by rw [inv.size]; exact hlt
    have hknown := known_of i fun j G _ hs hd => inv.told j _ (hdl j hd) hs
    have hunf : listed.getD i false = false := by simp [hils] at hun ⊢; exact hun
    have hstep : Step P ops o (lex ops a0 vals i) w (fun v w' => s.holds v w' ∧ Rl w w' ∧ S (cnt (listed.setIfInBounds i true) ch) w') := by
      by_cases hic : i ∈ ch
      · obtain ⟨k, hk⟩ := List.getElem?_of_mem hic
        obtain ⟨c1, c2⟩ := cnt_on hch inv hk ho hunf hdl hils
        rw [c2]
        exact hst.1 k hk w (c1 ▸ inv.s) hknown
      · rw [cnt_off ch hic]
        exact hst.2 hic _ w inv.s hknown
    have look : ∀ t, t ∈ o.looksAt ops → a.tmps[t]? = (lex ops a0 vals i).tmps[t]? := by
      intro t ht
      by_cases hex : ∃ (j : Nat) (p : Oper), j < m ∧ ops[j]? = some p ∧ p.dst = some t
      · obtain ⟨j, p, hjm, hj, hd⟩ := hex
        obtain ⟨h1, h2⟩ := ok.look j p t hjm hj hd ht
        rw [inv.got j p t hj (hdl j h1) hd, lex_got a0 vals hok hn hj hd i h2 (by omega)]
      · have h1 := inv.base t (fun j p hj hl hd => by
          rcases Nat.lt_or_ge j m with hjm | hjm
          · exact hex ⟨j, p, hjm, hj, hd⟩
          · rw [inv.tail j hjm] at hl; cases hl)
        rw [h1, lex_base a0 vals i fun j p hjm hj hd => hex ⟨j, p, by omega, hj, hd⟩]
    have he : ∀ x ∈ o.op.operands, a.eval x = (lex ops a0 vals i).eval x := fun x hx => eval_eq fun t ht => look t (by
      subst ht
      exact List.mem_append_left _ (List.mem_filterMap.2 ⟨.tmp t, by simpa using hx, rfl⟩))
    have hw : Region.wanted o (yielded ops a.tmps) = Region.wanted o (yielded ops (lex ops a0 vals i).tmps) := by
      unfold Region.wanted
      cases hg : o.guard with
      | none => rfl
      | some gw =>
        obtain ⟨g, want⟩ := gw
        have hy : yielded ops a.tmps g = yielded ops (lex ops a0 vals i).tmps g := by
          unfold yielded
          cases ht : (ops[g]?).bind (·.dst) with
          | none => rfl
          | some t =>
            have := look t (by simp [Oper.looksAt, hg, ht])
            simp [this]
        simp only [hy]
    have key : if Region.wanted o (yielded ops a.tmps) = true then Oper.wp P o a w (wpAny P md ops Q (u + (ops.size - m)) (listed.setIfInBounds i true)) Q else wpAny P md ops Q (u + (ops.size - m)) (listed.setIfInBounds i true) (a.put o.dst undef) w := by
      refine Step.to ok.sel (by rw [inv.asize, lex_size]) he hw hstep (fun v w' hD => ?_)
      refine ih _ (fun j => if j = i then v else vals j) _ w' (by have := unl_set hils hun m him; omega) ?_
      have lset : ∀ j, (listed.setIfInBounds i true).getD j false = true → j ≠ i → listed.getD j false = true := fun j hj hne => by rwa [getD_set_ne false (Ne.symm hne)] at hj
      have lm : ∀ j, listed.getD j false = true → j < m := fun j hj => by
        rcases Nat.lt_or_ge j m with hjm | hjm
        · exact hjm
        · rw [inv.tail j hjm] at hj; cases hj
      refine ⟨by simp [inv.size], by rw [put_size, inv.asize], by rw [put_defers, inv.adef], fun t ht => ?_, fun j p d hj hl hd => ?_, fun j c hc => ?_, fun j s' hl hs' => ?_, hD.2.2, fun t ht => by rw [getD_set_ne false (by omega)]; exact inv.tail t ht, fun j p q hj hl hd => ?_⟩
      · rw [put_get_ne (ht i o ho (by simp [hils])), inv.base t fun j p hj hl => ht j p hj (getD_set_true hl)]
      · by_cases hji : j = i
        · subst hji
          rw [ho] at hj
          cases hj
          rw [if_pos rfl, hd]
          exact put_get (by rw [inv.asize, hn]; exact ok.rng d hd)
        · rw [if_neg hji, put_get_ne (ok.one j p d (lm j (lset j hl hji)) hj hd hji)]
          exact inv.got j p d hj (lset j hl hji) hd
      · by_cases hji : j = i
        · subst hji
          rw [if_pos rfl]
          rw [hs] at hc
          cases hc
          exact hD.1
        · simp only [if_neg hji]; exact inv.ex j c hc
      · by_cases hji : j = i
        · subst hji
          simp only [if_pos]
          rw [hs] at hs'
          cases hs'
          exact hD.1
        · simp only [if_neg hji]
          exact hG j s' _ w w' hs' hD.2.1 (inv.told j s' (lset j hl hji) hs')
      · have hq : listed.getD q false = true := by
          by_cases hji : j = i
          · subst hji; rw [ho] at hj; cases hj; exact hdl q hd
          · exact inv.down j p q hj (lset j hl hji) hd
        by_cases hqi : i = q
        · subst hqi; simp [hils]
        · rw [getD_set_ne false hqi]; exact hq
    unfold wpOp
    simp only [ho]
    split
    · rename_i hwt
      rw [if_pos hwt] at key
      exact .inl key
    · rename_i hwt
      rw [if_neg hwt] at key
      exact key
/-- THE LAW, with a tail. -/
theorem regionT {id : Nat} {a0 : Act} {w : World} (n m : Nat) (ch : List Nat) (S : Nat → World → Prop) (Rl : World → World → Prop) (sps : List Sp) (hm : P.follows .mixedOrders = true) (hok : okB .any ops n m = true) (htl : tailB .any ops m = true) (hch : chB .any ops m ch = true) (hn : a0.tmps.size = n)
    (hG : StableR Rl sps) (h0 : S 0 w.drew) (h : pW P .any ops ch S Rl (fun _ => wpList P ops Q (ops.toList.drop m)) (ops.toList.take m) sps 0 a0 []) :
    (Code.region id ops true).wp P Q a0 w := by
  have hle := okB_le hok
  have hu : ∀ k, k ≤ ops.size → unl (Array.replicate ops.size false) k = k := by
    intro k
    induction k with
    | zero => intro _; rfl
    | succ k ih => intro hk; rw [unl, ih (by omega)]; simp [show k < ops.size by omega]
  have hf : ∀ i, (Array.replicate ops.size false).getD i false = false := fun i => by
    by_cases hi : i < ops.size
    · simp [hi]
    · simp [hi]
  refine wp_region_any hm ?_
  have := pw_any (Q := Q) hok htl hn hch (fun i s v w w' hs => hG.all s (List.mem_of_getElem? hs) v w w') rfl h m _ (fun i => match sps[i]? with | some (.exact c) => c | _ => undef) a0 w.drew (hu m hle) ?_
  · rw [show m + (ops.size - m) = ops.size by omega] at this
    exact this
  · have hc0 : cnt (Array.replicate ops.size false) ch = 0 := cnt_is ch 0 (fun j c hj _ => by omega) (fun c _ => hf c) (Nat.zero_le _)
    refine ⟨by simp, rfl, rfl, fun _ _ => rfl, fun i o d _ hl => ?_, fun i c hc => by simp [hc], fun i s hl => ?_, by rw [hc0]; exact h0, fun t _ => hf t, fun i o j _ hl => ?_⟩
    · rw [hf] at hl; cases hl
    · rw [hf] at hl; cases hl
    · rw [hf] at hl; cases hl
end
section
variable {P : Program} {ops : Array Oper} {Q : Exit → Act → World → Prop} {md : Region.Mode} {Rl : World → World → Prop} {ch : List Nat} {S : Nat → World → Prop}
/-- An operation that does nothing but yield its value. -/
theorem pW.just {o : Oper} {rest : List Oper} {c : Value} {sp : List Sp} {i : Nat} {b b' : Act} {fs : List (Nat × (World → Prop))} (hoff : i ∉ ch) (hR : ∀ w, Rl w w) (hy : Yields P ops o c b) (hb : b.put o.dst c = b') (h : pW P md ops ch S Rl Q rest sp (i + 1) b' fs) :
    pW P md ops ch S Rl Q (o :: rest) (.exact c :: sp) i b fs := by
  subst hb
  refine ⟨⟨fun k hk => absurd (List.mem_of_getElem? hk) hoff, fun _ k w hS _ K hK => ?_⟩, h⟩
  rcases hy with ⟨hw, hv⟩ | ⟨hw, rfl⟩
  · rw [if_pos hw]; unfold Oper.wp; rw [hv w]; exact hK c w ⟨rfl, hR _, hS⟩
  · rw [if_neg (by rw [hw]; decide)]; exact hK undef w ⟨rfl, hR _, hS⟩
theorem pW.read {o : Oper} {rest : List Oper} {c : Value} {sp : List Sp} {i : Nat} {b b' : Act} {fs : List (Nat × (World → Prop))} (hoff : i ∉ ch) (hR : ∀ w, Rl w w) (hw : Region.wanted o (yielded ops b.tmps) = true)
    (hy : ∀ k w, S k w → Known md o fs w → (execOp b.eval o).run P w = .ok (.value c) w) (hb : b.put o.dst c = b') (h : pW P md ops ch S Rl Q rest sp (i + 1) b' fs) :
    pW P md ops ch S Rl Q (o :: rest) (.exact c :: sp) i b fs := by
  subst hb
  refine ⟨⟨fun k hk => absurd (List.mem_of_getElem? hk) hoff, fun _ k w hS hK K hK' => ?_⟩, h⟩
  rw [if_pos hw]; unfold Oper.wp; rw [hy k w hS hK]; exact hK' c w ⟨rfl, hR _, hS⟩
theorem pW.told {G : Value → World → Prop} {o : Oper} {rest : List Oper} {sp : List Sp} {i : Nat} {b : Act} {b' : Value → Act} {fs : List (Nat × (World → Prop))} (hoff : i ∉ ch) (hb : ∀ v, b.put o.dst v = b' v)
    (h1 : ∀ k w, S k w → Known md o fs w → ∀ K : Act → World → Prop, (∀ v w', G v w' → Rl w w' → S k w' → K (b.put o.dst v) w') → if Region.wanted o (yielded ops b.tmps) = true then Oper.wp P o b w K NoQ else K (b.put o.dst undef) w)
    (h : ∀ v, pW P md ops ch S Rl Q rest sp (i + 1) (b' v) ((i, G v) :: fs)) : pW P md ops ch S Rl Q (o :: rest) (.ex G :: sp) i b fs := by
  refine ⟨⟨fun k hk => absurd (List.mem_of_getElem? hk) hoff, fun _ k w hS hK K hK' => h1 k w hS hK K (fun v w' hg hr hs => hK' v w' ⟨hg, hr, hs⟩)⟩, fun v => ?_⟩
  rw [hb v]; exact h v
theorem pW.conv {o : Oper} {rest : List Oper} {sp : List Sp} {i : Nat} {b b' : Act} {fs : List (Nat × (World → Prop))} {xs : List Int} {src dst e : TypeId} {x : Operand} {v c : Value} (hoff : i ∉ ch) (hR : ∀ w, Rl w w) (hw : Region.wanted o (yielded ops b.tmps) = true)
    (ho : o.op = .convert src dst x) (hx : b.eval x = v) (hs : P.underlying src = some (.slice e)) (he : P.underlying e = some (.int .u8)) (hd : P.underlying dst = some .string)
    (hcv : c = .string (strOfNums xs)) (hk : ∀ k w, S k w → Known md o fs w → Row xs v w) (hb : b.put o.dst c = b') (h : pW P md ops ch S Rl Q rest sp (i + 1) b' fs) :
    pW P md ops ch S Rl Q (o :: rest) (.exact c :: sp) i b fs := by
  subst hcv
  refine pW.read hoff hR hw (fun k w hS hK => ?_) hb h
  obtain ⟨A, c, rfl, hc, hC⟩ := hk k w hS hK
  have := Kd.C_string (P := P) (c := c) hs he hd hC
  simp only [execOp, ho, hx]
  rw [Sem.run_bind, this]
  rfl
theorem goesV_ {Q : Exit → Act → World → Prop} {oi : Oper} {N : Option Tmp} {a : Act} {w : World} {K : Act → World → Prop} {f : FuncId} {fn : Func} {x : Operand} {bound : Array Value} (hf : P.funcs[f]? = some fn) (hname : (fn.name == "runtime.NumGoroutine") = false) (hb : fn.body.isSome = true)
    (hw : Region.wanted oi (yielded ops a.tmps) = true) (hN : oi.dst = N) (hop : oi.op = .call { callee := .value x, args := #[], argTypes := #[] }) (hx : a.eval x = .func (.func f) bound #[])
    (h : Calls P f bound w fun e w' => ∃ v, e = .returned v ∧ K (a.put N v) w') : if Region.wanted oi (yielded ops a.tmps) = true then Oper.wp P oi a w K Q else K (a.put N undef) w := by
  refine call_ f bound hw hN ?_ h
  have he := enters_ hf hname hb bound w
  unfold execOp
  simp [hop, resolve, Deferred.ofValue, invoke, hx, he]
/-- A call of a bound function that turns the state on. -/
theorem pW.turn {G : Value → World → Prop} {o : Oper} {rest : List Oper} {sp : List Sp} {i : Nat} {b : Act} {b' : Value → Act} {fs : List (Nat × (World → Prop))} {f : FuncId} {fn : Func} {x : Operand} {bound : Array Value} (k0 : Nat) (hnd : ch.Nodup) (h0 : ch[k0]? = some i)
    (hf : P.funcs[f]? = some fn) (hname : (fn.name == "runtime.NumGoroutine") = false) (hbody : fn.body.isSome = true) (hw : Region.wanted o (yielded ops b.tmps) = true)
    (hop : o.op = .call { callee := .value x, args := #[], argTypes := #[] }) (hx : b.eval x = .func (.func f) bound #[])
    (hc : ∀ w, S k0 w → Known md o fs w → Calls P f bound w fun e w' => ∃ v, e = .returned v ∧ G v w' ∧ Rl w w' ∧ S (k0 + 1) w')
    (hb : ∀ v, b.put o.dst v = b' v) (h : ∀ v, pW P md ops ch S Rl Q rest sp (i + 1) (b' v) ((i, G v) :: fs)) : pW P md ops ch S Rl Q (o :: rest) (.ex G :: sp) i b fs := by
  refine ⟨⟨fun k hk' w hS hK K hKK => ?_, fun hn => absurd (List.mem_of_getElem? h0) hn⟩, fun v => by rw [hb v]; exact h v⟩
  have e : k0 = k := (List.getElem?_inj (List.getElem?_eq_some_iff.1 h0).1 hnd).1 (h0.trans hk'.symm)
  subst e
  refine goesV_ hf hname hbody hw rfl hop hx ((hc w hS hK).mono ?_)
  rintro e w' ⟨v, rfl, hg, hr, hs⟩
  exact ⟨v, rfl, hKK v w' ⟨hg, hr, hs⟩⟩
theorem pW.turnx {c d : Value} {o : Oper} {rest : List Oper} {sp : List Sp} {i : Nat} {b b' : Act} {fs : List (Nat × (World → Prop))} {f : FuncId} {fn : Func} {x : Operand} {bound : Array Value} (k0 : Nat) (hnd : ch.Nodup) (h0 : ch[k0]? = some i)
    (hf : P.funcs[f]? = some fn) (hname : (fn.name == "runtime.NumGoroutine") = false) (hbody : fn.body.isSome = true) (hw : Region.wanted o (yielded ops b.tmps) = true)
    (hop : o.op = .call { callee := .value x, args := #[], argTypes := #[] }) (hx : b.eval x = .func (.func f) bound #[])
    (hc : ∀ w, S k0 w → Known md o fs w → Calls P f bound w fun e w' => e = .returned d ∧ Rl w w' ∧ S (k0 + 1) w')
    (hcv : c = d) (hb : b.put o.dst c = b') (h : pW P md ops ch S Rl Q rest sp (i + 1) b' fs) : pW P md ops ch S Rl Q (o :: rest) (.exact c :: sp) i b fs := by
  subst hb
  subst hcv
  refine ⟨⟨fun k hk' w hS hK K hKK => ?_, fun hn => absurd (List.mem_of_getElem? h0) hn⟩, h⟩
  have e : k0 = k := (List.getElem?_inj (List.getElem?_eq_some_iff.1 h0).1 hnd).1 (h0.trans hk'.symm)
  subst e
  refine goesV_ hf hname hbody hw rfl hop hx ((hc w hS hK).mono ?_)
  rintro e w' ⟨rfl, hr, hs⟩
  exact ⟨c, rfl, hKK c w' ⟨rfl, hr, hs⟩⟩
theorem step_yield {Q : Exit → Act → World → Prop} {K : Act → World → Prop} {o : Oper} {b : Act} {w : World} {c : Value} (hw : Region.wanted o (yielded ops b.tmps) = true) (h : (execOp b.eval o).run P w = .ok (.value c) w) (hK : K (b.put o.dst c) w) :
    if Region.wanted o (yielded ops b.tmps) = true then Oper.wp P o b w K Q else K (b.put o.dst undef) w := by
  rw [if_pos hw]; unfold Oper.wp; rw [h]; exact hK
/-- A call of a function that turns the state on. -/
theorem pW.turnf {G : Value → World → Prop} {o : Oper} {rest : List Oper} {sp : List Sp} {i : Nat} {b : Act} {b' : Value → Act} {fs : List (Nat × (World → Prop))} {f : FuncId} {fn : Func} {as : Array Operand} {ts : Array TypeId} (k0 : Nat) (hnd : ch.Nodup) (h0 : ch[k0]? = some i) (args : Array Value)
    (hf : P.funcs[f]? = some fn) (hname : (fn.name == "runtime.NumGoroutine") = false) (hbody : fn.body.isSome = true) (hw : Region.wanted o (yielded ops b.tmps) = true)
    (hop : o.op = .call { callee := .value (.func f), args := as, argTypes := ts }) (hargs : as.map b.eval = args)
    (hc : ∀ w, S k0 w → Known md o fs w → Calls P f args w fun e w' => ∃ v, e = .returned v ∧ G v w' ∧ Rl w w' ∧ S (k0 + 1) w')
    (hb : ∀ v, b.put o.dst v = b' v) (h : ∀ v, pW P md ops ch S Rl Q rest sp (i + 1) (b' v) ((i, G v) :: fs)) : pW P md ops ch S Rl Q (o :: rest) (.ex G :: sp) i b fs := by
  refine ⟨⟨fun k hk' w hS hK K hKK => ?_, fun hn => absurd (List.mem_of_getElem? h0) hn⟩, fun v => by rw [hb v]; exact h v⟩
  have e : k0 = k := (List.getElem?_inj (List.getElem?_eq_some_iff.1 h0).1 hnd).1 (h0.trans hk'.symm)
  subst e
  refine goes_ hf hname hbody args hw rfl hop hargs ((hc w hS hK).mono ?_)
  rintro e w' ⟨v, rfl, hg, hr, hs⟩
  exact ⟨v, rfl, hKK v w' ⟨hg, hr, hs⟩⟩
/-- A store that turns the state on. -/
theorem pW.put {o : Oper} {rest : List Oper} {sp : List Sp} {i : Nat} {b : Act} {fs : List (Nat × (World → Prop))} (k0 : Nat) (hnd : ch.Nodup) (h0 : ch[k0]? = some i) (hw : Region.wanted o (yielded ops b.tmps) = true) (hN : o.dst = none)
    (hy : ∀ w, S k0 w → Known md o fs w → ∃ w1, (execOp b.eval o).run P w = .ok .skip w1 ∧ Rl w w1 ∧ S (k0 + 1) w1) (h : pW P md ops ch S Rl Q rest sp (i + 1) b fs) : pW P md ops ch S Rl Q (o :: rest) (.exact undef :: sp) i b fs := by
  refine ⟨⟨fun k hk' w hS hK K hKK => ?_, fun hn => absurd (List.mem_of_getElem? h0) hn⟩, by rw [hN]; exact h⟩
  have e : k0 = k := (List.getElem?_inj (List.getElem?_eq_some_iff.1 h0).1 hnd).1 (h0.trans hk'.symm)
  subst e
  obtain ⟨w1, hr, hl, hs⟩ := hy w hS hK
  rw [if_pos hw]; unfold Oper.wp; rw [hr]
  exact hKK undef w1 ⟨rfl, hl, hs⟩
end
end Go.Proofs.Ytfgeffmlfbeodaa.RP
