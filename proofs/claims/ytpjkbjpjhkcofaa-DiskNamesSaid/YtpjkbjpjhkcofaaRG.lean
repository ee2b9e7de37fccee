/- A region that draws its order, walked once in the text's order: each operation is shown to leave what is told of it in every world in which what it waits for is told; what is told stays true where memory grows. No program here. -/
import Derived.OrdersHeld
import Derived.Below
import Derived.StillTail
namespace Go.Proofs.Ytpjkbjpjhkcofaa.RG
open Go Go.RowKit
section
variable {P : Program} {ops : Array Oper} {Q : Exit → Act → World → Prop} {md : Region.Mode}
def NoQ : Exit → Act → World → Prop := fun _ _ _ => False
/-- One operation in a frame and a world: each value and world that it may leave meets D. -/
def Step (P : Program) (ops : Array Oper) (o : Oper) (b : Act) (w : World) (D : Value → World → Prop) : Prop :=
  ∀ K : Act → World → Prop, (∀ v w', D v w' → K (b.put o.dst v) w') → if Region.wanted o (yielded ops b.tmps) = true then Oper.wp P o b w K NoQ else K (b.put o.dst undef) w
theorem put_size (a : Act) (x : Option Tmp) (v : Value) : (a.put x v).tmps.size = a.tmps.size := by cases x <;> simp [Act.put]
theorem put_defers (a : Act) (x : Option Tmp) (v : Value) : (a.put x v).defers = a.defers := by cases x <;> rfl
theorem put_of {a b : Act} {x : Option Tmp} {u v : Value} (hs : a.tmps.size = b.tmps.size) (h : b.put x u = b.put x v) : a.put x u = a.put x v := by
  cases x with
  | none => rfl
  | some d =>
    by_cases hd : d < b.tmps.size
    · have h1 : b.tmps.setIfInBounds d u = b.tmps.setIfInBounds d v := congrArg Act.tmps h
      have h2 : (b.tmps.setIfInBounds d u)[d]? = (b.tmps.setIfInBounds d v)[d]? := by rw [h1]
      rw [Array.getElem?_setIfInBounds_self_of_lt hd, Array.getElem?_setIfInBounds_self_of_lt hd] at h2
      rw [Option.some.inj h2]
    · have e : ∀ z : Value, a.tmps.setIfInBounds d z = a.tmps := fun z => Array.setIfInBounds_eq_of_size_le (hs ▸ Nat.not_lt.1 hd)
      simp only [Act.put, e]
theorem Step.to {o : Oper} {a b : Act} {w : World} {D : Value → World → Prop} {K : Act → World → Prop} (hsel : ∀ cs x, o.op ≠ .select cs x) (hsz : a.tmps.size = b.tmps.size) (he : ∀ x ∈ o.op.operands, a.eval x = b.eval x)
    (hw : Region.wanted o (yielded ops a.tmps) = Region.wanted o (yielded ops b.tmps)) (h : Step P ops o b w D) (hK : ∀ v w', D v w' → K (a.put o.dst v) w') :
    if Region.wanted o (yielded ops a.tmps) = true then Oper.wp P o a w K Q else K (a.put o.dst undef) w := by
  have h1 := h (fun b' w' => ∃ v, b' = b.put o.dst v ∧ D v w') (fun v w' hd => ⟨v, rfl, hd⟩)
  rw [hw]
  split at h1
  · rename_i hwt
    rw [if_pos hwt]
    unfold Oper.wp at *
    rw [execOp_congr o hsel he]
    generalize (execOp b.eval o).run P w = r at *
    cases r with
    | ok n w' =>
      cases n <;> simp only [Oper.upon] at h1 ⊢
      case value u => obtain ⟨v, hv, hd⟩ := h1; rw [put_of hsz hv]; exact hK v w' hd
      case skip => obtain ⟨v, hv, hd⟩ := h1; rw [put_of hsz hv]; exact hK v w' hd
      case defer d =>
        obtain ⟨v, hv, _⟩ := h1
        have := congrArg Act.defers hv
        rw [put_defers, put_defers] at this
        have := congrArg List.length this
        simp at this
      case enter f args =>
        refine Calls.mono h1 fun e w'' he => ?_
        cases e with
        | returned u => obtain ⟨v, hv, hd⟩ := he; show K (a.put o.dst u) w''; rw [put_of hsz hv]; exact hK v w'' hd
        | panicked c => exact False.elim he
        | outgrown => obtain ⟨_, _, h⟩ := he; exact False.elim h
      case row row args => exact Rows.mono h1 fun u w'' he => by obtain ⟨v, hv, hd⟩ := he; rw [put_of hsz hv]; exact hK v w'' hd
    | halt x w' => cases x <;> simp only [Oper.upon] at h1 ⊢; case panic u => exact False.elim h1
  · rename_i hwt
    rw [if_neg hwt]
    obtain ⟨v, hv, hd⟩ := h1
    rw [put_of hsz hv]; exact hK v w hd
/-- What is told of an operation's value. -/
inductive Sp where
  | ex (G : Value → World → Prop)
  | exact (c : Value)
def Sp.holds : Sp → Value → World → Prop
  | .ex G => G
  | .exact c => fun v _ => v = c
def dep (md : Region.Mode) (o : Oper) (j : Nat) : Bool := o.after.any fun e => Region.binds md e && e.on == j
def Known (md : Region.Mode) (o : Oper) : List (Nat × (World → Prop)) → World → Prop
  | [], _ => True
  | (j, f) :: r, w => (dep md o j = true → f w) ∧ Known md o r w
def All : List (Nat × (World → Prop)) → World → Prop
  | [], _ => True
  | (_, f) :: r, w => f w ∧ All r w
/-- The walk in the text's order. -/
def rgW (P : Program) (md : Region.Mode) (ops : Array Oper) (S : World → Prop) (Q : Exit → Act → World → Prop) : List Oper → List Sp → Nat → Act → List (Nat × (World → Prop)) → Prop
  | [], _, _, b, fs => ∀ w, S w → All fs w → Q .normal b w
  | o :: rest, .exact c :: sp, i, b, fs => (∀ w, S w → Known md o fs w → Step P ops o b w (fun v w' => v = c ∧ Below w.heap.size w w')) ∧ rgW P md ops S Q rest sp (i + 1) (b.put o.dst c) fs
  | o :: rest, .ex G :: sp, i, b, fs => (∀ w, S w → Known md o fs w → Step P ops o b w (fun v w' => G v w' ∧ Below w.heap.size w w')) ∧ ∀ v, rgW P md ops S Q rest sp (i + 1) (b.put o.dst v) ((i, G v) :: fs)
  | _ :: _, [], _, _, _ => False
/-- What is told stays true where memory grows. -/
def Stable : List Sp → Prop
  | [] => True
  | .exact _ :: r => Stable r
  | .ex G :: r => (∀ v w w', Below w.heap.size w w' → G v w → G v w') ∧ Stable r
theorem rg_normal {S : World → Prop} : ∀ (l : List Oper) (sps : List Sp) (i : Nat) (b : Act) (fs : List (Nat × (World → Prop))), rgW P md ops S Q l sps i b fs → rgW P md ops S (fun _ => Q .normal) l sps i b fs
  | [], _, _, _, _, h => h
  | _ :: rest, .exact _ :: sp, _, _, _, h => ⟨h.1, rg_normal rest sp _ _ _ h.2⟩
  | _ :: rest, .ex _ :: sp, _, _, _, h => ⟨h.1, fun v => rg_normal rest sp _ _ _ (h.2 v)⟩
  | _ :: _, [], _, _, _, h => h
theorem Stable.all : ∀ {sps : List Sp}, Stable sps → ∀ s ∈ sps, ∀ v w w', Below w.heap.size w w' → s.holds v w → s.holds v w'
  | .exact c :: r, h, s, hs, v, w, w', hb, hv => by
    rcases List.mem_cons.1 hs with rfl | hs
    · exact hv
    · exact Stable.all (sps := r) h s hs v w w' hb hv
  | .ex G :: r, h, s, hs, v, w, w', hb, hv => by
    rcases List.mem_cons.1 hs with rfl | hs
    · exact h.1 v w w' hb hv
    · exact Stable.all (sps := r) h.2 s hs v w w' hb hv
def okB (md : Region.Mode) (ops : Array Oper) (n m : Nat) : Bool :=
  decide (m ≤ ops.size) && (List.range m).all fun i => match ops[i]? with
    | none => false
    | some o => (match o.op with | .select .. => false | _ => true) && (match o.dst with | some d => decide (d < n) | none => true) && (o.after.all fun e => !Region.binds md e || decide (e.on < i)) &&
      ((List.range m).all fun j => match ops[j]? with
        | none => false
        | some p => match p.dst with
          | none => true
          | some d => (j == i || o.dst != some d) && (!(o.looksAt ops).contains d || (dep md o j && decide (j < i))))
structure Ok (md : Region.Mode) (ops : Array Oper) (n m i : Nat) (o : Oper) : Prop where
  sel : ∀ cs x, o.op ≠ .select cs x
  rng : ∀ d, o.dst = some d → d < n
  low : ∀ e ∈ o.after, Region.binds md e = true → e.on < i
  one : ∀ j p d, j < m → ops[j]? = some p → p.dst = some d → j ≠ i → o.dst ≠ some d
  look : ∀ j p d, j < m → ops[j]? = some p → p.dst = some d → d ∈ o.looksAt ops → dep md o j = true ∧ j < i
theorem okB_le {n m : Nat} (h : okB md ops n m = true) : m ≤ ops.size := by
  simp only [okB, Bool.and_eq_true, decide_eq_true_eq] at h
  exact h.1
theorem okB_spec {n m : Nat} (h : okB md ops n m = true) {i : Nat} {o : Oper} (him : i < m) (hi : ops[i]? = some o) : Ok md ops n m i o := by
  simp only [okB, Bool.and_eq_true, decide_eq_true_eq] at h
  have h1 := List.all_eq_true.1 h.2 i (List.mem_range.2 him)
  simp only [hi, Bool.and_eq_true] at h1
  obtain ⟨⟨⟨h2, h3⟩, h4⟩, h5⟩ := h1
  have h6 : ∀ j p d, j < m → ops[j]? = some p → p.dst = some d → (j == i || o.dst != some d) = true ∧ (!(o.looksAt ops).contains d || (dep md o j && decide (j < i))) = true := by
    intro j p d hjm hj hd
    have := List.all_eq_true.1 h5 j (List.mem_range.2 hjm)
    simp only [hj, hd, Bool.and_eq_true] at this
    exact this
  refine ⟨fun cs x hc => ?_, fun d hd => ?_, fun e he hb => ?_, fun j p d hjm hj hd hne => ?_, fun j p d hjm hj hd hl => ?_⟩
  · rw [hc] at h2; cases h2
  · rw [hd] at h3; simpa using h3
  · have := Array.all_eq_true_iff_forall_mem.1 h4 e he
    simpa [hb] using this
  · have := (h6 j p d hjm hj hd).1
    simp at this
    exact this.resolve_left hne
  · have := (h6 j p d hjm hj hd).2
    simp [hl] at this
    exact this
def lex (ops : Array Oper) (a0 : Act) (vals : Nat → Value) : Nat → Act
  | 0 => a0
  | i + 1 => (lex ops a0 vals i).put ((ops[i]?).bind (·.dst)) (vals i)
def facts (sps : List Sp) (vals : Nat → Value) : Nat → List (Nat × (World → Prop))
  | 0 => []
  | i + 1 => match sps[i]? with
    | some (.ex G) => (i, G (vals i)) :: facts sps vals i
    | _ => facts sps vals i
theorem lex_size (a0 : Act) (vals : Nat → Value) (i : Nat) : (lex ops a0 vals i).tmps.size = a0.tmps.size := by
  induction i with
  | zero => rfl
  | succ i ih => rw [lex, put_size, ih]
theorem lex_defers (a0 : Act) (vals : Nat → Value) (i : Nat) : (lex ops a0 vals i).defers = a0.defers := by
  induction i with
  | zero => rfl
  | succ i ih => rw [lex, put_defers, ih]
theorem put_get_ne {a : Act} {x : Option Tmp} {v : Value} {t : Nat} (h : x ≠ some t) : (a.put x v).tmps[t]? = a.tmps[t]? := by
  cases x with
  | none => rfl
  | some d => exact Array.getElem?_setIfInBounds_ne (fun e => h (by rw [e]))
theorem put_get {a : Act} {v : Value} {t : Nat} (h : t < a.tmps.size) : (a.put (some t) v).tmps[t]? = some v := Array.getElem?_setIfInBounds_self_of_lt h
theorem lex_base (a0 : Act) (vals : Nat → Value) {t : Nat} (i : Nat) (h : ∀ j p, j < i → ops[j]? = some p → p.dst ≠ some t) : (lex ops a0 vals i).tmps[t]? = a0.tmps[t]? := by
  induction i with
  | zero => rfl
  | succ i ih =>
    rw [lex, put_get_ne, ih (fun j p hj => h j p (by omega))]
    cases hi : ops[i]? with
    | none => simp
    | some p => simpa using h i p (by omega) hi
theorem lex_got (a0 : Act) (vals : Nat → Value) {n m : Nat} (hok : okB md ops n m = true) (hn : a0.tmps.size = n) {j : Nat} {p : Oper} {d : Nat} (hj : ops[j]? = some p) (hd : p.dst = some d) (i : Nat) (hji : j < i) (him : i ≤ m) : (lex ops a0 vals i).tmps[d]? = some (vals j) := by
  induction i with
  | zero => omega
  | succ i ih =>
    by_cases hij : j = i
    · subst hij
      rw [lex, hj]
      simp only [Option.bind_some, hd]
      exact put_get (by rw [lex_size, hn]; exact (okB_spec hok (by omega) hj).rng d hd)
    · rw [lex, put_get_ne, ih (by omega) (by omega)]
      cases hi : ops[i]? with
      | none => simp
      | some q => simpa using (okB_spec hok (by omega) hi).one j p d (by omega) hj hd hij
theorem rg_at {S : World → Prop} {sps : List Sp} {a0 : Act} {vals : Nat → Value} {m : Nat} (hm : m ≤ ops.size) (hv : ∀ i c, sps[i]? = some (.exact c) → vals i = c) (h : rgW P md ops S Q (ops.toList.take m) sps 0 a0 []) :
    ∀ i, i ≤ m → rgW P md ops S Q ((ops.toList.take m).drop i) (sps.drop i) i (lex ops a0 vals i) (facts sps vals i)
  | 0, _ => h
  | i + 1, hi => by
    have ih := rg_at hm hv h i (by omega)
    have hget : ops[i]? = some (ops[i]'(by omega)) := Array.getElem?_eq_getElem (by omega)
    have hlen : i < (ops.toList.take m).length := by rw [List.length_take, Array.length_toList]; omega
    rw [List.drop_eq_getElem_cons hlen] at ih
    cases hs : sps[i]? with
    | none =>
      rw [List.drop_of_length_le (List.getElem?_eq_none_iff.1 hs)] at ih
      exact False.elim ih
    | some s =>
      obtain ⟨hl, hse⟩ := List.getElem?_eq_some_iff.1 hs
      have ho : (ops.toList.take m)[i]'hlen = ops[i]'(by omega) := by simp
      rw [List.drop_eq_getElem_cons hl, hse, ho] at ih
      rw [lex, facts, hget, hs]
      cases s with
      | exact c => rw [hv i c hs]; exact ih.2
      | ex G => exact ih.2 (vals i)
theorem rg_step {S : World → Prop} {sps : List Sp} {a0 : Act} {vals : Nat → Value} {m : Nat} (hm : m ≤ ops.size) (hv : ∀ i c, sps[i]? = some (.exact c) → vals i = c) (h : rgW P md ops S Q (ops.toList.take m) sps 0 a0 []) {i : Nat} {o : Oper} (him : i < m) (hi : ops[i]? = some o) :
    ∃ s, sps[i]? = some s ∧ ∀ w, S w → Known md o (facts sps vals i) w → Step P ops o (lex ops a0 vals i) w (fun v w' => s.holds v w' ∧ Below w.heap.size w w') := by
  obtain ⟨hlt, ho⟩ := Array.getElem?_eq_some_iff.1 hi
  have ih := rg_at hm hv h i (by omega)
  have hlen : i < (ops.toList.take m).length := by rw [List.length_take, Array.length_toList]; omega
  rw [List.drop_eq_getElem_cons hlen] at ih
  rw [show (ops.toList.take m)[i]'hlen = o from by simpa using ho] at ih
  cases hs : sps[i]? with
  | none =>
    rw [List.drop_of_length_le (List.getElem?_eq_none_iff.1 hs)] at ih
    exact False.elim ih
  | some s =>
    obtain ⟨hl, hse⟩ := List.getElem?_eq_some_iff.1 hs
    rw [List.drop_eq_getElem_cons hl, hse] at ih
    refine ⟨s, rfl, ?_⟩
    cases s with
    | exact c => exact ih.1
    | ex G => exact ih.1
theorem known_of {sps : List Sp} {vals : Nat → Value} {o : Oper} {w : World} (i : Nat) (h : ∀ j G, j < i → sps[j]? = some (.ex G) → dep md o j = true → G (vals j) w) : Known md o (facts sps vals i) w := by
  induction i with
  | zero => trivial
  | succ i ih =>
    have ih' := ih (fun j G hj => h j G (by omega))
    rw [facts]
    cases hs : sps[i]? with
    | none => exact ih'
    | some s =>
      cases s with
      | exact c => exact ih'
      | ex G => exact ⟨h i G (by omega) hs, ih'⟩
theorem all_of {sps : List Sp} {vals : Nat → Value} {w : World} (i : Nat) (h : ∀ j G, j < i → sps[j]? = some (.ex G) → G (vals j) w) : All (facts sps vals i) w := by
  induction i with
  | zero => trivial
  | succ i ih =>
    have ih' := ih (fun j G hj => h j G (by omega))
    rw [facts]
    cases hs : sps[i]? with
    | none => exact ih'
    | some s =>
      cases s with
      | exact c => exact ih'
      | ex G => exact ⟨h i G (by omega) hs, ih'⟩
/-- What holds where some operations have come up. -/
structure Inv (S : World → Prop) (sps : List Sp) (ops : Array Oper) (m : Nat) (a0 : Act) (listed : Array Bool) (vals : Nat → Value) (a : Act) (w : World) : Prop where
  size : listed.size = ops.size
  asize : a.tmps.size = a0.tmps.size
  adef : a.defers = a0.defers
  base : ∀ t, (∀ i o, ops[i]? = some o → listed.getD i false = true → o.dst ≠ some t) → a.tmps[t]? = a0.tmps[t]?
  got : ∀ i o d, ops[i]? = some o → listed.getD i false = true → o.dst = some d → a.tmps[d]? = some (vals i)
  ex : ∀ i c, sps[i]? = some (.exact c) → vals i = c
  told : ∀ i s, listed.getD i false = true → sps[i]? = some s → s.holds (vals i) w
  s : S w
  tail : ∀ t, m ≤ t → listed.getD t false = false
def unl (listed : Array Bool) : Nat → Nat
  | 0 => 0
  | m + 1 => unl listed m + if listed.getD m true = true then 0 else 1
theorem unl_far {listed : Array Bool} {i : Nat} : ∀ m, m ≤ i → unl (listed.setIfInBounds i true) m = unl listed m
  | 0, _ => rfl
  | m + 1, h => by rw [unl, unl, unl_far m (by omega), getD_set_ne true (by omega)]
theorem unl_set {listed : Array Bool} {i : Nat} (hs : i < listed.size) (hi : listed.getD i true = false) : ∀ m, i < m → unl (listed.setIfInBounds i true) m + 1 = unl listed m
  | 0, h => by omega
  | m + 1, h => by
    by_cases him : i = m
    · subst him
      rw [unl, unl, unl_far i (Nat.le_refl _), hi]
      simp [hs]
    · have := unl_set hs hi m (by omega)
      rw [unl, unl, getD_set_ne true him]
      omega
theorem unl_zero {listed : Array Bool} : ∀ m, unl listed m = 0 → ∀ i, i < m → listed.getD i true = true
  | 0, _, i, hi => by omega
  | m + 1, h, i, hi => by
    rw [unl] at h
    by_cases him : i = m
    · subst him
      cases hb : listed.getD i true with
      | true => rfl
      | false => rw [hb] at h; simp at h
    · exact unl_zero m (by omega) i (by omega)
theorem unl_pos {listed : Array Bool} : ∀ m, unl listed m ≠ 0 → ∃ i, i < m ∧ listed.getD i true = false
  | 0, h => absurd rfl h
  | m + 1, h => by
    cases hb : listed.getD m true with
    | false => exact ⟨m, by omega, hb⟩
    | true =>
      rw [unl, hb] at h
      obtain ⟨i, hi, h1⟩ := unl_pos m (by simpa using h)
      exact ⟨i, by omega, h1⟩
theorem all_listed {listed : Array Bool} {n m : Nat} (hs : listed.size = ops.size) (hok : okB md ops n m = true) (hr : Region.ready md ops listed = []) : ∀ i, i < m → listed.getD i true = true := by
  intro i
  induction i using Nat.strongRecOn with
  | _ i ih =>
    intro hi
    have hle := okB_le hok
    have hget : ops[i]? = some (ops[i]'(by omega)) := Array.getElem?_eq_getElem (by omega)
    cases hb : listed.getD i true with
    | true => rfl
    | false =>
      have : i ∈ Region.ready md ops listed := mem_ready.2 ⟨hb, _, hget, fun e he hbe => by
        have hlow := (okB_spec hok hi hget).low e he hbe
        have h1 := ih e.on hlow (by omega)
        have : e.on < listed.size := by omega
        simp [this] at h1 ⊢
        exact h1⟩
      rw [hr] at this
      cases this
/-- The operations from m on wait for all ahead of them. -/
def tailB (md : Region.Mode) (ops : Array Oper) (m : Nat) : Bool :=
  ((List.range ops.size).all fun t => decide (t < m) || match ops[t]? with | none => false | some o => ((List.range m).all fun j => dep md o j) || (List.range ops.size).any fun j => decide (m ≤ j) && dep md o j) &&
    Region.seqB md ops (ops.size - m) m (Array.replicate m true ++ Array.replicate (ops.size - m) false)
theorem eval_eq {a b : Act} {x : Operand} (h : ∀ t, x = .tmp t → a.tmps[t]? = b.tmps[t]?) : a.eval x = b.eval x := by
  cases x with
  | tmp t =>
    have := h t rfl
    simp only [Act.eval, Array.getD_eq_getD_getElem?]
    rw [this]
  | _ => rfl
theorem rg_any {S : World → Prop} {sps : List Sp} {a0 : Act} {n m : Nat} {Q0 : Exit → Act → World → Prop} (hok : okB md ops n m = true) (htl : tailB md ops m = true) (hn : a0.tmps.size = n) (hS : ∀ w w', Below w.heap.size w w' → S w → S w')
    (hG : ∀ (i : Nat) (s : Sp) (v : Value) (w w' : World), sps[i]? = some s → Below w.heap.size w w' → s.holds v w → s.holds v w') (hQ : Q0 .normal = wpList P ops Q (ops.toList.drop m)) (h : rgW P md ops S Q0 (ops.toList.take m) sps 0 a0 []) :
    ∀ (u : Nat) (listed : Array Bool) (vals : Nat → Value) (a : Act) (w : World), unl listed m = u → Inv S sps ops m a0 listed vals a w → wpAny P md ops Q (u + (ops.size - m)) listed a w := by
  have hle := okB_le hok
  simp only [tailB, Bool.and_eq_true] at htl
  obtain ⟨htl, hseq⟩ := htl
  have fin : ∀ (listed : Array Bool) (vals : Nat → Value) (a : Act) (w : World), Inv S sps ops m a0 listed vals a w → (∀ i, i < m → listed.getD i true = true) → wpAny P md ops Q (ops.size - m) listed a w := by
    intro listed vals a w inv hall
    have hall' : ∀ i, i < m → listed.getD i false = true := fun i hi => by
      have h1 := hall i hi
      have : i < listed.size := by rw [inv.size]; omega
      simp [this] at h1 ⊢
      exact h1
    have h1 := rg_at hle inv.ex h m (Nat.le_refl _)
    rw [List.drop_of_length_le (by rw [List.length_take]; omega)] at h1
    have h2 := h1 w inv.s (all_of m fun j G hj hs => inv.told j _ (hall' j hj) hs)
    have e : lex ops a0 vals m = a := by
      have et : (lex ops a0 vals m).tmps = a.tmps := by
        apply Array.ext_getElem?
        intro t
        by_cases ht : ∃ (j : Nat) (p : Oper), j < m ∧ ops[j]? = some p ∧ p.dst = some t
        · obtain ⟨j, p, hjm, hj, hd⟩ := ht
          rw [lex_got a0 vals hok hn hj hd m hjm (Nat.le_refl _), inv.got j p t hj (hall' j hjm) hd]
        · have h1 := inv.base t (fun j p hj hl hd => by
            rcases Nat.lt_or_ge j m with hjm | hjm
            · exact ht ⟨j, p, hjm, hj, hd⟩
            · rw [inv.tail j hjm] at hl; cases hl)
          rw [h1, lex_base a0 vals m fun j p hjm hj hd => ht ⟨j, p, hjm, hj, hd⟩]
      have ed : (lex ops a0 vals m).defers = a.defers := by rw [lex_defers, inv.adef]
      cases hx : lex ops a0 vals m
      cases a
      rw [hx] at et ed
      simp only at et ed
      rw [et, ed]
    rw [e, hQ] at h2
    have hL : listed = Array.replicate m true ++ Array.replicate (ops.size - m) false := by
      apply Array.ext_getElem?
      intro t
      rcases Nat.lt_or_ge t m with ht | ht
      · have h3 := hall' t ht
        have : t < listed.size := by rw [inv.size]; omega
        rw [Array.getElem?_append_left (by simpa using ht)]
        simp [this, ht] at h3 ⊢
        exact h3
      · rw [Array.getElem?_append_right (by simpa using ht)]
        have h3 := inv.tail t ht
        by_cases hts : t < ops.size
        · have : t < listed.size := by rw [inv.size]; omega
          simp [this] at h3
          rw [Array.getElem?_eq_getElem this, h3, Array.size_replicate, Array.getElem?_replicate, if_pos (by omega)]
        · rw [Array.getElem?_eq_none (by rw [inv.size]; omega), Array.getElem?_eq_none (by simp; omega)]
    have hlen : (ops.toList.drop m).length = ops.size - m := by simp
    rw [← hlen]
    refine wpAny_of_seq (ops.toList.drop m) m listed a w (fun j => by simp) ?_ h2
    rw [hlen, hL]
    exact hseq
  intro u
  induction u with
  | zero =>
    intro listed vals a w hu inv
    rw [Nat.zero_add]
    exact fin listed vals a w inv (unl_zero m hu)
  | succ u ih =>
    intro listed vals a w hu inv
    rw [show u + 1 + (ops.size - m) = (u + (ops.size - m)) + 1 by omega]
    obtain ⟨j0, hj0, hj1⟩ := unl_pos m (by omega : unl listed m ≠ 0)
    refine ⟨fun hr => ?_, fun i hi => ?_⟩
    · have := all_listed inv.size hok hr j0 hj0
      rw [this] at hj1
      cases hj1
    obtain ⟨hun, o, ho, hdeps⟩ := mem_ready.1 hi
    have hlt : i < ops.size := (Array.getElem?_eq_some_iff.1 ho).1
    have hdl : ∀ j, dep md o j = true → listed.getD j false = true := by
      intro j hj
      obtain ⟨e, he, hb⟩ := Array.any_eq_true'.1 hj
      simp only [Bool.and_eq_true, beq_iff_eq] at hb
      rw [← hb.2]
      exact hdeps e he hb.1
    have him : i < m := by
      rcases Nat.lt_or_ge i m with h' | h'
      · exact h'
      · have h1 := List.all_eq_true.1 htl i (List.mem_range.2 hlt)
        simp only [Bool.or_eq_true, decide_eq_true_eq, ho] at h1
        rcases h1 with h1 | h1 | h1
        · omega
        · have h2 := hdl j0 (List.all_eq_true.1 h1 j0 (List.mem_range.2 hj0))
          have : j0 < listed.size := by rw [inv.size]; omega
          simp [this] at h2 hj1
          rw [h2] at hj1
          cases hj1
        · obtain ⟨t, _, hb⟩ := List.any_eq_true.1 h1
          simp only [Bool.and_eq_true, decide_eq_true_eq] at hb
          have h2 := hdl t hb.2
          rw [inv.tail t hb.1] at h2
          cases h2
    have ok := okB_spec hok him ho
    obtain ⟨s, hs, hst⟩ := rg_step hle inv.ex h him ho
    have hstep := hst w inv.s (known_of i fun j G _ hs hd => inv.told j _ (hdl j hd) hs)
    have hils : i < listed.size := by rw [inv.size]; exact hlt
    have look : ∀ t, t ∈ o.looksAt ops → a.tmps[t]? = (lex ops a0 vals i).tmps[t]? := by
      intro t ht
      by_cases hex : ∃ (j : Nat) (p : Oper), j < m ∧ ops[j]? = some p ∧ p.dst = some t
      · obtain ⟨j, p, hjm, hj, hd⟩ := hex
        obtain ⟨h1, h2⟩ := ok.look j p t hjm hj hd ht
        rw [inv.got j p t hj (hdl j h1) hd, lex_got a0 vals hok hn hj hd i h2 (by omega)]
      · have h1 := inv.base t (fun j p hj hl hd => by
          rcases Nat.lt_or_ge j m with hjm | hjm
          · exact hex ⟨j, p, hjm, hj, hd⟩
          · rw [inv.tail j hjm] at hl; cases hl)
        rw [h1, lex_base a0 vals i fun j p hjm hj hd => hex ⟨j, p, by omega, hj, hd⟩]
    have he : ∀ x ∈ o.op.operands, a.eval x = (lex ops a0 vals i).eval x := fun x hx => eval_eq fun t ht => look t (by
      subst ht
      exact List.mem_append_left _ (List.mem_filterMap.2 ⟨.tmp t, by simpa using hx, rfl⟩))
    have hw : Region.wanted o (yielded ops a.tmps) = Region.wanted o (yielded ops (lex ops a0 vals i).tmps) := by
      unfold Region.wanted
      cases hg : o.guard with
      | none => rfl
      | some gw =>
        obtain ⟨g, want⟩ := gw
        have hy : yielded ops a.tmps g = yielded ops (lex ops a0 vals i).tmps g := by
          unfold yielded
          cases ht : (ops[g]?).bind (·.dst) with
          | none => rfl
          | some t =>
            have := look t (by simp [Oper.looksAt, hg, ht])
            simp [this]
        simp only [hy]
    have key : if Region.wanted o (yielded ops a.tmps) = true then Oper.wp P o a w (wpAny P md ops Q (u + (ops.size - m)) (listed.setIfInBounds i true)) Q else wpAny P md ops Q (u + (ops.size - m)) (listed.setIfInBounds i true) (a.put o.dst undef) w := by
      refine Step.to ok.sel (by rw [inv.asize, lex_size]) he hw hstep (fun v w' hD => ?_)
      refine ih _ (fun j => if j = i then v else vals j) _ w' (by have := unl_set hils hun m him; omega) ?_
      have lset : ∀ j, (listed.setIfInBounds i true).getD j false = true → j ≠ i → listed.getD j false = true := fun j hj hne => by rwa [getD_set_ne false (Ne.symm hne)] at hj
      have lm : ∀ j, listed.getD j false = true → j < m := fun j hj => by
        rcases Nat.lt_or_ge j m with hjm | hjm
        · exact hjm
        · rw [inv.tail j hjm] at hj; cases hj
      refine ⟨by simp [inv.size], by rw [put_size, inv.asize], by rw [put_defers, inv.adef], fun t ht => ?_, fun j p d hj hl hd => ?_, fun j c hc => ?_, fun j s' hl hs' => ?_, hS w w' hD.2 inv.s, fun t ht => by rw [getD_set_ne false (by omega)]; exact inv.tail t ht⟩
      · rw [put_get_ne (ht i o ho (by simp [hils])), inv.base t fun j p hj hl => ht j p hj (getD_set_true hl)]
      · by_cases hji : j = i
        · subst hji
          rw [ho] at hj
          cases hj
          rw [if_pos rfl, hd]
          exact put_get (by rw [inv.asize, hn]; exact ok.rng d hd)
        · rw [if_neg hji, put_get_ne (ok.one j p d (lm j (lset j hl hji)) hj hd hji)]
          exact inv.got j p d hj (lset j hl hji) hd
      · by_cases hji : j = i
        · subst hji
          rw [if_pos rfl]
          rw [hs] at hc
          cases hc
          exact hD.1
        · simp only [if_neg hji]; exact inv.ex j c hc
      · by_cases hji : j = i
        · subst hji
          simp only [if_pos]
          rw [hs] at hs'
          cases hs'
          exact hD.1
        · simp only [if_neg hji]
          exact hG j s' _ w w' hs' hD.2 (inv.told j s' (lset j hl hji) hs')
    unfold wpOp
    simp only [ho]
    split
    · rename_i hwt
      rw [if_pos hwt] at key
      exact .inl key
    · rename_i hwt
      rw [if_neg hwt] at key
      exact key
/-- THE LAW, with a tail: the operations from m on wait for all ahead of them, and go by the plain walk. -/
theorem regionT {id : Nat} {a0 : Act} {w : World} (n m : Nat) (S : World → Prop) (sps : List Sp) (hm : P.follows .mixedOrders = true) (hok : okB .any ops n m = true) (htl : tailB .any ops m = true) (hn : a0.tmps.size = n)
    (hS : ∀ w w', Below w.heap.size w w' → S w → S w') (hG : Stable sps) (h0 : S w.drew) (h : rgW P .any ops S (fun _ => wpList P ops Q (ops.toList.drop m)) (ops.toList.take m) sps 0 a0 []) :
    (Code.region id ops true).wp P Q a0 w := by
  have hle := okB_le hok
  have hu : ∀ k, k ≤ ops.size → unl (Array.replicate ops.size false) k = k := by
    intro k
    induction k with
    | zero => intro _; rfl
    | succ k ih => intro hk; rw [unl, ih (by omega)]; simp [show k < ops.size by omega]
  have hf : ∀ i, (Array.replicate ops.size false).getD i false = false := fun i => by
    by_cases hi : i < ops.size
    · simp [hi]
    · simp [hi]
  refine wp_region_any hm ?_
  have := rg_any (Q := Q) hok htl hn hS (fun i s v w w' hs => hG.all s (List.mem_of_getElem? hs) v w w') rfl h m _ (fun i => match sps[i]? with | some (.exact c) => c | _ => undef) a0 w.drew (hu m hle) ?_
  · rw [show m + (ops.size - m) = ops.size by omega] at this
    exact this
  · refine ⟨by simp, rfl, rfl, fun _ _ => rfl, fun i o d _ hl => ?_, fun i c hc => by simp [hc], fun i s hl => ?_, h0, fun t _ => hf t⟩
    · rw [hf] at hl; cases hl
    · rw [hf] at hl; cases hl
/-- THE LAW. -/
theorem region {id : Nat} {a0 : Act} {w : World} (n : Nat) (S : World → Prop) (sps : List Sp) (hm : P.follows .mixedOrders = true) (hok : okB .any ops n ops.size = true) (hn : a0.tmps.size = n)
    (hS : ∀ w w', Below w.heap.size w w' → S w → S w') (hG : Stable sps) (h0 : S w.drew) (h : rgW P .any ops S Q ops.toList sps 0 a0 []) :
    (Code.region id ops true).wp P Q a0 w := by
  have hlen : ops.toList.length = ops.size := Array.length_toList
  refine regionT n ops.size S sps hm hok ?_ hn hS hG h0 ?_
  · simp only [tailB, Bool.and_eq_true]
    refine ⟨List.all_eq_true.2 fun t ht => by simp [List.mem_range.1 ht], ?_⟩
    rw [Nat.sub_self]
    show (Region.ready _ _ _).isEmpty = true
    cases hc : Region.ready .any ops (Array.replicate ops.size true ++ Array.replicate 0 false) with
    | nil => rfl
    | cons x xs =>
      have hx : x ∈ Region.ready .any ops (Array.replicate ops.size true ++ Array.replicate 0 false) := by rw [hc]; simp
      obtain ⟨h1, o, ho, _⟩ := mem_ready.1 hx
      have := (Array.getElem?_eq_some_iff.1 ho).1
      simp [this] at h1
  · rw [List.take_of_length_le (by omega)]
    have e : (fun _ : Exit => wpList P ops Q (ops.toList.drop ops.size)) = (fun _ : Exit => Q .normal) := by
      funext _
      rw [List.drop_of_length_le (by omega)]
      rfl
    rw [e]
    exact rg_normal ops.toList sps 0 a0 [] h
/-- An operation that does nothing but yield its value. -/
theorem rgW.just {S : World → Prop} {o : Oper} {rest : List Oper} {c : Value} {sp : List Sp} {i : Nat} {b b' : Act} {fs : List (Nat × (World → Prop))} (hy : Yields P ops o c b) (hb : b.put o.dst c = b') (h : rgW P md ops S Q rest sp (i + 1) b' fs) :
    rgW P md ops S Q (o :: rest) (.exact c :: sp) i b fs := by
  subst hb
  refine ⟨fun w _ _ K hK => ?_, h⟩
  rcases hy with ⟨hw, hv⟩ | ⟨hw, rfl⟩
  · rw [if_pos hw]; unfold Oper.wp; rw [hv w]; exact hK c w ⟨rfl, Below.refl _ _⟩
  · rw [if_neg (by rw [hw]; decide)]; exact hK undef w ⟨rfl, Below.refl _ _⟩
/-- An operation that reads the world. -/
theorem rgW.read {S : World → Prop} {o : Oper} {rest : List Oper} {c : Value} {sp : List Sp} {i : Nat} {b b' : Act} {fs : List (Nat × (World → Prop))} (hw : Region.wanted o (yielded ops b.tmps) = true)
    (hy : ∀ w, S w → Known md o fs w → (execOp b.eval o).run P w = .ok (.value c) w) (hb : b.put o.dst c = b') (h : rgW P md ops S Q rest sp (i + 1) b' fs) :
    rgW P md ops S Q (o :: rest) (.exact c :: sp) i b fs := by
  subst hb
  refine ⟨fun w hS hK K hK' => ?_, h⟩
  rw [if_pos hw]; unfold Oper.wp; rw [hy w hS hK]; exact hK' c w ⟨rfl, Below.refl _ _⟩
/-- An operation whose value is told by G. -/
theorem rgW.told {S : World → Prop} {G : Value → World → Prop} {o : Oper} {rest : List Oper} {sp : List Sp} {i : Nat} {b : Act} {b' : Value → Act} {fs : List (Nat × (World → Prop))} (hb : ∀ v, b.put o.dst v = b' v)
    (h1 : ∀ w, S w → Known md o fs w → ∀ K : Act → World → Prop, (∀ v w', G v w' → Below w.heap.size w w' → K (b.put o.dst v) w') → if Region.wanted o (yielded ops b.tmps) = true then Oper.wp P o b w K NoQ else K (b.put o.dst undef) w)
    (h : ∀ v, rgW P md ops S Q rest sp (i + 1) (b' v) ((i, G v) :: fs)) : rgW P md ops S Q (o :: rest) (.ex G :: sp) i b fs := by
  refine ⟨fun w hS hK K hK' => h1 w hS hK K (fun v w' hg hb => hK' v w' ⟨hg, hb⟩), fun v => ?_⟩
  rw [hb v]; exact h v
end
end Go.Proofs.Ytpjkbjpjhkcofaa.RG
