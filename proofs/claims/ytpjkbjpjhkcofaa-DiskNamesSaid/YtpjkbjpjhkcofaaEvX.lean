/- EV, part X: drawn regions. No program here. -/
import Derived.Test.YtpjkbjpjhkcofaaEvV
namespace Go.Proofs.Ytpjkbjpjhkcofaa.Ev
open Go Go.RowKit
set_option linter.unusedVariables false
set_option linter.unusedSimpArgs false
def wrote (Hs : Nat → AH) (ft : Nat → List Nat × List Nat) (i id : Nat) : Prop := id ∈ (ft i).2 ∨ ((Hs i).next ≤ id ∧ id < (Hs (i + 1)).next)
def on (L : Array Bool) (i : Nat) : Prop := L.getD i false = true
def DL (D : Nat → Prop) (Hs : Nat → AH) (n : Nat) (L : Array Bool) : Nat → Prop := fun id => D id ∨ ∃ i, i < n ∧ on L i ∧ (Hs i).next ≤ id ∧ id < (Hs (i + 1)).next
structure Inv [Th] (p : Nat) (ops : Array Oper) (es : Nat → List Value) (Hs : Nat → AH) (vs : Nat → Value) (ft : Nat → List Nat × List Nat) (ρ : Rho) (D : Nat → Prop) (G : Nat → Option Blk) (W : World) (T : Nat → Prop) (a0 : Act) (L : Array Bool) (a : Act) (w : World) (ρ' : Rho) (G' : Nat → Option Blk) (env' : List Value) : Prop where
  cl : ∀ (j : Nat) (o : Oper), ops[j]? = some o → on L j → ∀ e ∈ o.after, Region.binds .any e = true → on L e.on
  ag : ∀ id, D id → ρ' id = ρ id
  env : VRs ρ' (DL D Hs ops.size L) env' a.tmps.toList
  len : env'.length = (es 0).length
  got : ∀ (i : Nat) (o : Oper) (d : Nat), ops[i]? = some o → on L i → o.dst = some d → d < (es 0).length → env'[d]? = some (vs i)
  base : ∀ t, (∀ (i : Nat) (o : Oper), ops[i]? = some o → on L i → o.dst ≠ some t) → env'[t]? = (es 0)[t]?
  hr : HR ρ' (DL D Hs ops.size L) G' w (DL T Hs ops.size L)
  g1 : ∀ id i, i < ops.size → on L i → wrote Hs ft i id → (∀ k, i < k → k < ops.size → on L k → ¬ wrote Hs ft k id) → G' id = (Hs (i + 1)).get id
  g0 : ∀ id, (∀ i, i < ops.size → on L i → ¬ wrote Hs ft i id) → G' id = G id
  below : Below 0 W w
  defers : a.defers = a0.defers
section
variable {P : Program} {xc : XC} {call : CallF} {p : Nat} {ops : Array Oper} {env e2 : List Value} {H H2 : AH} {r w : List Nat} {fs : List Ent} {es : Nat → List Value} {Hs : Nat → AH} {vs : Nat → Value} {ft : Nat → List Nat × List Nat}
  {ρ ρ' : Rho} {D : Nat → Prop} {G G' : Nat → Option Blk} {W w1 : World} {T : Nat → Prop} {a0 a : Act} {L : Array Bool} {env' : List Value}
theorem memN_of {x : Nat} : ∀ {b : List Nat}, x ∈ b → memN x b = true
  | y :: b, h => by
    unfold memN
    rcases List.mem_cons.1 h with rfl | h
    · simp [Nat.beq_eq]
    · rw [memN_of h, Bool.or_true]
theorem meets_of [Th] {x : Nat} : ∀ {a b : List Nat}, x ∈ a → x ∈ b → meets a b = true
  | y :: a, b, h, hb => by
    unfold meets
    rcases List.mem_cons.1 h with rfl | h
    · rw [memN_of hb]; rfl
    · rw [meets_of h hb, Bool.or_true]
theorem among_of {lo hi x : Nat} (h1 : lo ≤ x) (h2 : x < hi) : ∀ {l : List Nat}, x ∈ l → among lo hi l = true
  | y :: l, h => by
    unfold among
    rcases List.mem_cons.1 h with rfl | h
    · rw [Nat.ble_eq_true_of_le h1, show Nat.blt x hi = true from Nat.ble_eq_true_of_le h2]; rfl
    · rw [among_of h1 h2 h, Bool.or_true]
/-- Who writes what another touches is an ancestor. -/
theorem Run.anc [Th] (hfr : CallFr call) (R : Run P xc call p ops ops.toList env H e2 H2 r w fs es Hs vs ft) (hf : FreeOk ops fs) {i j id : Nat} (hij : i < j) (hj : j < ops.size) (h : (wrote Hs ft i id ∧ (id ∈ (ft j).1 ∨ wrote Hs ft j id)) ∨ (id ∈ (ft i).1 ∧ wrote Hs ft j id)) : Anc ops i j := by
  have hlen : ops.toList.length = ops.size := by simp
  refine hf i j _ _ hij (R.fs i (by simp; omega)) (R.fs j (by simpa using hj)) ?_
  have m := R.mono hfr (i := i + 1) (j := j) (by omega) (by omega)
  obtain ⟨s1, s2, s3⟩ := R.step_fr hfr (i := i) (by omega)
  have s1 := s1.1
  unfold clash fent
  simp only [Bool.or_eq_true]
  rcases h with ⟨h1 | h1, h2 | h2 | h2⟩ | ⟨h1, h2 | h2⟩
  · exact .inr (.inl (meets_of h1 h2))
  · exact .inl (meets_of h1 h2)
  · have := s3 id h1; omega
  · exact .inr (.inr (.inr (.inl (among_of h1.1 h1.2 h2))))
  · exact .inr (.inr (.inr (.inr (among_of h1.1 h1.2 h2))))
  · omega
  · exact .inr (.inr (.inl (meets_of h2 h1)))
  · have := s2 id h1; omega
/-- What a ready operation touches stands as the text's order has it. -/
theorem Inv.touch [Th] (hfr : CallFr call) (R : Run P xc call p ops ops.toList env H e2 H2 r w fs es Hs vs ft) (hp : PreC p ρ D G W T H H2 r w) (hf : FreeOk ops fs) (I : Inv p ops es Hs vs ft ρ D G W T a0 L a w1 ρ' G' env')
    {j : Nat} {o : Oper} (ho : ops[j]? = some o) (hnot : ¬ on L j) (hr : ∀ e ∈ o.after, Region.binds .any e = true → on L e.on) {id : Nat} (ht : id ∈ (ft j).1 ∨ id ∈ (ft j).2) : DL T Hs ops.size L id ∧ G' id = (Hs j).get id := by
  have hj : j < ops.size := (Array.getElem?_eq_some_iff.1 ho).1
  have hlen : ops.toList.length = ops.size := by simp
  have ht' : id ∈ (ft j).1 ∨ wrote Hs ft j id := ht.imp (fun h => h) fun h => .inl h
  have hlt : id < (Hs j).next := ht.elim ((R.step_fr hfr (by omega)).2.1 id) ((R.step_fr hfr (by omega)).2.2 id)
  have before : ∀ i, i < j → wrote Hs ft i id → on L i := fun i hi hw => (R.anc hfr hf hi hj (.inl ⟨hw, ht'⟩)).ready I.cl ho hr
  have after : ∀ k, j < k → k < ops.size → on L k → ¬ wrote Hs ft k id := fun k hk hks hL hw => by
    have : Anc ops j k := R.anc hfr hf hk hks (ht.elim (fun h => .inr ⟨h, hw⟩) fun h => .inl ⟨.inl h, .inr hw⟩)
    exact hnot (this.listed I.cl hL)
  have old : id < (Hs 0).next → T id ∧ G id = H.get id := fun h0 => by
    rw [R.h0] at h0
    by_cases hlp : id < p
    · refine hp.tr id ?_
      rcases ht with h | h
      · exact .inl ((R.r id).2 ⟨j, by omega, h, hlp⟩)
      · exact .inr (.inl ((R.w id).2 ⟨j, by omega, h, hlp⟩))
    · exact hp.tr id (.inr (.inr ⟨by omega, h0⟩))
  have hT : DL T Hs ops.size L id := by
    by_cases h0 : id < (Hs 0).next
    · exact .inl (old h0).1
    · obtain ⟨m, hm, h1, h2⟩ := Run.maker Hs (by omega) hlt
      exact .inr ⟨m, by omega, before m hm (.inr ⟨h1, h2⟩), h1, h2⟩
  refine ⟨hT, ?_⟩
  rcases lastw (fun i => wrote Hs ft i id) j with h | ⟨i, hij, hw, hk⟩
  · have h0 : id < (Hs 0).next := by
      by_cases h0 : id < (Hs 0).next
      · exact h0
      · obtain ⟨m, hm, h1, h2⟩ := Run.maker Hs (by omega) hlt
        exact absurd (.inr ⟨h1, h2⟩) (h m hm)
    have e1 := I.g0 id fun k hks hL hw => by
      rcases Nat.lt_trichotomy k j with hk | hk | hk
      · exact h k hk hw
      · exact hnot (hk ▸ hL)
      · exact after k hk hks hL hw
    rw [e1, (old h0).2, ← R.h0]
    exact (R.keep hfr (Nat.zero_le j) (by omega) h0 fun k _ hk hm => h k hk (.inl hm)).symm
  · have e1 := I.g1 id i (by omega) (before i hij hw) hw fun k hik hks hL hwk => by
      rcases Nat.lt_trichotomy k j with hkj | hkj | hkj
      · exact hk k hik hkj hwk
      · exact hnot (hkj ▸ hL)
      · exact after k hkj hks hL hwk
    rw [e1]
    have hlt1 : id < (Hs (i + 1)).next := by
      rcases hw with hw | hw
      · have h1 := (R.step_fr hfr (i := i) (by omega)).2.2 id hw
        have h2 := (R.step_fr hfr (i := i) (by omega)).1.1
        omega
      · exact hw.2
    exact (R.keep hfr (i := i + 1) (by omega) (by omega) hlt1 fun k h1 h2 hm => hk k (by omega) h2 (.inl hm)).symm
theorem Run.es_len (R : Run P xc call p ops ops.toList env H e2 H2 r w fs es Hs vs ft) : ∀ j, j ≤ ops.size → (es j).length = (es 0).length
  | 0, _ => rfl
  | j + 1, hj => by
    have hlen : ops.toList.length = ops.size := by simp
    obtain ⟨h, _⟩ := R.row j _ (List.getElem?_eq_getElem (by omega))
    rw [h, ← R.es_len j (by omega)]
    cases (ops.toList[j]'(by omega)).dst <;> simp [aputs, lset_eq]
theorem Run.es_base [Th] (R : Run P xc call p ops ops.toList env H e2 H2 r w fs es Hs vs ft) {t : Nat} : ∀ j, j ≤ ops.size → (∀ (i : Nat) (o : Oper), i < j → ops[i]? = some o → o.dst ≠ some t) → (es j)[t]? = (es 0)[t]?
  | 0, _, _ => rfl
  | j + 1, hj, h => by
    have hlen : ops.toList.length = ops.size := by simp
    have hget : ops[j]? = some (ops[j]'(by omega)) := Array.getElem?_eq_getElem (by omega)
    obtain ⟨he, _⟩ := R.row j (ops[j]'(by omega)) (by simp)
    have hd := h j _ (by omega) hget
    rw [he, ← R.es_base j (by omega) fun i o hi => h i o (by omega)]
    cases hc : (ops[j]'(by omega)).dst with
    | none => rfl
    | some d => rw [aputs_some]; exact List.getElem?_set_ne (fun e => hd (by rw [hc, e]))
theorem Run.es_got [Th] (R : Run P xc call p ops ops.toList env H e2 H2 r w fs es Hs vs ft) (hs : StatOk ops) {i : Nat} {o : Oper} {d : Nat} (ho : ops[i]? = some o) (hd : o.dst = some d) (hlt : d < (es 0).length) : ∀ j, i < j → j ≤ ops.size → (es j)[d]? = some (vs i)
  | 0, h, _ => by omega
  | j + 1, h, hj => by
    have hget : ops[j]? = some (ops[j]'(by omega)) := Array.getElem?_eq_getElem (by omega)
    obtain ⟨he, _⟩ := R.row j (ops[j]'(by omega)) (by simp)
    rw [he]
    by_cases hij : i = j
    · subst hij
      rw [ho] at hget
      have : o = ops[i]'(by omega) := Option.some.inj hget
      rw [← this, hd, aputs_some]
      exact List.getElem?_set_self (by rw [R.es_len i (by omega)]; exact hlt)
    · rw [← R.es_got hs ho hd hlt j (by omega) (by omega)]
      cases hc : (ops[j]'(by omega)).dst with
      | none => rfl
      | some d' => rw [aputs_some]; exact List.getElem?_set_ne (fun e => hij (hs.one i j _ _ d ho hget hd (by rw [hc, e])))
/-- What a ready operation looks at is as in the text's order. -/
theorem Inv.look [Th] (R : Run P xc call p ops ops.toList env H e2 H2 r w fs es Hs vs ft) (hs : StatOk ops) (I : Inv p ops es Hs vs ft ρ D G W T a0 L a w1 ρ' G' env')
    {j : Nat} {o : Oper} (ho : ops[j]? = some o) (hnot : ¬ on L j) (hr : ∀ e ∈ o.after, Region.binds .any e = true → on L e.on) {t : Nat} (ht : t ∈ o.looksAt ops) : env'[t]? = (es j)[t]? := by
  have hj : j < ops.size := (Array.getElem?_eq_some_iff.1 ho).1
  by_cases hx : ∃ (i : Nat) (q : Oper), ops[i]? = some q ∧ q.dst = some t
  · obtain ⟨i, q, hq, hd⟩ := hx
    rcases hs.look j i o q t ho hq hd ht with ⟨e, he, hb, hon⟩ | ⟨e, he, hb, hon⟩
    · have hL : on L i := hon ▸ hr e he hb
      have hij : i < j := hon ▸ hs.low j o ho e he hb
      by_cases hlt : t < (es 0).length
      · rw [I.got i q t hq hL hd hlt, R.es_got hs hq hd hlt j hij (by omega)]
      · rw [List.getElem?_eq_none (by rw [I.len]; omega), List.getElem?_eq_none (by rw [R.es_len j (by omega)]; omega)]
    · have hij : j < i := hon ▸ hs.low i q hq e he hb
      rw [I.base t fun k q' hq' hL hd' => ?_, R.es_base j (by omega) fun k q' hk hq' hd' => ?_]
      · have := hs.one k i q' q t hq' hq hd' hd
        omega
      · have hk := hs.one k i q' q t hq' hq hd' hd
        subst hk
        exact hnot (hon ▸ I.cl k q hq hL e he hb)
  · rw [I.base t fun i q hq _ hd => hx ⟨i, q, hq, hd⟩, R.es_base j (by omega) fun i q _ hq hd => hx ⟨i, q, hq, hd⟩]
theorem on_set {L : Array Bool} {i j : Nat} (hj : j < L.size) : on (L.setIfInBounds j true) i ↔ on L i ∨ i = j := by
  unfold on
  by_cases h : i = j
  · subst h
    simp [hj]
  · rw [show (L.setIfInBounds j true).getD i false = L.getD i false from by
      simp only [Array.getD_eq_getD_getElem?]
      rw [Array.getElem?_setIfInBounds_ne (fun e => h e.symm)]]
    simp [h]
theorem DL_set [Th] {n j : Nat} (hj : j < n) (hs : L.size = n) : DL D Hs n (L.setIfInBounds j true) = Dn (DL D Hs n L) (Hs j) (Hs (j + 1)) := by
  funext id
  simp only [DL, Dn, eq_iff_iff]
  constructor
  · rintro (h | ⟨i, h1, h2, h3⟩)
    · exact .inl (.inl h)
    · rcases (on_set (by omega)).1 h2 with h | rfl
      · exact .inl (.inr ⟨i, h1, h, h3⟩)
      · exact .inr h3
  · rintro ((h | ⟨i, h1, h2, h3⟩) | h)
    · exact .inl h
    · exact .inr ⟨i, h1, (on_set (by omega)).2 (.inl h2), h3⟩
    · exact .inr ⟨j, hj, (on_set (by omega)).2 (.inr rfl), h⟩
theorem Inv.wanted [Th] (R : Run P xc call p ops ops.toList env H e2 H2 r w fs es Hs vs ft) (hs : StatOk ops) (I : Inv p ops es Hs vs ft ρ D G W T a0 L a w1 ρ' G' env')
    {j : Nat} {o : Oper} (ho : ops[j]? = some o) (hnot : ¬ on L j) (hr : ∀ e ∈ o.after, Region.binds .any e = true → on L e.on) : Region.wanted o (yielded ops a.tmps) = Region.wanted o (ayield ops (es j)) := by
  rw [wanted_eq I.env]
  unfold Region.wanted
  cases hg : o.guard with
  | none => rfl
  | some g =>
    obtain ⟨g, want⟩ := g
    have : ayield ops env' g = ayield ops (es j) g := by
      unfold ayield
      cases hd : (ops[g]?).bind (·.dst) with
      | none => rfl
      | some t =>
        have ht : t ∈ o.looksAt ops := by
          unfold Oper.looksAt
          rw [hg]
          exact List.mem_append_right _ (by simp [hd])
        simp only [Option.bind_some]
        rw [I.look R hs ho hnot hr ht]
    simp only [this]
theorem Inv.opers [Th] (R : Run P xc call p ops ops.toList env H e2 H2 r w fs es Hs vs ft) (hs : StatOk ops) (I : Inv p ops es Hs vs ft ρ D G W T a0 L a w1 ρ' G' env')
    {j : Nat} {o : Oper} (ho : ops[j]? = some o) (hnot : ¬ on L j) (hr : ∀ e ∈ o.after, Region.binds .any e = true → on L e.on) : ∀ x ∈ o.op.operands.toList, aeval (es j) x = aeval env' x := by
  intro x hx
  cases x with
  | tmp t =>
    have ht : t ∈ o.looksAt ops := List.mem_append_left _ (List.mem_filterMap.2 ⟨.tmp t, hx, rfl⟩)
    have := I.look R hs ho hnot hr ht
    simp only [aeval, lget_eq, List.getD_eq_getElem?_getD, this]
  | _ => rfl
end
end Go.Proofs.Ytpjkbjpjhkcofaa.Ev
