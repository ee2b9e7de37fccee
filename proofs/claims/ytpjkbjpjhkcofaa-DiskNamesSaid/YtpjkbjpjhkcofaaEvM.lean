/- EV, part M: code in the text's order. No program here. -/
import Derived.Test.YtpjkbjpjhkcofaaEvL
import Derived.Tactics
import Derived.LoopN
namespace Go.Proofs.Ytpjkbjpjhkcofaa.Ev
open Go Go.RowKit
set_option linter.unusedVariables false
set_option linter.unusedSimpArgs false
theorem allLt_mem {n : Nat} : ∀ {l : List Nat}, allLt n l = true → ∀ x ∈ l, x < n
  | [], _, x, hx => by cases hx
  | y :: l, h, x, hx => by
    simp only [allLt, Bool.and_eq_true] at h
    rcases List.mem_cons.1 hx with rfl | hx
    · have h1 := h.1
      simp only [Nat.blt, Nat.ble_eq] at h1
      omega
    · exact allLt_mem h.2 x hx
theorem ins_mem {p n x : Nat} {l : List Nat} : x ∈ ins p n l ↔ (x = n ∧ n < p) ∨ x ∈ l := by
  unfold ins
  split
  · rename_i h
    split
    · rename_i hc
      have hc' : n ∈ l := by simpa using hc
      constructor
      · exact .inr
      · rintro (⟨rfl, _⟩ | h)
        · exact hc'
        · exact h
    · simp [h]
  · rename_i h; simp [h]
theorem insAll_mem [Th] {p x : Nat} {l : List Nat} : ∀ {a : List Nat}, x ∈ insAll p a l ↔ (x ∈ a ∧ x < p) ∨ x ∈ l
  | [] => by simp [insAll]
  | y :: a => by
    have ih : x ∈ insAll p a l ↔ (x ∈ a ∧ x < p) ∨ x ∈ l := insAll_mem
    have : insAll p (y :: a) l = ins p y (insAll p a l) := rfl
    rw [this, ins_mem, ih, List.mem_cons]
    constructor
    · rintro (⟨rfl, h⟩ | h | h)
      · exact .inl ⟨.inl rfl, h⟩
      · exact .inl ⟨.inr h.1, h.2⟩
      · exact .inr h
    · rintro (⟨rfl | h, h2⟩ | h)
      · exact .inl ⟨rfl, h2⟩
      · exact .inr (.inl ⟨h, h2⟩)
      · exact .inr (.inr h)
/-- What a piece of code leaves alone; it tells only of names older than p. -/
structure FrC (p : Nat) (H H' : AH) (R Wr : List Nat) : Prop where
  le : H.next ≤ H'.next
  r : ∀ id ∈ R, id < p
  w : ∀ id ∈ Wr, id < p
  fr : ∀ id, id < p → id ∉ Wr → H'.get id = H.get id
noncomputable def Gc (p : Nat) (G : Nat → Option Blk) (H' : AH) (Wr : List Nat) : Nat → Option Blk := fun id => if id ∈ Wr ∨ (p ≤ id ∧ id < H'.next) then H'.get id else G id
/-- What is asked ahead of a piece of code. -/
structure PreC [Th] (p : Nat) (ρ : Rho) (D : Nat → Prop) (G : Nat → Option Blk) (W : World) (T : Nat → Prop) (H H' : AH) (R Wr : List Nat) : Prop where
  le : p ≤ H.next
  hr : HR ρ D G W T
  tr : ∀ id, id ∈ R ∨ id ∈ Wr ∨ (p ≤ id ∧ id < H.next) → T id ∧ G id = H.get id
  fresh : ∀ id, H.next ≤ id → id < H'.next → ¬ D id
structure PostC [Th] (p : Nat) (ρ ρ' : Rho) (D : Nat → Prop) (G : Nat → Option Blk) (W : World) (T : Nat → Prop) (H H' : AH) (Wr : List Nat) (env : List Value) (vs : List Value) (W' : World) : Prop where
  ag : ∀ id, D id → ρ' id = ρ id
  env : VRs ρ' (Dn D H H') env vs
  hr : HR ρ' (Dn D H H') (Gc p G H' Wr) W' (Dn T H H')
  below : Below 0 W W'
section
variable {P : Program} {p : Nat} {ρ ρ' ρ'' : Rho} {D : Nat → Prop} {G G' : Nat → Option Blk} {W W' W1 W2 : World} {T : Nat → Prop} {H H' H1 H2 : AH} {R Wr r1 r2 w1 w2 : List Nat} {env e1 e2 : List Value} {a : Act} {vs : List Value}
theorem HR.congrG [Th] (h : HR ρ D G W T) (hg : ∀ id, T id → G' id = G id) : HR ρ D G' W T :=
  ⟨h.dom, fun id b hT hb hl => h.blk id b hT (by rw [← hg id hT]; exact hb) hl, fun i j b c hi hj hij hb hc => h.dist i j b c hi hj hij (by rw [← hg i hi]; exact hb) (by rw [← hg j hj]; exact hc)⟩
theorem FrC.comp [Th] (h1 : FrC p H H1 r1 w1) (h2 : FrC p H1 H2 r2 w2) : FrC p H H2 (insAll p r1 r2) (insAll p w1 w2) where
  le := Nat.le_trans h1.le h2.le
  r := fun id hid => by
    rcases insAll_mem.1 hid with h | h
    · exact h.2
    · exact h2.r id h
  w := fun id hid => by
    rcases insAll_mem.1 hid with h | h
    · exact h.2
    · exact h2.w id h
  fr := fun id hp hn => by
    have hn1 : id ∉ w1 := fun h => hn (insAll_mem.2 (.inl ⟨h, hp⟩))
    have hn2 : id ∉ w2 := fun h => hn (insAll_mem.2 (.inr h))
    rw [h2.fr id hp hn2, h1.fr id hp hn1]
theorem FrC.refl (p : Nat) (H : AH) : FrC p H H [] [] := ⟨Nat.le_refl _, fun _ h => (by cases h), fun _ h => (by cases h), fun _ _ _ => rfl⟩
theorem FrC.of_fr [Th] (h : Fr H H1 w1) (hp : p ≤ H.next) : FrC p H H1 (insAll p r1 []) (insAll p w1 []) where
  le := h.1
  r := fun id hid => by rcases insAll_mem.1 hid with h | h; exact h.2; cases h
  w := fun id hid => by rcases insAll_mem.1 hid with h | h; exact h.2; cases h
  fr := fun id hlt hn => h.2 id (by omega) fun h => hn (insAll_mem.2 (.inl ⟨h, hlt⟩))
theorem insAll_nil : insAll p (insAll p r1 []) r2 = insAll p (insAll p r1 []) r2 := rfl
theorem Dn_comp (h1 : H.next ≤ H1.next) (h2 : H1.next ≤ H2.next) : Dn (Dn D H H1) H1 H2 = Dn D H H2 := by
  funext id
  simp only [Dn, eq_iff_iff]
  constructor
  · rintro ((h | h) | h)
    · exact .inl h
    · exact .inr (by omega)
    · exact .inr (by omega)
  · rintro (h | h)
    · exact .inl (.inl h)
    · by_cases hh : id < H1.next
      · exact .inl (.inr (by omega))
      · exact .inr (by omega)
theorem Gc_comp (f1 : FrC p H H1 r1 w1) (f2 : FrC p H1 H2 r2 w2) {Wc : List Nat} (hW : ∀ id, id ∈ Wc ↔ (id ∈ w1 ∨ id ∈ w2)) : Gc p (Gc p G H1 w1) H2 w2 = Gc p G H2 Wc := by
  funext id
  unfold Gc
  by_cases h2 : id ∈ w2 ∨ (p ≤ id ∧ id < H2.next)
  · rw [if_pos h2, if_pos (by rcases h2 with h | h; exact .inl ((hW id).2 (.inr h)); exact .inr h)]
  · rw [if_neg h2]
    have h2' : id ∉ w2 ∧ ¬ (p ≤ id ∧ id < H2.next) := not_or.1 h2
    have hle := f2.le
    by_cases h1 : id ∈ w1
    · have hp := f1.w id h1
      rw [if_pos (.inl h1), if_pos (.inl ((hW id).2 (.inl h1))), f2.fr id hp h2'.1]
    · rw [if_neg (by rintro (h | h); exact h1 h; exact h2'.2 (by omega)), if_neg (by rintro (h | h); exact ((hW id).1 h).elim h1 h2'.1; exact h2'.2 h)]
theorem PreC.first [Th] (hp : PreC p ρ D G W T H H2 R Wr) (h12 : H1.next ≤ H2.next) (hR : ∀ id ∈ r1, id ∈ R) (hW : ∀ id ∈ w1, id ∈ Wr) : PreC p ρ D G W T H H1 r1 w1 :=
  ⟨hp.le, hp.hr, fun id h => hp.tr id (by rcases h with h | h | h; exact .inl (hR id h); exact .inr (.inl (hW id h)); exact .inr (.inr h)), fun id h1 h2 => hp.fresh id h1 (by omega)⟩
theorem PreC.second [Th] (hp : PreC p ρ D G W T H H2 R Wr) (f1 : FrC p H H1 r1 w1) (f2 : FrC p H1 H2 r2 w2) (hR : ∀ id ∈ r2, id ∈ R) (hW : ∀ id ∈ w2, id ∈ Wr)
    (h : PostC p ρ ρ' D G W T H H1 w1 e1 vs W1) : PreC p ρ' (Dn D H H1) (Gc p G H1 w1) W1 (Dn T H H1) H1 H2 r2 w2 where
  le := Nat.le_trans hp.le f1.le
  hr := h.hr
  tr := fun id hid => by
    have hle := hp.le
    have key : id ∈ r2 ∨ id ∈ w2 → Dn T H H1 id ∧ Gc p G H1 w1 id = H1.get id := fun hh => by
      have hlt : id < p := hh.elim (f2.r id) (f2.w id)
      have h3 := hp.tr id (hh.elim (fun h => .inl (hR id h)) fun h => .inr (.inl (hW id h)))
      refine ⟨.inl h3.1, ?_⟩
      unfold Gc
      split
      · rfl
      · rename_i hn
        rw [h3.2, f1.fr id hlt (fun h => hn (.inl h))]
    rcases hid with hh | hh | hh
    · exact key (.inl hh)
    · exact key (.inr hh)
    · refine ⟨?_, by unfold Gc; rw [if_pos (.inr hh)]⟩
      by_cases h1 : id < H.next
      · exact .inl (hp.tr id (.inr (.inr ⟨hh.1, h1⟩))).1
      · exact .inr (by omega)
  fresh := fun id h1 h2 hd => by
    have := f1.le
    rcases hd with hd | hd
    · exact hp.fresh id (by omega) h2 hd
    · omega
theorem PostC.comp [Th] (f1 : FrC p H H1 r1 w1) (f2 : FrC p H1 H2 r2 w2) {Wc : List Nat} (hW : ∀ id, id ∈ Wc ↔ (id ∈ w1 ∨ id ∈ w2))
    (h1 : PostC p ρ ρ' D G W T H H1 w1 e1 vs W1) {us : List Value} (h2 : PostC p ρ' ρ'' (Dn D H H1) (Gc p G H1 w1) W1 (Dn T H H1) H1 H2 w2 e2 us W2) : PostC p ρ ρ'' D G W T H H2 Wc e2 us W2 where
  ag := fun id hd => by rw [h2.ag id (.inl hd), h1.ag id hd]
  env := by have := h2.env; rwa [Dn_comp f1.le f2.le] at this
  hr := by have := h2.hr; rwa [Dn_comp f1.le f2.le, Dn_comp f1.le f2.le, Gc_comp f1 f2 hW] at this
  below := h1.below.trans h2.below
theorem PreC.op [Th] (hp : PreC p ρ D G W T H H2 R Wr) (h12 : H1.next ≤ H2.next) (hr1 : ∀ x ∈ r1, x < H.next) (hw1 : ∀ x ∈ w1, x < H.next) (hR : ∀ id ∈ r1, id < p → id ∈ R) (hW : ∀ id ∈ w1, id < p → id ∈ Wr) : Pre ρ D G W T H H1 r1 w1 := by
  have key : ∀ id, id ∈ r1 ∨ id ∈ w1 → T id ∧ G id = H.get id := fun id h => by
    by_cases hlt : id < p
    · exact hp.tr id (h.elim (fun h => .inl (hR id h hlt)) fun h => .inr (.inl (hW id h hlt)))
    · exact hp.tr id (.inr (.inr ⟨by omega, h.elim (hr1 id) (hw1 id)⟩))
  exact ⟨hp.hr, fun id h => (key id h).1, fun id h => (key id h).2, fun id h1 h2 => hp.fresh id h1 (by omega)⟩
theorem Gn_Gc [Th] (hp : PreC p ρ D G W T H H2 R Wr) (hf : Fr H H1 w1) (hw1 : ∀ x ∈ w1, x < H.next) : Gn G H H1 w1 = Gc p G H1 (insAll p w1 []) := by
  funext id
  have hle := hp.le
  have hle1 := hf.1
  unfold Gn Gc
  by_cases h : id ∈ w1
  · rw [if_pos (.inl h), if_pos]
    by_cases hlt : id < p
    · exact .inl (insAll_mem.2 (.inl ⟨h, hlt⟩))
    · have := hw1 id h; exact .inr (by omega)
  · have hn : id ∉ insAll p w1 [] := fun hh => by rcases insAll_mem.1 hh with hh | hh; exact h hh.1; cases hh
    by_cases h2 : H.next ≤ id ∧ id < H1.next
    · rw [if_pos (.inr h2), if_pos (.inr (by omega))]
    · rw [if_neg (by rintro (hh | hh); exact h hh; exact h2 hh)]
      by_cases h3 : p ≤ id ∧ id < H1.next
      · have h4 : id < H.next := by omega
        rw [if_pos (.inr h3), (hp.tr id (.inr (.inr ⟨h3.1, h4⟩))).2, hf.2 id h4 h]
      · rw [if_neg (by rintro (hh | hh); exact hn hh; exact h3 hh)]
/-- What an operation leaves, as code leaves it. -/
theorem PostC.of_post [Th] (hp : PreC p ρ D G W T H H2 R Wr) (hf : Fr H H1 w1) (hw1 : ∀ x ∈ w1, x < H.next) (he : VRs ρ D env a.tmps.toList) {v v' : Value} {d : Option Tmp} (h : Post ρ D G W T H H1 w1 v v' W1) :
    ∃ ρ', PostC p ρ ρ' D G W T H H1 (insAll p w1 []) (aputs env d v) (a.put d v').tmps.toList W1 := by
  obtain ⟨ρ', hag, hv, hhr, hb⟩ := h
  refine ⟨ρ', hag, ?_, by rw [← Gn_Gc hp hf hw1]; exact hhr, hb⟩
  have he' := VRs.mono (ρ' := ρ') (D' := Dn D H H1) hag (fun _ h => .inl h) he
  cases d with
  | none => exact he'
  | some t => simpa [aputs, lset_eq, Act.put] using he'.set t hv
theorem PostC.same [Th] (hp : PreC p ρ D G W T H H2 R Wr) (he : VRs ρ D env vs) : PostC p ρ ρ D G W T H H [] env vs W where
  ag := fun _ _ => rfl
  env := by rw [Dn_same]; exact he
  hr := by
    rw [Dn_same, Dn_same]
    refine hp.hr.congrG fun id hT => ?_
    unfold Gc
    split
    · rename_i h
      rcases h with h | h
      · cases h
      · exact (hp.tr id (.inr (.inr h))).2.symm
    · rfl
  below := Below.refl _ _
theorem wanted_eq [Th] (he : VRs ρ D env a.tmps.toList) (ops : Array Oper) (o : Oper) : Region.wanted o (yielded ops a.tmps) = Region.wanted o (ayield ops env) := by
  have key : yielded ops a.tmps = ayield ops env := by
    funext j
    unfold yielded ayield
    cases hd : (ops[j]?).bind (·.dst) with
    | none => rfl
    | some t =>
      simp only [Option.bind_some]
      have hlen := he.length
      cases hv : env[t]? with
      | some v =>
        obtain ⟨v', hv', hr⟩ := he.get t _ hv
        have e1 : a.tmps[t]? = some v' := by simpa using hv'
        rw [e1]
        cases hr with
        | hole =>
          rename_i i
          have hb := Th.nb i
          generalize Th.th i = u at hb
          cases u <;> first | rfl | exact absurd rfl (hb _)
        | _ => rfl
      | none =>
        have h1 := List.getElem?_eq_none_iff.1 hv
        have e1 : a.tmps[t]? = none := Array.getElem?_eq_none (by rw [← Array.length_toList, hlen]; exact h1)
        rw [e1]
  rw [key]
end
end Go.Proofs.Ytpjkbjpjhkcofaa.Ev
