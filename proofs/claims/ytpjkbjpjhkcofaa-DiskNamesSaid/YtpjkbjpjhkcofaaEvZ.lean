/- EV, part Z: one more operation of a drawn region, and the region. No program here. -/
import Derived.Test.YtpjkbjpjhkcofaaEvY
namespace Go.Proofs.Ytpjkbjpjhkcofaa.Ev
open Go Go.RowKit
set_option linter.unusedVariables false
set_option linter.unusedSimpArgs false
section
variable {P : Program} {xc : XC} {call : CallF} {p : Nat} {ops : Array Oper} {env e2 : List Value} {H H2 : AH} {r w : List Nat} {fs : List Ent} {es : Nat → List Value} {Hs : Nat → AH} {vs : Nat → Value} {ft : Nat → List Nat × List Nat}
  {ρ ρ' : Rho} {D : Nat → Prop} {G G' : Nat → Option Blk} {W w1 : World} {T : Nat → Prop} {a0 a : Act} {L : Array Bool} {env' : List Value}
/-- The invariant where one more has come up. -/
theorem Inv.next [Th] (hfr : CallFr call) (R : Run P xc call p ops ops.toList env H e2 H2 r w fs es Hs vs ft) (hs : StatOk ops) (hf : FreeOk ops fs) (I : Inv p ops es Hs vs ft ρ D G W T a0 L a w1 ρ' G' env') (hL : L.size = ops.size)
    {j : Nat} {o : Oper} (ho : ops[j]? = some o) (hnot : ¬ on L j) (hr : ∀ e ∈ o.after, Region.binds .any e = true → on L e.on) {v' : Value} {w' : World} (hpost : Post ρ' (DL D Hs ops.size L) G' w1 (DL T Hs ops.size L) (Hs j) (Hs (j + 1)) (ft j).2 (vs j) v' w') :
    ∃ ρ'' G'' env'', Inv p ops es Hs vs ft ρ D G W T a0 (L.setIfInBounds j true) (a.put o.dst v') w' ρ'' G'' env'' := by
  have hj : j < ops.size := (Array.getElem?_eq_some_iff.1 ho).1
  obtain ⟨ρ'', hag, hv, hhr, hb⟩ := hpost
  have hLj : j < L.size := by omega
  have henv := (VRs.mono (ρ' := ρ'') (D' := Dn (DL D Hs ops.size L) (Hs j) (Hs (j + 1))) hag (fun _ h => .inl h) I.env).puts hv o.dst
  rw [← DL_set hj hL] at henv
  rw [← DL_set hj hL, ← DL_set hj hL] at hhr
  refine ⟨ρ'', Gn G' (Hs j) (Hs (j + 1)) (ft j).2, aputs env' o.dst (vs j), fun k q hq hk e he hbe => ?_, fun id hd => ?_, henv, ?_, fun i q d hq hi hd hlt => ?_, fun t ht => ?_, hhr, fun id i hi hon hw hk => ?_, fun id hw => ?_, I.below.trans hb, by rw [put_defers, I.defers]⟩
  · rw [on_set hLj] at hk ⊢
    rcases hk with hk | rfl
    · exact .inl (I.cl k q hq hk e he hbe)
    · rw [ho] at hq; cases hq; exact .inl (hr e he hbe)
  · rw [hag id (.inl hd), I.ag id hd]
  · cases o.dst <;> simp [aputs, lset_eq, I.len]
  · rcases (on_set hLj).1 hi with hi | rfl
    · have h1 := I.got i q d hq hi hd hlt
      cases hc : o.dst with
      | none => exact h1
      | some d' => rw [aputs_some]; exact (List.getElem?_set_ne (fun (e : d' = d) => hnot (hs.one i j q o d hq ho hd (by rw [hc, e]) ▸ hi))).trans h1
    · rw [ho] at hq; cases hq
      rw [hd, aputs_some]
      exact List.getElem?_set_self (by rw [I.len]; exact hlt)
  · have h1 := I.base t fun i q hq hi => ht i q hq ((on_set hLj).2 (.inl hi))
    have h2 := ht j o ho ((on_set hLj).2 (.inr rfl))
    cases hc : o.dst with
    | none => exact h1
    | some d' => rw [aputs_some]; exact (List.getElem?_set_ne (fun (e : d' = t) => h2 (by rw [hc, e]))).trans h1
  · have hGn : wrote Hs ft j id → Gn G' (Hs j) (Hs (j + 1)) (ft j).2 id = (Hs (j + 1)).get id := fun h => if_pos h
    rcases (on_set hLj).1 hon with hon | rfl
    · have hnj : ¬ wrote Hs ft j id := fun hwj => by
        rcases Nat.lt_trichotomy i j with h | h | h
        · exact hk j h hj ((on_set hLj).2 (.inr rfl)) hwj
        · exact hnot (h ▸ hon)
        · exact hnot ((R.anc hfr hf h hi (.inl ⟨hwj, .inr hw⟩)).listed I.cl hon)
      rw [show Gn G' (Hs j) (Hs (j + 1)) (ft j).2 id = G' id from if_neg hnj]
      exact I.g1 id i hi hon hw fun k h1 h2 h3 => hk k h1 h2 ((on_set hLj).2 (.inl h3))
    · exact hGn hw
  · rw [show Gn G' (Hs j) (Hs (j + 1)) (ft j).2 id = G' id from if_neg (hw j hj ((on_set hLj).2 (.inr rfl)))]
    exact I.g0 id fun i hi hon => hw i hi ((on_set hLj).2 (.inl hon))
theorem Inv.step [Th] (hcall : CallOk P call) (hfr : CallFr call) (hcmp : CmpOk P xc) (R : Run P xc call p ops ops.toList env H e2 H2 r w fs es Hs vs ft) (hp : PreC p ρ D G W T H H2 r w) (hs : StatOk ops) (hf : FreeOk ops fs) (I : Inv p ops es Hs vs ft ρ D G W T a0 L a w1 ρ' G' env') (hL : L.size = ops.size)
    {j : Nat} {o : Oper} (ho : ops[j]? = some o) (hnot : ¬ on L j) (hr : ∀ e ∈ o.after, Region.binds .any e = true → on L e.on) {Q : Exit → Act → World → Prop} :
    wpOp P ops Q j (fun a' w' => ∃ ρ'' G'' env'', Inv p ops es Hs vs ft ρ D G W T a0 (L.setIfInBounds j true) a' w' ρ'' G'' env'') a w1 := by
  have hj : j < ops.size := (Array.getElem?_eq_some_iff.1 ho).1
  have hpre := I.pre hfr R hp hf ho hnot hr
  obtain ⟨_, hrow⟩ := R.row j o (by simpa using ho)
  unfold wpOp
  rw [ho]
  simp only []
  rw [I.wanted R hs ho hnot hr]
  rcases hrow with ⟨hw, h1⟩ | ⟨hw, h1, h2, h3⟩
  · rw [if_pos hw]
    obtain ⟨h1, _, _⟩ := aopB_some h1
    rw [aop_congr (I.opers R hs ho hnot hr)] at h1
    exact .inl (aop_sound hcall hcmp h1 I.env hpre fun v' w' hpost => I.next hfr R hs hf hL ho hnot hr hpost)
  · rw [if_neg (by simp [hw])]
    refine I.next hfr R hs hf hL ho hnot hr ?_
    have := post_same (H := Hs j) (v := undef) (v' := undef) hpre.hr (.tuple .nil)
    rw [h1, h2, h3]
    exact this
theorem DL_none (n : Nat) (h : ∀ i, i < n → ¬ on L i) : DL D Hs n L = D := by
  funext id
  simp only [DL, eq_iff_iff]
  exact ⟨fun hh => hh.elim (fun h => h) fun ⟨i, hi, h2, _⟩ => absurd h2 (h i hi), .inl⟩
theorem DL_all [Th] (hfr : CallFr call) (R : Run P xc call p ops ops.toList env H e2 H2 r w fs es Hs vs ft) (h : ∀ i, i < ops.size → on L i) : DL D Hs ops.size L = Dn D H H2 := by
  have hlen : ops.toList.length = ops.size := by simp
  have e3 := R.hn
  rw [hlen] at e3
  funext id
  simp only [DL, Dn, eq_iff_iff]
  constructor
  · rintro (hh | ⟨i, hi, _, h1, h2⟩)
    · exact .inl hh
    · have m1 := R.mono hfr (Nat.zero_le i) (by omega)
      have m2 := R.mono hfr (i := i + 1) (j := ops.size) (by omega) (by omega)
      rw [R.h0] at m1
      rw [e3] at m2
      exact .inr (by omega)
  · rintro (hh | ⟨h1, h2⟩)
    · exact .inl hh
    · obtain ⟨m, hm, h3, h4⟩ := Run.maker Hs (id := id) (j := ops.size) (by rw [R.h0]; exact h1) (by rw [e3]; exact h2)
      exact .inr ⟨m, hm, h m hm, h3, h4⟩
/-- Where all has come up. -/
theorem Inv.all [Th] (hfr : CallFr call) (R : Run P xc call p ops ops.toList env H e2 H2 r w fs es Hs vs ft) (hp : PreC p ρ D G W T H H2 r w) (hs : StatOk ops) (I : Inv p ops es Hs vs ft ρ D G W T a0 L a w1 ρ' G' env') (h : ∀ i, i < ops.size → on L i) : PostC p ρ ρ' D G W T H H2 w e2 a.tmps.toList w1 := by
  have hlen : ops.toList.length = ops.size := by simp
  have e3 := R.hn
  have e4 := R.en
  rw [hlen] at e3 e4
  have he : env' = e2 := by
    apply List.ext_getElem?
    intro t
    rw [← e4]
    by_cases hx : ∃ (i : Nat) (q : Oper), ops[i]? = some q ∧ q.dst = some t
    · obtain ⟨i, q, hq, hd⟩ := hx
      have hi := (Array.getElem?_eq_some_iff.1 hq).1
      by_cases hlt : t < (es 0).length
      · rw [I.got i q t hq (h i hi) hd hlt, R.es_got hs hq hd hlt _ hi (Nat.le_refl _)]
      · rw [List.getElem?_eq_none (by rw [I.len]; omega), List.getElem?_eq_none (by rw [R.es_len _ (Nat.le_refl _)]; omega)]
    · rw [I.base t fun i q hq _ hd => hx ⟨i, q, hq, hd⟩, R.es_base _ (Nat.le_refl _) fun i q _ hq hd => hx ⟨i, q, hq, hd⟩]
  have henv := I.env
  have hhr := I.hr
  rw [DL_all hfr R h] at henv hhr
  rw [DL_all hfr R h] at hhr
  rw [he] at henv
  refine ⟨I.ag, henv, hhr.congrG fun id hT => ?_, I.below⟩
  have hle := hp.le
  have nmono : ∀ i, i ≤ ops.size → H.next ≤ (Hs i).next ∧ (Hs i).next ≤ H2.next := fun i hi => by
    have m1 := R.mono hfr (Nat.zero_le i) (by omega)
    have m2 := R.mono hfr (i := i) (j := ops.size) hi (by omega)
    rw [R.h0] at m1
    rw [e3] at m2
    exact ⟨m1, m2⟩
  unfold Gc
  rcases lastw (fun i => wrote Hs ft i id) ops.size with hn | ⟨i, hi, hw, hk⟩
  · rw [I.g0 id fun i hi _ => hn i hi]
    split
    · rename_i hc
      rcases hc with hc | hc
      · obtain ⟨i, hi, h1, _⟩ := (R.w id).1 hc
        exact absurd (.inl h1) (hn i (by omega))
      · have hlt : id < H.next := by
          by_cases hlt : id < H.next
          · exact hlt
          · obtain ⟨m, hm, h3, h4⟩ := Run.maker Hs (id := id) (j := ops.size) (by rw [R.h0]; omega) (by rw [e3]; exact hc.2)
            exact absurd (.inr ⟨h3, h4⟩) (hn m hm)
        rw [(hp.tr id (.inr (.inr ⟨hc.1, hlt⟩))).2, ← e3, ← R.h0]
        exact R.keep hfr (Nat.zero_le _) (by omega) (by rw [R.h0]; exact hlt) fun k _ hk hm => hn k hk (.inl hm)
    · rfl
  · rw [I.g1 id i hi (h i hi) hw fun k h1 h2 _ => hk k h1 h2]
    have m1 := nmono i (by omega)
    have m2 := nmono (i + 1) (by omega)
    have sf := R.step_fr hfr (i := i) (by omega)
    have hlt : id < (Hs (i + 1)).next := by
      rcases hw with hw | hw
      · have := sf.2.2 id hw; have := sf.1.1; omega
      · exact hw.2
    rw [if_pos]
    · rw [← e3]
      exact R.keep hfr (i := i + 1) (by omega) (by omega) hlt fun k h1 h2 hm => hk k (by omega) h2 (.inl hm)
    · by_cases hlp : id < p
      · rcases hw with hw | hw
        · exact .inl ((R.w id).2 ⟨i, by omega, hw, hlp⟩)
        · omega
      · exact .inr (by omega)
end
end Go.Proofs.Ytpjkbjpjhkcofaa.Ev
