/- EV, part To: what is told, not run: sorted keys, copies of maps: how the library's contracts speak of the abstract heap. No program here. -/
import Derived.Test.YtpjkbjpjhkcofaaEvK
import Derived.Sort.KeysCollected
import Derived.Maps.Own
namespace Go.Proofs.Ytpjkbjpjhkcofaa.Ev
open Go Go.RowKit Go.Maps
set_option linter.unusedVariables false
set_option linter.unusedSimpArgs false
theorem asle_iff : ∀ a b : List UInt8, asle a b = true ↔ a ≤ b
  | [], b => by simp [asle]
  | x :: a, [] => by simp [asle]
  | x :: a, y :: b => by
    have h1 : Nat.blt x.toNat y.toNat = true ↔ x < y := by rw [Nat.blt_eq]; exact UInt8.lt_iff_toNat_lt.symm
    have h2 : Nat.beq x.toNat y.toNat = true ↔ x = y := by rw [beq_iff]; exact UInt8.toNat_inj
    unfold asle
    rw [List.cons_le_cons_iff, Bool.or_eq_true, Bool.and_eq_true, h1, h2, asle_iff a b]
theorem asins_perm (x : ByteArray) : ∀ l : List ByteArray, (asins x l).Perm (x :: l)
  | [] => .refl _
  | y :: l => by
    unfold asins
    split
    · exact .refl _
    · exact ((asins_perm x l).cons y).trans (.swap x y l)
theorem asort_perm [Th] : ∀ l : List ByteArray, (asort l).Perm l
  | [] => .refl _
  | x :: l => (asins_perm x (asort l)).trans ((asort_perm l).cons x)
abbrev inOrder (l : List ByteArray) : Prop := l.Pairwise fun a b => a.data.toList ≤ b.data.toList
theorem asins_sorted [Th] (x : ByteArray) : ∀ l : List ByteArray, inOrder l → inOrder (asins x l)
  | [], _ => by simp [asins, inOrder]
  | y :: l, h => by
    obtain ⟨h1, h2⟩ := List.pairwise_cons.1 h
    unfold asins
    split
    · rename_i hle
      rw [asle_iff] at hle
      exact List.pairwise_cons.2 ⟨fun z hz => by
        rcases List.mem_cons.1 hz with rfl | hz
        · exact hle
        · exact List.le_trans hle (h1 z hz), h⟩
    · rename_i hle
      rw [asle_iff] at hle
      have hyx : y.data.toList ≤ x.data.toList := (List.le_total _ _).resolve_left hle
      exact List.pairwise_cons.2 ⟨fun z hz => by
        rcases List.mem_cons.1 ((asins_perm x l).mem_iff.1 hz) with rfl | hz
        · exact hyx
        · exact h1 z hz, asins_sorted x l h2⟩
theorem asort_sorted [Th] : ∀ l : List ByteArray, inOrder (asort l)
  | [] => by simp [asort, inOrder]
  | x :: l => asins_sorted x _ (asort_sorted l)
theorem asort_merge [Th] {ks : List ByteArray} {ss : List (List UInt8)} (h : ss.Perm (ks.map (·.data.toList))) : ss.mergeSort (fun x y => decide (x ≤ y)) = (asort ks).map (·.data.toList) := by
  have h1 : ss.Perm ((asort ks).map (·.data.toList)) := h.trans ((asort_perm ks).map _).symm
  rw [mergeSort_of_perm h1]
  refine List.mergeSort_of_pairwise ?_
  rw [List.pairwise_map]
  exact (asort_sorted ks).imp fun {a b} hab => by simpa using hab
theorem encStr_of (s : ByteArray) : encStr s.data.toList = .string s := by
  obtain ⟨⟨l⟩⟩ := s
  rfl
section
variable {P : Program} {ρ : Rho} {D : Nat → Prop} {G G' : Nat → Option Blk} {W W' : World} {T : Nat → Prop} {H H' : AH} {R Wr : List Nat}
/-- Elements that are not looked at. -/
def R0 : Value → Option (DataW Nat × List MemPlace) := fun _ => some (.nil, [])
theorem keys_of [Th] : ∀ {es : List AEnt} {l : List MapEntry} {ks : List ByteArray}, EntR ρ D es l → es.mapM (fun e => astr e.key) = some ks → l.map (·.key) = ks.map Value.string
  | _, _, ks, .nil, h => by simp at h; subst h; rfl
  | _, _, ks, .cons (e := e) (e' := e') hk hv hb t, h => by
    simp only [List.mapM_cons, Option.bind_eq_bind, Option.bind_eq_some_iff, Option.pure_def, Option.some.injEq] at h
    obtain ⟨k, hk1, ks', hks, rfl⟩ := h
    have hke : e.key = .string k := by
      unfold astr at hk1
      split at hk1
      · rename_i s hs
        simp only [Option.some.injEq] at hk1
        rw [hs, hk1]
      · cases hk1
    have hke' : e'.key = .string k := by rw [hke] at hk; exact VR.flat_eq hk rfl
    rw [List.map_cons, List.map_cons, hke', keys_of t hks]
theorem borns_of [Th] {ck : Nat} : ∀ {es : List AEnt} {l : List MapEntry}, EntR ρ D es l → abornAll es ck = true → (∀ x ∈ l, x.born < ck) ∧ (l.map (·.born)).Nodup ∧ l.map (·.born) = es.map (·.born)
  | _, _, .nil, _ => ⟨fun _ h => (by cases h), .nil, rfl⟩
  | _, _, .cons (e := e) (e' := e') (l := es) (l' := l) hk hv hb t, h => by
    unfold abornAll at h
    rw [Bool.and_eq_true, Bool.and_eq_true, Nat.blt_eq] at h
    obtain ⟨⟨h1, h2⟩, h3⟩ := h
    obtain ⟨g1, g2, g3⟩ := borns_of t h3
    refine ⟨fun x hx => ?_, ?_, by simp [hb, g3]⟩
    · rcases List.mem_cons.1 hx with rfl | hx
      · rw [hb]; exact h1
      · exact g1 x hx
    · rw [List.map_cons]
      refine List.nodup_cons.2 ⟨fun hm => ?_, g2⟩
      rw [g3, hb] at hm
      obtain ⟨f, hf, e1⟩ := List.mem_map.1 hm
      have := List.all_eq_true.1 h2 f hf
      rw [show Nat.beq f.born e.born = true from (beq_iff _ _).2 e1] at this
      cases this
theorem apart_of [Th] : ∀ {ks : List ByteArray}, aapart ks = true → (ks.map Value.string).Nodup
  | [], _ => .nil
  | x :: l, h => by
    unfold aapart at h
    rw [Bool.and_eq_true] at h
    rw [List.map_cons]
    refine List.nodup_cons.2 ⟨fun hm => ?_, apart_of h.2⟩
    obtain ⟨y, hy, e⟩ := List.mem_map.1 hm
    have e' : y = x := by simpa using e
    subst e'
    have := List.all_eq_true.1 h.1 y hy
    rw [(bytesEq y y).2 rfl] at this
    cases this
theorem short_of : ∀ {ks : List ByteArray}, ashort ks = true → ∀ x ∈ ks, x.size ≤ maxLen
  | [], _, x, hx => by cases hx
  | y :: l, h, x, hx => by
    unfold ashort at h
    rw [Bool.and_eq_true] at h
    rcases List.mem_cons.1 hx with rfl | hx
    · have := Nat.le_of_ble_eq_true h.1
      have e : x.data.toList.length = x.size := by obtain ⟨⟨l⟩⟩ := x; rfl
      have : maxLen = 9223372036854775807 := rfl
      omega
    · exact short_of h.2 x hx
theorem fit_of [Th] {k : TypeId} (hk : P.underlying k = some .string) {es : List AEnt} {es' : Array MapEntry} {ks : List ByteArray} {ck : Nat} (hes : EntR ρ D es es'.toList) (hks : es.mapM (fun e => astr e.key) = some ks) (h1 : abornAll es ck = true) (h2 : aapart ks = true) (h3 : ashort ks = true) (h4 : es.length ≤ 1000) :
    WideElems.Fit P k R0 es' ck ∧ (es'.toList.map fun x => strOf (WideElems.rg P k R0 x).1) = ks.map (·.data.toList) := by
  have hkeys := keys_of hes hks
  obtain ⟨g1, g2, _⟩ := borns_of hes h1
  have hsz : es'.size ≤ 1000 := by have := hes.length; simp at this; omega
  have key : ∀ x ∈ es'.toList, ∃ s ∈ ks, x.key = .string s ∧ WideElems.rd P k R0 x = some (.string s.data.toList, .nil) := fun x hx => by
    have : x.key ∈ es'.toList.map (·.key) := List.mem_map.2 ⟨x, hx, rfl⟩
    rw [hkeys] at this
    obtain ⟨s, hs, e⟩ := List.mem_map.1 this
    refine ⟨s, hs, e.symm, ?_⟩
    have hko : keyOf P k x.key = some (.string s.data.toList) := by
      rw [← e]
      simp [keyOf, hk, mapKey, short_of h3 s hs]
    simp [WideElems.rd, hko, R0]
  refine ⟨⟨Nat.le_trans hsz (by decide), ⟨g1, g2, by rw [hkeys]; exact apart_of h2⟩, fun x hx => by obtain ⟨s, _, _, h⟩ := key x hx; exact ⟨_, h⟩⟩, ?_⟩
  have : ∀ (l : List MapEntry) (ks' : List ByteArray), (∀ x ∈ l, ∃ s, x.key = .string s ∧ WideElems.rd P k R0 x = some (.string s.data.toList, .nil)) → l.map (·.key) = ks'.map Value.string → (l.map fun x => strOf (WideElems.rg P k R0 x).1) = ks'.map (·.data.toList) := by
    intro l
    induction l with
    | nil => intro ks' _ h; cases ks' with
      | nil => rfl
      | cons y t => simp at h
    | cons x l ih =>
      intro ks' hl h
      cases ks' with
      | nil => simp at h
      | cons y t =>
        simp only [List.map_cons, List.cons.injEq] at h ⊢
        obtain ⟨s, e1, e2⟩ := hl x (by simp)
        have : s = y := by rw [e1] at h; simpa using h.1
        subst this
        exact ⟨by rw [WideElems.rg_of e2]; rfl, ih t (fun z hz => hl z (by simp [hz])) h.2⟩
  exact this _ _ (fun x hx => by obtain ⟨s, _, h⟩ := key x hx; exact ⟨s, h⟩) hkeys
theorem keys_perm {k : TypeId} {es' : Array MapEntry} {ks : List ByteArray} (h : (es'.toList.map fun x => strOf (WideElems.rg P k R0 x).1) = ks.map (·.data.toList)) : (strKeys (.map ((es'.toList.map (WideElems.rg P k R0)).foldr DataW.insert []))).Perm (ks.map (·.data.toList)) := by
  rw [← h]
  unfold strKeys
  have := (WideShapes.sorted_perm (es'.toList.map (WideElems.rg P k R0))).map fun p => strOf p.1
  rwa [List.map_map] at this
/-- A new name for a block that somebody laid. -/
theorem HR.adopt [Th] (h : HR ρ D G W T) {n : Nat} (hn : ¬ D n) {b : Blk} {loc : Loca} (hg : G' n = some b) (hG : ∀ i, i ≠ n → G' i = G i) (hsz : W.heap.size ≤ W'.heap.size) (hkeep : ∀ k, k < W.heap.size → W'.heap[k]? = W.heap[k]?) (hnew : W.heap.size ≤ loc.blk)
    (hB : BlkR (fun i => if i = n then loc else ρ i) (fun i => D i ∨ i = n) n W' b.obj) : HR (fun i => if i = n then loc else ρ i) (fun i => D i ∨ i = n) G' W' (fun i => T i ∨ i = n) := by
  have hold : ∀ i, T i → i ≠ n := fun i hi e => hn (e ▸ h.dom i hi)
  refine ⟨fun id hid => ?_, fun id c hid hc hl => ?_, fun i j c d hi hj hij hci hdj hl1 hl2 hs => ?_⟩
  · rcases hid with hid | rfl
    · exact .inl (h.dom id hid)
    · exact .inr rfl
  · rcases hid with hid | rfl
    · have hne := hold id hid
      rw [hG id hne] at hc
      have h1 := h.blk id c hid hc hl
      exact h1.same (fun i hi => if_neg (fun e : i = n => hn (by rw [← e]; exact hi))) (if_neg hne) (fun i hi => .inl hi) hsz (hkeep _ h1.lt)
    · rw [hg] at hc; cases hc; exact hB
  · rcases hi with hi | rfl <;> rcases hj with hj | rfl
    · have h1 := hold i hi
      have h2 := hold j hj
      simp only [if_neg h1, if_neg h2]
      exact h.dist i j c d hi hj hij (by rw [← hG i h1]; exact hci) (by rw [← hG j h2]; exact hdj) hl1 hl2 hs
    · have h1 := hold i hi
      simp only [if_neg h1, if_true]
      have := (h.blk i c hi (by rw [← hG i h1]; exact hci) hl1).lt
      omega
    · have h2 := hold j hj
      simp only [if_neg h2, if_true]
      have := (h.blk j d hj (by rw [← hG j h2]; exact hdj) hl2).lt
      omega
    · exact absurd rfl hij
theorem post_strings [Th] {ss : List ByteArray} {R : List Nat} {e : TypeId} (hne : ss ≠ []) (hp : Pre ρ D G W T H (H.new ⟨.cells (ss.map .string) 1, true, none⟩) R []) {v : Value} {n : Nat} (hn : n = ss.length) (hrow : W'.ownsRow W.heap.size e 1 v n (ss.map Value.string)) (hb : Below W.heap.size W W') :
    Post ρ D G W T H (H.new ⟨.cells (ss.map .string) 1, true, none⟩) [] (.slice (some ⟨H.next, 0, none⟩) ss.length ss.length) v W' := by
  subst hn
  have hn : ¬ D H.next := hp.fresh _ (Nat.le_refl _) (Nat.lt_succ_self _)
  have hD : ∀ E : Nat → Prop, Dn E H (H.new ⟨.cells (ss.map .string) 1, true, none⟩) = fun id => E id ∨ id = H.next := fun E => by
    funext id
    simp only [Dn, AH.new]
    exact propext ⟨fun h => h.imp_right (fun h => by omega), fun h => h.imp_right (fun h => by omega)⟩
  obtain ⟨_, h1 | ⟨g, cap, cur, rfl, hg, hcell, hcap, _, hcs, htk⟩⟩ := hrow
  · exact absurd (List.length_eq_zero_iff.1 h1.2) hne
  · refine ⟨fun i => if i = H.next then ⟨g, 0, cur.size, 1⟩ else ρ i, fun id hid => if_neg (fun e : id = H.next => hn (by rw [← e]; exact hid)), ?_, ?_, hb.os, hb.tape, hb.output, hb.size, fun k hk => by omega⟩
    · rw [hD]
      have := VR.slice (ρ := fun i => if i = H.next then ⟨g, 0, cur.size, 1⟩ else ρ i) (D := fun id => D id ∨ id = H.next) (b := H.next) (i := 0) (l := ss.length) (c := ss.length) (c' := cap) (.inr rfl) (Nat.le_refl _) hcap (by simp [hcs])
      simpa using this
    · rw [hD, hD]
      refine hp.hr.adopt hn (b := ⟨.cells (ss.map .string) 1, true, none⟩) (loc := ⟨g, 0, cur.size, 1⟩) ?_ (fun i hi => ?_) hb.size hb.block hg ?_
      · unfold Gn; rw [if_pos (.inr ⟨Nat.le_refl _, by simp [AH.new]⟩), AH.get_new, if_pos rfl]
      · unfold Gn
        rw [if_neg]
        rintro (h | ⟨h1, h2⟩)
        · simp at h
        · simp only [AH.new] at h2; omega
      · unfold BlkR
        simp only [if_true]
        refine ⟨⟨trivial, fun _ => trivial⟩, ⟨cur, e, (0, 0), hcell, by omega, .inl rfl⟩, by simp [hcs]; exact hcap, fun i v hi => ⟨v, ?_, ?_⟩⟩
        · have hil : i < ss.length := by have := (List.getElem?_eq_some_iff.1 hi).1; simpa using this
          rw [← htk, List.getElem?_take_of_lt (by omega)] at hi
          unfold World.cell?
          simp only [hcell, Nat.zero_add]
          simpa using hi
        · have : v ∈ ss.map Value.string := List.mem_of_getElem? hi
          obtain ⟨s, _, rfl⟩ := List.mem_map.1 this
          exact .flat rfl
/-- Nothing that lay before is turned. -/
theorem post_keep [Th] (h : HR ρ D G W T) (hb : Below W.heap.size W W') {v v' : Value} (hv : VR ρ D v v') : Post ρ D G W T H H [] v v' W' := by
  refine ⟨ρ, fun _ _ => rfl, by rw [Dn_same]; exact hv, ?_, hb.os, hb.tape, hb.output, hb.size, fun k hk => by omega⟩
  rw [Dn_same, Dn_same, Gn_same]
  exact ⟨h.dom, fun id b hid hg hl => by
    have h1 := h.blk id b hid hg hl
    exact h1.same (fun _ _ => rfl) rfl (fun _ h => h) hb.size (hb.block _ h1.lt), h.dist⟩
end
end Go.Proofs.Ytpjkbjpjhkcofaa.Ev
