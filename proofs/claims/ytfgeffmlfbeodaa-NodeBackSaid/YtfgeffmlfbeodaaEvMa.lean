/- EV, the first half: a heap in small, an evaluator, and that each operation is sound. No condition. -/
import Derived.Laws.IdiomCopy
import Derived.Deep.MidRow
import Derived.Deep.Upon
import Derived.Below
import Derived.Tactics2
import Derived.Laws.MakeOwn
import Derived.Orders
import Derived.Laws.BytesString
import Derived.Laws.Externs
import Derived.Laws.Cells
import Derived.OrdersHeld
import Derived.Deep.AppendSrc
import Derived.Lib.SlBytesConst
/- EV, part A: what an abstract heap says of a world. No program here. -/
namespace Go.Proofs.Ytfgeffmlfbeodaa.Ev
open Go
set_option linter.unusedVariables false
set_option linter.unusedSimpArgs false
/-- Where a name lies: its block, the place in it, how many cells are there from that place on, how many cells an element has. -/
structure Loca where
  blk : Nat
  off : Nat
  ext : Nat
  esz : Nat
abbrev Rho := Nat → Loca
/-- Values without addresses. -/
def flat : Value → Bool
  | .bool _ | .int _ _ | .string _ | .nilFunc | .nilIface => true
  | .pointer none | .slice none _ _ | .map none | .chan none => true
  | _ => false
mutual
inductive VR (ρ : Rho) (D : Nat → Prop) : Value → Value → Prop
  | flat {v : Value} (h : flat v = true) : VR ρ D v v
  | ptr {b i : Nat} (h : D b) : VR ρ D (.pointer (some ⟨b, i, none⟩)) (.pointer (some ⟨(ρ b).blk, (ρ b).off + i, none⟩))
  | slice {b i l c c' : Nat} (h : D b) (hl : l ≤ c) (hc : c ≤ c') (he : i + c' * (ρ b).esz ≤ (ρ b).ext) : VR ρ D (.slice (some ⟨b, i, none⟩) l c) (.slice (some ⟨(ρ b).blk, (ρ b).off + i, none⟩) l c')
  | empty {b i j : Nat} (h : D b) : VR ρ D (.slice (some ⟨b, i, none⟩) 0 0) (.slice (some ⟨(ρ b).blk, j, none⟩) 0 0)
  | agg {l l' : List Value} (h : VRs ρ D l l') : VR ρ D (.agg ⟨l⟩) (.agg ⟨l'⟩)
  | tuple {l l' : List Value} (h : VRs ρ D l l') : VR ρ D (.tuple ⟨l⟩) (.tuple ⟨l'⟩)
  | func {f : FuncId} {a a' c c' : List Value} (h1 : VRs ρ D a a') (h2 : VRs ρ D c c') : VR ρ D (.func (.func f) ⟨a⟩ ⟨c⟩) (.func (.func f) ⟨a'⟩ ⟨c'⟩)
inductive VRs (ρ : Rho) (D : Nat → Prop) : List Value → List Value → Prop
  | nil : VRs ρ D [] []
  | cons {v v' : Value} {l l' : List Value} (h : VR ρ D v v') (t : VRs ρ D l l') : VRs ρ D (v :: l) (v' :: l')
end
section
variable {ρ ρ' : Rho} {D D' : Nat → Prop}
mutual
theorem VR.mono (hρ : ∀ i, D i → ρ' i = ρ i) (hD : ∀ i, D i → D' i) : ∀ {v v' : Value}, VR ρ D v v' → VR ρ' D' v v'
  | _, _, .flat h => .flat h
  | _, _, .ptr (b := b) h => by rw [← hρ b h]; exact .ptr (hD b h)
  | _, _, .slice (b := b) h hl hc he => by rw [← hρ b h] at he ⊢; exact .slice (hD b h) hl hc he
  | _, _, .empty (b := b) h => by rw [← hρ b h]; exact .empty (hD b h)
  | _, _, .agg h => .agg (VRs.mono hρ hD h)
  | _, _, .tuple h => .tuple (VRs.mono hρ hD h)
  | _, _, .func h1 h2 => .func (VRs.mono hρ hD h1) (VRs.mono hρ hD h2)
theorem VRs.mono (hρ : ∀ i, D i → ρ' i = ρ i) (hD : ∀ i, D i → D' i) : ∀ {l l' : List Value}, VRs ρ D l l' → VRs ρ' D' l l'
  | _, _, .nil => .nil
  | _, _, .cons h t => .cons (VR.mono hρ hD h) (VRs.mono hρ hD t)
end
theorem VRs.length : ∀ {l l' : List Value}, VRs ρ D l l' → l'.length = l.length
  | _, _, .nil => rfl
  | _, _, .cons _ t => by simp [VRs.length t]
theorem VRs.get : ∀ {l l' : List Value}, VRs ρ D l l' → ∀ (i : Nat) (v : Value), l[i]? = some v → ∃ v', l'[i]? = some v' ∧ VR ρ D v v'
  | _, _, .nil, i, v, h => by simp at h
  | _, _, .cons h t, 0, v, hv => by simp at hv; subst hv; exact ⟨_, by simp, h⟩
  | _, _, .cons h t, i + 1, v, hv => by simpa using VRs.get t i v (by simpa using hv)
theorem VRs.get' : ∀ {l l' : List Value}, VRs ρ D l l' → ∀ (i : Nat) (v' : Value), l'[i]? = some v' → ∃ v, l[i]? = some v ∧ VR ρ D v v'
  | _, _, .nil, i, v, h => by simp at h
  | _, _, .cons h t, 0, v, hv => by simp at hv; subst hv; exact ⟨_, by simp, h⟩
  | _, _, .cons h t, i + 1, v, hv => by simpa using VRs.get' t i v (by simpa using hv)
theorem VRs.of_get : ∀ {l l' : List Value}, l'.length = l.length → (∀ (i : Nat) (v : Value), l[i]? = some v → ∃ v', l'[i]? = some v' ∧ VR ρ D v v') → VRs ρ D l l'
  | [], [], _, _ => .nil
  | [], _ :: _, h, _ => by simp at h
  | _ :: _, [], h, _ => by simp at h
  | v :: l, v' :: l', h, hg => by
    obtain ⟨u, hu, hr⟩ := hg 0 v rfl
    simp at hu
    subst hu
    exact .cons hr (VRs.of_get (by simpa using h) (fun i x hx => by simpa using hg (i + 1) x (by simpa using hx)))
theorem VRs.append : ∀ {l l' r r' : List Value}, VRs ρ D l l' → VRs ρ D r r' → VRs ρ D (l ++ r) (l' ++ r')
  | _, _, _, _, .nil, h => h
  | _, _, _, _, .cons a t, h => .cons a (VRs.append t h)
theorem VRs.take : ∀ {l l' : List Value} (n : Nat), VRs ρ D l l' → VRs ρ D (l.take n) (l'.take n)
  | _, _, 0, _ => by simp; exact .nil
  | _, _, n + 1, .nil => by simp; exact .nil
  | _, _, n + 1, .cons a t => by simp; exact .cons a (VRs.take n t)
theorem VRs.drop : ∀ {l l' : List Value} (n : Nat), VRs ρ D l l' → VRs ρ D (l.drop n) (l'.drop n)
  | _, _, 0, h => by simpa using h
  | _, _, n + 1, .nil => by simp; exact .nil
  | _, _, n + 1, .cons a t => by simpa using VRs.drop n t
theorem VRs.set : ∀ {l l' : List Value} {v v' : Value} (i : Nat), VRs ρ D l l' → VR ρ D v v' → VRs ρ D (l.set i v) (l'.set i v')
  | _, _, _, _, _, .nil, _ => by simp; exact .nil
  | _, _, _, _, 0, .cons _ t, h => by simpa using .cons h t
  | _, _, _, _, i + 1, .cons a t, h => by simpa using .cons a (VRs.set i t h)
theorem VRs.replicate {v v' : Value} (h : VR ρ D v v') : ∀ n : Nat, VRs ρ D (List.replicate n v) (List.replicate n v')
  | 0 => .nil
  | n + 1 => by rw [List.replicate_succ, List.replicate_succ]; exact .cons h (VRs.replicate h n)
theorem VRs.flat : ∀ {l : List Value}, (∀ v ∈ l, Ev.flat v = true) → VRs ρ D l l
  | [], _ => .nil
  | v :: l, h => .cons (.flat (h v (by simp))) (VRs.flat fun x hx => h x (by simp [hx]))
theorem VR.oneCell {v v' : Value} (h : VR ρ D v v') (ho : v.oneCell' = true) : v'.oneCell' = true := by
  cases h <;> simp_all [Value.oneCell']
theorem VR.flat_eq {v v' : Value} (h : VR ρ D v v') (hf : Ev.flat v = true) : v' = v := by
  cases h <;> simp_all [Ev.flat]
end
/-- What lies under a name. -/
inductive AObj where
  | cells (l : List Value) (z : Nat)
  | iter (s : ByteArray) (pos : Nat)
  | opq (o : Obj)
structure Blk where
  obj : AObj
  live : Bool
  sib : Option Nat
/-- A block has so many cells, of which none is frozen (a mark behind its end may be). -/
def Shp (W : World) (b off ext : Nat) : Prop := ∃ (C : Array Value) (t : TypeId) (fr : Nat × Nat), W.heap[b]? = some (.cells C t fr) ∧ off + ext ≤ C.size ∧ (fr.1 = fr.2 ∨ C.size ≤ fr.1)
theorem Shp.lt {W : World} {b off ext : Nat} (h : Shp W b off ext) : b < W.heap.size := by
  obtain ⟨C, t, fr, hb, _⟩ := h
  exact (Array.getElem?_eq_some_iff.1 hb).1
theorem Shp.cell {W : World} {b off ext : Nat} (h : Shp W b off ext) (j : Nat) (hj : j < ext) : (W.cell? ⟨b, off + j, none⟩).isSome = true ∧ W.frozen? ⟨b, off + j, none⟩ = false := by
  obtain ⟨C, t, ⟨lo, hi⟩, hb, h1, h2⟩ := h
  have hlt : off + j < C.size := by omega
  constructor
  · simp [World.cell?, hb, hlt]
  · simp only [World.frozen?, hb]
    simp only at h2
    rcases h2 with rfl | h2
    · simp
    · simp; omega
theorem heap_setCell' {W : World} {b : Nat} {C : Array Value} {t : TypeId} {fr : Nat × Nat} (h : W.heap[b]? = some (.cells C t fr)) (p : Addr) (v : Value) : ∃ C' : Array Value, (W.setCell p v).heap[b]? = some (.cells C' t fr) ∧ C'.size = C.size := by
  simp only [World.setCell, Array.getElem?_modify]
  by_cases e : p.block = b
  · rw [if_pos e, h]; exact ⟨_, rfl, by split <;> simp⟩
  · rw [if_neg e, h]; exact ⟨C, rfl, rfl⟩
theorem heap_setCells' {b : Nat} (b' : Nat) : ∀ (vs : List Value) (o : Nat) (W : World) (C : Array Value) (t : TypeId) (fr : Nat × Nat), W.heap[b]? = some (.cells C t fr) → ∃ C' : Array Value, (W.setCells b' o vs).heap[b]? = some (.cells C' t fr) ∧ C'.size = C.size
  | [], _, _, C, _, _, h => ⟨C, h, rfl⟩
  | v :: r, o, W, C, t, fr, h => by
    obtain ⟨C1, h1, e1⟩ := heap_setCell' h ⟨b', o, none⟩ v
    obtain ⟨C2, h2, e2⟩ := heap_setCells' b' r (o + 1) _ C1 t fr h1
    exact ⟨C2, h2, e2.trans e1⟩
theorem Shp.setCells {W : World} {b off ext : Nat} (h : Shp W b off ext) (b' o : Nat) (vs : List Value) : Shp (W.setCells b' o vs) b off ext := by
  obtain ⟨C, t, fr, hb, h1, h2⟩ := h
  obtain ⟨C', hb', e⟩ := heap_setCells' b' vs o W C t fr hb
  exact ⟨C', t, fr, hb', by omega, by rw [e]; exact h2⟩
def BlkR (ρ : Rho) (D : Nat → Prop) (id : Nat) (W : World) : AObj → Prop
  | .cells l z => (ρ id).esz = z ∧ Shp W (ρ id).blk (ρ id).off (ρ id).ext ∧ l.length ≤ (ρ id).ext ∧
      ∀ i v, l[i]? = some v → ∃ v', W.cell? ⟨(ρ id).blk, (ρ id).off + i, none⟩ = some v' ∧ VR ρ D v v'
  | .iter s p => (ρ id).off = 0 ∧ W.heap[(ρ id).blk]? = some (.stringIter s p)
  | .opq o => W.heap[(ρ id).blk]? = some o
structure HR (ρ : Rho) (D : Nat → Prop) (G : Nat → Option Blk) (W : World) (T : Nat → Prop) : Prop where
  dom : ∀ id, T id → D id
  blk : ∀ id b, T id → G id = some b → b.live = true → BlkR ρ D id W b.obj
  dist : ∀ i j b c, T i → T j → i ≠ j → G i = some b → G j = some c → b.live = true → c.live = true → ¬ (b.sib = some j ∧ c.sib = some i) → (ρ i).blk ≠ (ρ j).blk
section
variable {ρ ρ' : Rho} {D D' : Nat → Prop} {W W' : World} {id : Nat} {o : AObj}
theorem BlkR.lt (h : BlkR ρ D id W o) : (ρ id).blk < W.heap.size := by
  cases o with
  | cells l z => exact h.2.1.lt
  | iter s p => exact (Array.getElem?_eq_some_iff.1 h.2).1
  | opq o => exact (Array.getElem?_eq_some_iff.1 h).1
/-- A block that is as it was reads as it read. -/
theorem BlkR.same (h : BlkR ρ D id W o) (hρ : ∀ i, D i → ρ' i = ρ i) (hid : ρ' id = ρ id) (hD : ∀ i, D i → D' i) (hs : W.heap.size ≤ W'.heap.size) (hb : W'.heap[(ρ id).blk]? = W.heap[(ρ id).blk]?) : BlkR ρ' D' id W' o := by
  have hc : ∀ j, W'.cell? ⟨(ρ id).blk, j, none⟩ = W.cell? ⟨(ρ id).blk, j, none⟩ := fun j => by unfold World.cell?; rw [hb]
  cases o with
  | cells l z =>
    obtain ⟨h0, h1, h2, h4⟩ := h
    unfold BlkR
    rw [hid]
    refine ⟨h0, by obtain ⟨C, t, fr, hC, h5⟩ := h1; exact ⟨C, t, fr, by rw [hb]; exact hC, h5⟩, h2, fun i v hv => ?_⟩
    obtain ⟨v', e, hr⟩ := h4 i v hv
    exact ⟨v', by rw [hc]; exact e, hr.mono hρ hD⟩
  | iter s p => unfold BlkR at h ⊢; rw [hid, hb]; exact h
  | opq o => unfold BlkR at h ⊢; rw [hid, hb]; exact h
end
/-- What a step does to the abstract heap: names that it owns are anew, the others as they were. -/
structure Upd (G H' G' : Nat → Option Blk) (own : Nat → Prop) : Prop where
  at_ : ∀ id, own id → G' id = H' id
  off_ : ∀ id, ¬ own id → G' id = G id
section
variable {ρ : Rho} {D : Nat → Prop} {G G' : Nat → Option Blk} {W W' : World} {T : Nat → Prop}
/-- A new name for a new block. -/
theorem HR.alloc (h : HR ρ D G W T) {n : Nat} (hn : ¬ D n) {o : Obj} {ob : AObj} {esz : Nat} {ext : Nat} {b : Blk} (hob : b.obj = ob)
    (hg : G' n = some b) (hG : ∀ i, i ≠ n → G' i = G i)
    (hB : BlkR (fun i => if i = n then ⟨W.heap.size, 0, ext, esz⟩ else ρ i) (fun i => D i ∨ i = n) n (W.alloc o) ob) :
    HR (fun i => if i = n then ⟨W.heap.size, 0, ext, esz⟩ else ρ i) (fun i => D i ∨ i = n) G' (W.alloc o) (fun i => T i ∨ i = n) := by
  have hold : ∀ i, T i → i ≠ n := fun i hi e => hn (e ▸ h.dom i hi)
  refine ⟨fun id hid => ?_, fun id c hid hc hl => ?_, fun i j c d hi hj hij hci hdj hl1 hl2 hs => ?_⟩
  · rcases hid with hid | rfl
    · exact .inl (h.dom id hid)
    · exact .inr rfl
  · rcases hid with hid | rfl
    · have hne := hold id hid
      rw [hG id hne] at hc
      have h1 := h.blk id c hid hc hl
      have hlt := h1.lt
      exact h1.same (fun i hi => if_neg (fun e : i = n => hn (by rw [← e]; exact hi))) (if_neg hne) (fun i hi => .inl hi) (by simp) (by simp only [World.alloc, Array.getElem?_push]; rw [if_neg (by omega)])
    · rw [hg] at hc; cases hc; rw [hob]; exact hB
  · rcases hi with hi | rfl <;> rcases hj with hj | rfl
    · have h1 := hold i hi
      have h2 := hold j hj
      simp only [if_neg h1, if_neg h2]
      exact h.dist i j c d hi hj hij (by rw [← hG i h1]; exact hci) (by rw [← hG j h2]; exact hdj) hl1 hl2 hs
    · have h1 := hold i hi
      simp only [if_neg h1, if_true]
      have := (h.blk i c hi (by rw [← hG i h1]; exact hci) hl1).lt
      omega
    · have h2 := hold j hj
      simp only [if_neg h2, if_true]
      have := (h.blk j d hj (by rw [← hG j h2]; exact hdj) hl2).lt
      omega
    · exact absurd rfl hij
/-- Nothing but draws. -/
theorem HR.heap (h : HR ρ D G W T) (hh : W'.heap = W.heap) : HR ρ D G W' T := by
  refine ⟨h.dom, fun id b hid hg hl => ?_, h.dist⟩
  exact (h.blk id b hid hg hl).same (fun _ _ => rfl) rfl (fun _ h => h) (by rw [hh]; exact Nat.le_refl _) (by rw [hh])
/-- Cells of a name are written; its sibling is no more. -/
theorem HR.write (h : HR ρ D G W T) {n : Nat} (hn : T n) {l vs vs' : List Value} {s : Option Nat} {i z : Nat} (hg : G n = some ⟨.cells l z, true, s⟩) (hv : VRs ρ D vs vs') (hl : i + vs.length ≤ l.length)
    (hg' : G' n = some ⟨.cells (l.take i ++ vs ++ l.drop (i + vs.length)) z, true, none⟩) (hs : ∀ m b, s = some m → T m → m ≠ n → G' m = some b → b.live = false) (hG : ∀ j, j ≠ n → some j ≠ s → G' j = G j) :
    HR ρ D G' (W.setCells (ρ n).blk ((ρ n).off + i) vs') T := by
  obtain ⟨hz, hS, b2, b4⟩ := h.blk n _ hn hg rfl
  have b1 := hS.lt
  have b3 := hS.cell
  have hlen := hv.length
  have hsz : (W.setCells (ρ n).blk ((ρ n).off + i) vs').heap.size = W.heap.size := by
    have : ∀ (vs : List Value) (o : Nat) (w : World), (w.setCells (ρ n).blk o vs).heap.size = w.heap.size := by
      intro vs
      induction vs with
      | nil => intro o w; rfl
      | cons v r ih => intro o w; rw [World.setCells, ih]; simp
    exact this _ _ _
  have other : ∀ k, k < W.heap.size → k ≠ (ρ n).blk → (W.setCells (ρ n).blk ((ρ n).off + i) vs').heap[k]? = W.heap[k]? := fun k hk hne => World.heap_setCells_other _ _ _ _ hk hne
  refine ⟨h.dom, fun id c hid hc hlv => ?_, fun j k c d hj hk hjk hcj hdk hl1 hl2 hsib => ?_⟩
  · by_cases he : id = n
    · subst he
      rw [hg'] at hc
      cases hc
      refine ⟨hz, hS.setCells _ _ _, ?_, fun j v hjv => ?_⟩
      · simp only [List.length_append, List.length_take, List.length_drop]; omega
      · have hin : ∀ q, q < vs'.length → (W.cell? ⟨(ρ id).blk, (ρ id).off + i + q, none⟩).isSome = true := fun q hq => by
          have := (b3 (i + q) (by omega)).1
          rwa [← Nat.add_assoc] at this
        by_cases h1 : j < i
        · rw [List.append_assoc, List.getElem?_append_left (by simp only [List.length_take]; omega), List.getElem?_take_of_lt h1] at hjv
          obtain ⟨v', e, hr⟩ := b4 j v hjv
          refine ⟨v', ?_, hr⟩
          rw [World.cell?_setCells_out _ _ _ _ _ (fun _ _ => .inl (by show (ρ id).off + j < (ρ id).off + i; omega))]
          exact e
        · by_cases h2 : j < i + vs.length
          · rw [List.append_assoc, List.getElem?_append_right (by simp only [List.length_take]; omega), List.getElem?_append_left (by simp only [List.length_take]; omega)] at hjv
            have e1 : j - (l.take i).length = j - i := by simp only [List.length_take]; omega
            rw [e1] at hjv
            obtain ⟨v', e, hr⟩ := hv.get _ _ hjv
            refine ⟨v', ?_, hr⟩
            have hlt : j - i < vs'.length := by omega
            have := World.cell?_setCells_in (ρ id).blk vs' ((ρ id).off + i) W hin (j - i) hlt
            rw [show (ρ id).off + i + (j - i) = (ρ id).off + j by omega] at this
            rw [this, ← e, List.getElem?_eq_getElem hlt]
          · rw [List.getElem?_append_right (by simp only [List.length_append, List.length_take]; omega)] at hjv
            have e1 : j - (l.take i ++ vs).length = j - (i + vs.length) := by simp only [List.length_append, List.length_take]; omega
            rw [e1, List.getElem?_drop, show i + vs.length + (j - (i + vs.length)) = j by omega] at hjv
            obtain ⟨v', e, hr⟩ := b4 j v hjv
            refine ⟨v', ?_, hr⟩
            rw [World.cell?_setCells_out _ _ _ _ _ (fun _ _ => .inr (by show (ρ id).off + i + vs'.length ≤ (ρ id).off + j; omega))]
            exact e
    · by_cases hes : some id = s
      · have := hs id c hes.symm hid he hc
        rw [this] at hlv; cases hlv
      · rw [hG id he hes] at hc
        have h1 := h.blk id c hid hc hlv
        have hd := h.dist id n c _ hid hn he hc hg hlv rfl (fun hh => hes hh.2.symm)
        exact h1.same (fun _ _ => rfl) rfl (fun _ h => h) (by rw [hsz]; exact Nat.le_refl _) (other _ h1.lt hd)
  · have back : ∀ m (e : Blk), T m → G' m = some e → e.live = true → m ≠ n → G m = some e ∧ some m ≠ s := fun m e hm hge hle hmn => by
      by_cases hes : some m = s
      · have := hs m e hes.symm hm hmn hge
        rw [this] at hle; cases hle
      · exact ⟨by rw [← hG m hmn hes]; exact hge, hes⟩
    by_cases h1 : j = n
    · subst h1
      have hkj : k ≠ j := fun e => hjk e.symm
      obtain ⟨g1, g2⟩ := back k d hk hdk hl2 hkj
      exact h.dist j k _ d hj hk hjk hg g1 rfl hl2 (fun hh => g2 hh.1.symm)
    · obtain ⟨g1, g2⟩ := back j c hj hcj hl1 h1
      by_cases h2 : k = n
      · subst h2
        exact h.dist j k c _ hj hk hjk g1 hg hl1 rfl (fun hh => g2 hh.2.symm)
      · obtain ⟨g3, _⟩ := back k d hk hdk hl2 h2
        exact h.dist j k c d hj hk hjk g1 g3 hl1 hl2 hsib
/-- Siblings told anew, names let go. -/
theorem HR.resib (h : HR ρ D G W T) (hG : ∀ i c, T i → G' i = some c → c.live = true → ∃ b, G i = some b ∧ b.live = true ∧ b.obj = c.obj)
    (hs : ∀ i j b c b' c', T i → T j → i ≠ j → G i = some b → G j = some c → G' i = some b' → G' j = some c' → b'.live = true → c'.live = true → b.sib = some j → c.sib = some i → b'.sib = some j ∧ c'.sib = some i) : HR ρ D G' W T := by
  refine ⟨h.dom, fun id c hid hc hl => ?_, fun i j b' c' hi hj hij hb hc hl1 hl2 hn => ?_⟩
  · obtain ⟨b, hb, hlb, e⟩ := hG id c hid hc hl
    rw [← e]
    exact h.blk id b hid hb hlb
  · obtain ⟨b, g1, l1, _⟩ := hG i b' hi hb hl1
    obtain ⟨c, g2, l2, _⟩ := hG j c' hj hc hl2
    exact h.dist i j b c hi hj hij g1 g2 l1 l2 (fun hh => hn (hs i j b c b' c' hi hj hij g1 g2 hb hc hl1 hl2 hh.1 hh.2))
/-- Fewer names. -/
theorem HR.less (h : HR ρ D G W T) {T' : Nat → Prop} (hT : ∀ i, T' i → T i) : HR ρ D G W T' :=
  ⟨fun i hi => h.dom i (hT i hi), fun i b hi => h.blk i b (hT i hi), fun i j b c hi hj => h.dist i j b c (hT i hi) (hT j hj)⟩
/-- A row grows in its own block: the grown one has a new name. -/
theorem HR.grow (h : HR ρ D G W T) {n m : Nat} (hn : T n) (hm : ¬ D m) {l vs vs' : List Value} {s : Option Nat} {i e z : Nat} (hg : G n = some ⟨.cells l z, true, s⟩) (hv : VRs ρ D vs vs') (hie : i ≤ e) (hel : e ≤ l.length) (hx : e + vs.length ≤ (ρ n).ext)
    (hgn : G' n = some ⟨.cells l z, decide (l.length ≤ e), some m⟩) (hgm : G' m = some ⟨.cells ((l.take e).drop i ++ vs) z, true, some n⟩) (hs : ∀ k b, s = some k → T k → k ≠ n → G' k = some b → b.live = false) (hG : ∀ j, j ≠ n → j ≠ m → some j ≠ s → G' j = G j) :
    HR (fun k => if k = m then ⟨(ρ n).blk, (ρ n).off + i, (ρ n).ext - i, (ρ n).esz⟩ else ρ k) (fun k => D k ∨ k = m) G' (W.setCells (ρ n).blk ((ρ n).off + e) vs') (fun k => T k ∨ k = m) := by
  obtain ⟨hz, hS, b2, b4⟩ := h.blk n _ hn hg rfl
  have b1 := hS.lt
  have b3 := hS.cell
  have hlen := hv.length
  have hnm : n ≠ m := fun e => hm (e ▸ h.dom n hn)
  have hsz : (W.setCells (ρ n).blk ((ρ n).off + e) vs').heap.size = W.heap.size := by
    have : ∀ (vs : List Value) (o : Nat) (w : World), (w.setCells (ρ n).blk o vs).heap.size = w.heap.size := by
      intro vs
      induction vs with
      | nil => intro o w; rfl
      | cons v r ih => intro o w; rw [World.setCells, ih]; simp
    exact this _ _ _
  have other : ∀ k, k < W.heap.size → k ≠ (ρ n).blk → (W.setCells (ρ n).blk ((ρ n).off + e) vs').heap[k]? = W.heap[k]? := fun k hk hne => World.heap_setCells_other _ _ _ _ hk hne
  have hold : ∀ k, T k → k ≠ m := fun k hk ek => hm (ek ▸ h.dom k hk)
  have hin : ∀ q, q < vs'.length → (W.cell? ⟨(ρ n).blk, (ρ n).off + e + q, none⟩).isSome = true := fun q hq => by
    have := (b3 (e + q) (by omega)).1
    rwa [← Nat.add_assoc] at this
  have hρ : ∀ k, D k → (if k = m then (⟨(ρ n).blk, (ρ n).off + i, (ρ n).ext - i, (ρ n).esz⟩ : Loca) else ρ k) = ρ k := fun k hk => if_neg (fun ek : k = m => hm (by rw [← ek]; exact hk))
  have back : ∀ k (c : Blk), T k → G' k = some c → c.live = true → k ≠ n → G k = some c ∧ some k ≠ s := fun k c hk hgk hle hkn => by
    by_cases hes : some k = s
    · have := hs k c hes.symm hk hkn hgk
      rw [this] at hle; cases hle
    · exact ⟨by rw [← hG k hkn (hold k hk) hes]; exact hgk, hes⟩
  refine ⟨fun k hk => ?_, fun k c hk hc hlv => ?_, fun j k c d hj hk hjk hcj hdk hl1 hl2 hsib => ?_⟩
  · rcases hk with hk | rfl
    · exact .inl (h.dom k hk)
    · exact .inr rfl
  · rcases hk with hk | rfl
    · by_cases hkn : k = n
      · subst hkn
        rw [hgn] at hc
        cases hc
        have hle : l.length ≤ e := of_decide_eq_true hlv
        unfold BlkR
        simp only [if_neg hnm]
        refine ⟨hz, hS.setCells _ _ _, b2, fun j v hjv => ?_⟩
        obtain ⟨v', ev, hr⟩ := b4 j v hjv
        have hjl : j < l.length := (List.getElem?_eq_some_iff.1 hjv).1
        refine ⟨v', ?_, hr.mono hρ (fun _ => .inl)⟩
        rw [World.cell?_setCells_out _ _ _ _ _ (fun _ _ => .inl (by show (ρ k).off + j < (ρ k).off + e; omega))]
        exact ev
      · obtain ⟨g1, hes⟩ := back k c hk hc hlv hkn
        have h1 := h.blk k c hk g1 hlv
        have hd := h.dist k n c _ hk hn hkn g1 hg hlv rfl (fun hh => hes hh.2.symm)
        have hkm := hold k hk
        exact h1.same hρ (if_neg hkm) (fun _ => .inl) (by rw [hsz]; exact Nat.le_refl _) (other _ h1.lt hd)
    · rw [hgm] at hc
      cases hc
      unfold BlkR
      simp only [if_true]
      refine ⟨hz, ?_, ?_, fun j v hjv => ?_⟩
      · obtain ⟨C, t, fr, hb, h1, h2⟩ := hS.setCells (ρ n).blk ((ρ n).off + e) vs'
        exact ⟨C, t, fr, hb, by omega, h2⟩
      · simp only [List.length_append, List.length_drop, List.length_take]; omega
      · by_cases h1 : j < e - i
        · rw [List.getElem?_append_left (by simp only [List.length_drop, List.length_take]; omega), List.getElem?_drop, List.getElem?_take_of_lt (by omega)] at hjv
          obtain ⟨v', ev, hr⟩ := b4 (i + j) v hjv
          refine ⟨v', ?_, hr.mono hρ (fun _ => .inl)⟩
          rw [World.cell?_setCells_out _ _ _ _ _ (fun _ _ => .inl (by show (ρ n).off + i + j < (ρ n).off + e; omega)), Nat.add_assoc]
          exact ev
        · rw [List.getElem?_append_right (by simp only [List.length_drop, List.length_take]; omega)] at hjv
          have e1 : j - ((l.take e).drop i).length = j - (e - i) := by simp only [List.length_drop, List.length_take]; omega
          rw [e1] at hjv
          obtain ⟨v', ev, hr⟩ := hv.get _ _ hjv
          refine ⟨v', ?_, hr.mono hρ (fun _ => .inl)⟩
          have hlt : j - (e - i) < vs'.length := (List.getElem?_eq_some_iff.1 ev).1
          have := World.cell?_setCells_in (ρ n).blk vs' ((ρ n).off + e) W hin (j - (e - i)) hlt
          rw [show (ρ n).off + e + (j - (e - i)) = (ρ n).off + i + j by omega] at this
          rw [this, ← ev, List.getElem?_eq_getElem hlt]
  · rcases hj with hj | rfl <;> rcases hk with hk | rfl
    · have h1 := hold j hj
      have h2 := hold k hk
      simp only [if_neg h1, if_neg h2]
      by_cases hjn : j = n
      · subst hjn
        obtain ⟨g1, hes⟩ := back k d hk hdk hl2 (fun e => hjk e.symm)
        exact h.dist j k _ d hj hk hjk hg g1 rfl hl2 (fun hh => hes hh.1.symm)
      · obtain ⟨g1, hes⟩ := back j c hj hcj hl1 hjn
        by_cases hkn : k = n
        · subst hkn
          exact h.dist j k c _ hj hk hjk g1 hg hl1 rfl (fun hh => hes hh.2.symm)
        · obtain ⟨g2, _⟩ := back k d hk hdk hl2 hkn
          exact h.dist j k c d hj hk hjk g1 g2 hl1 hl2 hsib
    · have h1 := hold j hj
      simp only [if_neg h1, if_true]
      by_cases hjn : j = n
      · subst hjn
        rw [hgn] at hcj
        cases hcj
        rw [hgm] at hdk
        cases hdk
        exact absurd ⟨rfl, rfl⟩ hsib
      · obtain ⟨g1, hes⟩ := back j c hj hcj hl1 hjn
        exact h.dist j n c _ hj hn hjn g1 hg hl1 rfl (fun hh => hes hh.2.symm)
    · have h2 := hold k hk
      simp only [if_neg h2, if_true]
      by_cases hkn : k = n
      · subst hkn
        rw [hgn] at hdk
        cases hdk
        rw [hgm] at hcj
        cases hcj
        exact absurd ⟨rfl, rfl⟩ hsib
      · obtain ⟨g1, hes⟩ := back k d hk hdk hl2 hkn
        exact fun e => h.dist k n d _ hk hn hkn g1 hg hl2 rfl (fun hh => hes hh.2.symm) e.symm
    · exact absurd rfl hjk
end
end Go.Proofs.Ytfgeffmlfbeodaa.Ev

/- EV, part B: the evaluator: code run in the text's order over an abstract heap. No program here. -/
namespace Go.Proofs.Ytfgeffmlfbeodaa.Ev
open Go
set_option linter.unusedVariables false
set_option linter.unusedSimpArgs false
/-- A tree over numbers. -/
inductive Tr (α : Type) where
  | leaf
  | node (v : Option α) (l r : Tr α)
/-- A case on a bool, by its bare recursor: cheap for the kernel. -/
noncomputable def bif' {α : Sort 1} (b : Bool) (x y : α) : α := Bool.rec (motive := fun _ => α) y x b
theorem bif'_eq {α : Type} (c : Prop) [h : Decidable c] (b : Bool) (hb : b = true ↔ c) (x y : α) : bif' b x y = if c then x else y := by
  unfold bif'
  cases b
  · rw [if_neg (fun hc => by cases hb.2 hc)]
  · rw [if_pos (hb.1 rfl)]
theorem beq_iff (a b : Nat) : Nat.beq a b = true ↔ a = b := ⟨Nat.eq_of_beq_eq_true, fun h => h ▸ Nat.beq_refl a⟩
noncomputable def Tr.get {α : Type} (t : Tr α) : Nat → Option α :=
  Tr.rec (motive := fun _ => Nat → Option α) (fun _ => none) (fun v _ _ gl gr n => bif' (Nat.beq n 0) v (bif' (Nat.beq (Nat.mod n 2) 1) (gl (Nat.div n 2)) (gr (Nat.pred (Nat.div n 2))))) t
noncomputable def Tr.set {α : Type} (f : Nat) : Tr α → Nat → α → Tr α :=
  Nat.rec (motive := fun _ => Tr α → Nat → α → Tr α) (fun t _ _ => t) (fun _ go t n a =>
    Tr.rec (motive := fun _ => Tr α)
      (bif' (Nat.beq n 0) (.node (some a) .leaf .leaf) (bif' (Nat.beq (Nat.mod n 2) 1) (.node none (go .leaf (Nat.div n 2) a) .leaf) (.node none .leaf (go .leaf (Nat.pred (Nat.div n 2)) a))))
      (fun v l r _ _ => bif' (Nat.beq n 0) (.node (some a) l r) (bif' (Nat.beq (Nat.mod n 2) 1) (.node v (go l (Nat.div n 2) a) r) (.node v l (go r (Nat.pred (Nat.div n 2)) a)))) t) f
theorem Tr.get_node {α : Type} (v : Option α) (l r : Tr α) (n : Nat) : (Tr.node v l r).get n = if n = 0 then v else if n % 2 = 1 then l.get (n / 2) else r.get (n / 2 - 1) := by
  rw [← bif'_eq (n % 2 = 1) _ (beq_iff _ _), ← bif'_eq (n = 0) _ (beq_iff _ _)]
  rfl
theorem Tr.get_leaf {α : Type} (n : Nat) : (Tr.leaf : Tr α).get n = none := rfl
theorem Tr.set_node {α : Type} (f : Nat) (v : Option α) (l r : Tr α) (n : Nat) (a : α) : Tr.set (f + 1) (.node v l r) n a = if n = 0 then .node (some a) l r else if n % 2 = 1 then .node v (Tr.set f l (n / 2) a) r else .node v l (Tr.set f r (n / 2 - 1) a) := by
  rw [← bif'_eq (n % 2 = 1) _ (beq_iff _ _), ← bif'_eq (n = 0) _ (beq_iff _ _)]
  rfl
theorem Tr.set_leaf {α : Type} (f n : Nat) (a : α) : Tr.set (f + 1) .leaf n a = Tr.set (f + 1) (.node none .leaf .leaf) n a := rfl
theorem Tr.get_set {α : Type} (a : α) : ∀ (f : Nat) (t : Tr α) (n m : Nat), n < f → (Tr.set f t n a).get m = if m = n then some a else t.get m
  | 0, _, _, _, h => absurd h (Nat.not_lt_zero _)
  | f + 1, t, n, m, h => by
    have key : ∀ (v : Option α) (l r : Tr α), (Tr.set (f + 1) (.node v l r) n a).get m = if m = n then some a else (Tr.node v l r).get m := by
      intro v l r
      rw [Tr.set_node]
      by_cases h0 : n = 0
      · rw [if_pos h0, Tr.get_node, Tr.get_node]
        by_cases hm : m = 0
        · rw [if_pos hm, if_pos (show m = n by omega)]
        · rw [if_neg hm, if_neg (show ¬ m = n by omega), if_neg hm]
      · rw [if_neg h0]
        by_cases h1 : n % 2 = 1
        · rw [if_pos h1, Tr.get_node, Tr.get_node]
          by_cases hm : m = 0
          · rw [if_pos hm, if_neg (by omega), if_pos hm]
          · rw [if_neg hm, if_neg hm]
            by_cases hm1 : m % 2 = 1
            · rw [if_pos hm1, if_pos hm1, Tr.get_set a f l _ _ (by omega)]
              by_cases e : m = n
              · rw [if_pos (by omega), if_pos e]
              · rw [if_neg (by omega), if_neg e]
            · rw [if_neg hm1, if_neg (by omega), if_neg hm1]
        · rw [if_neg h1, Tr.get_node, Tr.get_node]
          by_cases hm : m = 0
          · rw [if_pos hm, if_neg (by omega), if_pos hm]
          · rw [if_neg hm, if_neg hm]
            by_cases hm1 : m % 2 = 1
            · rw [if_pos hm1, if_neg (by omega), if_pos hm1]
            · rw [if_neg hm1, if_neg hm1, Tr.get_set a f r _ _ (by omega)]
              by_cases e : m = n
              · rw [if_pos (by omega), if_pos e]
              · rw [if_neg (by omega), if_neg e]
    cases t with
    | leaf =>
      rw [Tr.set_leaf, key, Tr.get_node, Tr.get_leaf, Tr.get_leaf, Tr.get_leaf]
      simp
    | node v l r => exact key v l r
/-- The abstract heap: names below next are in use. -/
structure AH where
  t : Tr Blk
  next : Nat
noncomputable def AH.get (H : AH) (n : Nat) : Option Blk := H.t.get n
noncomputable def AH.put (H : AH) (n : Nat) (b : Blk) : AH := ⟨Tr.set (n + 1) H.t n b, H.next⟩
noncomputable def AH.new (H : AH) (b : Blk) : AH := ⟨Tr.set (H.next + 1) H.t H.next b, H.next + 1⟩
theorem AH.get_put (H : AH) (n : Nat) (b : Blk) (m : Nat) : (H.put n b).get m = if m = n then some b else H.get m := Tr.get_set b (n + 1) H.t n m (Nat.lt_succ_self _)
theorem AH.get_new (H : AH) (b : Blk) (m : Nat) : (H.new b).get m = if m = H.next then some b else H.get m := Tr.get_set b (H.next + 1) H.t H.next m (Nat.lt_succ_self _)
/-- A name is no more. -/
noncomputable def AH.kill (H : AH) (n : Nat) : AH := match H.get n with
  | some b => H.put n { b with live := false }
  | none => H
noncomputable def AH.killS (H : AH) : Option Nat → AH
  | some n => H.kill n
  | none => H
/-- The live cells of a name. -/
noncomputable def AH.cells (H : AH) (n : Nat) : Option (List Value × Nat × Option Nat) := match H.get n with
  | some ⟨.cells l z, true, s⟩ => some (l, z, s)
  | _ => none
/-- Values without addresses, all through. -/
def clean : Value → Bool
  | .agg cs => cs.toList.all flat
  | .tuple cs => cs.toList.all flat
  | v => flat v
/-- A tree of steps that asks nothing of the world. -/
def semPure {α : Type} (P : Program) : Sem α → Option α
  | .pure a => some a
  | .program k => semPure P (k P)
  | .mark _ k => semPure P k
  | _ => none
/-- A list's value at a place, and with another one there, by bare recursors. -/
noncomputable def lget (l : List Value) : Nat → Value :=
  List.rec (motive := fun _ => Nat → Value) (fun _ => undef) (fun x _ go n => Nat.rec (motive := fun _ => Value) x (fun m _ => go m) n) l
noncomputable def lset (l : List Value) : Nat → Value → List Value :=
  List.rec (motive := fun _ => Nat → Value → List Value) (fun _ _ => []) (fun x r go n v => Nat.rec (motive := fun _ => List Value) (v :: r) (fun m _ => x :: go m v) n) l
theorem lget_eq : ∀ (l : List Value) (n : Nat), lget l n = l.getD n undef
  | [], _ => rfl
  | x :: l, 0 => rfl
  | x :: l, n + 1 => by
    show lget l n = _
    rw [lget_eq l n, List.getD_cons_succ]
theorem lset_eq (v : Value) : ∀ (l : List Value) (n : Nat), lset l n v = l.set n v
  | [], _ => rfl
  | x :: l, 0 => rfl
  | x :: l, n + 1 => by
    show x :: lset l n v = _
    rw [lset_eq v l n, List.set_cons_succ]
noncomputable def aeval (env : List Value) : Operand → Option Value
  | .tmp t => some (lget env t)
  | .const v => if clean v then some v else none
  | .global _ => none
  | .func f => some (.func (.func f) #[] #[])
def asNat (v : Value) : Option Nat := match v with
  | .int _ n => if 0 ≤ n then some n.toNat else none
  | _ => none
def aelem (P : Program) (t : TypeId) : Option TypeId := match P.underlying t with
  | some (.slice e) => some e
  | _ => none
theorem aelem_some {P : Program} {t e : TypeId} (h : aelem P t = some e) : P.underlying t = some (.slice e) := by
  unfold aelem at h
  split at h
  · rename_i e' he; simp only [Option.some.injEq] at h; rw [← h]; exact he
  · cases h
def aspread (P : Program) (t : TypeId) : Option Unit := match P.underlying t with
  | some (.slice _) => some ()
  | some .string => some ()
  | _ => none
theorem aspread_some {P : Program} {t : TypeId} {u : Unit} (h : aspread P t = some u) : (∃ e, P.underlying t = some (.slice e)) ∨ P.underlying t = some .string := by
  unfold aspread at h
  split at h
  · rename_i e' he; exact .inl ⟨e', he⟩
  · rename_i he; exact .inr he
  · cases h
def afields (P : Program) (t : TypeId) : Option (Array Field) := match P.underlying t with
  | some (.struct fs) => some fs
  | _ => none
theorem afields_some {P : Program} {t : TypeId} {fs : Array Field} (h : afields P t = some fs) : P.underlying t = some (.struct fs) := by
  unfold afields at h
  split at h
  · rename_i e' he; simp only [Option.some.injEq] at h; rw [← h]; exact he
  · cases h
noncomputable def aparts (env : List Value) : List (Nat × Operand) → Option (List (Nat × Value))
  | [] => some []
  | (i, x) :: r => do
    let v ← aeval env x
    let vs ← aparts env r
    some ((i, v) :: vs)
abbrev Res := Value × AH × List Nat × List Nat
def szOf (P : Program) (t : TypeId) : Option Nat := (P.info? t).map (·.size)
def aplaces (P : Program) : List Field → Option (List (Nat × Nat))
  | [] => some []
  | f :: r => do
    let n ← szOf P f.type
    let ns ← aplaces P r
    some ((f.offset, n) :: ns)
def zeroOf (P : Program) (t : TypeId) : Option Value := (P.info? t).bind (·.zero)
def isAggB (P : Program) (t : TypeId) : Option Bool := match P.underlying t with
  | some (.struct _) => some true
  | some (.array _ _) => some true
  | some _ => some false
  | none => none
/-- How many cells an element of a row in a new block has. -/
def eszOf (P : Program) (t : TypeId) (n : Nat) : Nat := match P.underlying t with
  | some (.array _ e) => (szOf P e).getD 1
  | _ => n
/-- A new block. -/
noncomputable def anew (H : AH) (l : List Value) (z : Nat) : Value × AH := (.pointer (some ⟨H.next, 0, none⟩), H.new ⟨.cells l z, true, none⟩)
noncomputable def aload (P : Program) (H : AH) (t : TypeId) : Value → Option Res
  | .pointer (some ⟨n, i, none⟩) => do
    let (l, _) ← H.cells n
    let sz ← szOf P t
    if ← isAggB P t then
      if i + sz ≤ l.length then some (.agg ⟨(l.drop i).take sz⟩, H, [n], []) else none
    else
      let v ← l[i]?
      some (v, H, [n], [])
  | _ => none
def wr (n : Nat) : Option Nat → List Nat
  | some s => [n, s]
  | none => [n]
noncomputable def astore (P : Program) (H : AH) (t : TypeId) (a v : Value) : Option Res := match a with
  | .pointer (some ⟨n, i, none⟩) => do
    let (l, z, s) ← H.cells n
    let sz ← szOf P t
    let vs := v.cells.toList
    if vs.length = sz ∧ i + vs.length ≤ l.length ∧ vs.all (·.oneCell') = true ∧ s ≠ some n then
      some (undef, (H.killS s).put n ⟨.cells (l.take i ++ vs ++ l.drop (i + vs.length)) z, true, none⟩, [], wr n s)
    else none
  | _ => none
def abytes (l : List Value) : Option (List UInt8) := l.mapM fun
  | .int .u8 n => if 0 ≤ n ∧ n < 256 then some (UInt8.ofNat n.toNat) else none
  | _ => none
/-- The cells of a slice or a string that is handed to append or copy. -/
noncomputable def aitems (H : AH) (sz n : Nat) : Value → Option (List Value × List Nat)
  | .slice none _ _ => some ([], [])
  | .slice (some ⟨b, i, none⟩) _ _ => do
    let (l, _) ← H.cells b
    if i + n * sz ≤ l.length then some ((l.drop i).take (n * sz), [b]) else none
  | .string s => some ((s.extract 0 n).data.toList.map fun b => .int .u8 b.toNat, [])
  | _ => none
def alenOf : Value → Option Nat
  | .slice _ n _ => some n
  | .string s => some s.size
  | _ => none
noncomputable def aappend (P : Program) (H : AH) (ats : Array TypeId) (s x : Value) : Option Res := do
  let t ← ats[0]?
  let u ← ats[1]?
  let elem ← aelem P t
  let _ ← aspread P u
  let inf ← P.info? elem
  let zero ← inf.zero
  let sz := inf.size
  let n ← alenOf x
  let (items, rd) ← aitems H sz n x
  if ats.size = 2 ∧ clean zero ∧ zero.cells.size = sz ∧ items.length = n * sz ∧ items.all (·.oneCell') = true then
    if n = 0 then
      match s with
      | .slice none 0 0 => some (s, H, rd, [])
      | .slice (some _) _ _ => some (s, H, rd, [])
      | _ => none
    else if sz = 0 then none
    else match s with
      | .slice none 0 0 =>
        if (2 * n + 768) * (inf.bytes + 1) ≤ 2 ^ 40 then some (.slice (some ⟨H.next, 0, none⟩) n n, H.new ⟨.cells items sz, true, none⟩, rd, []) else none
      | .slice (some ⟨b, i, none⟩) l _ => do
        let (cs, z, sb) ← H.cells b
        let e := i + l * sz
        if e ≤ cs.length ∧ sb ≠ some b ∧ b ≠ H.next ∧ sb ≠ some H.next ∧ z = sz ∧ (2 * (l + n) + 768) * (inf.bytes + 1) ≤ 2 ^ 40 then
          let H1 := (H.killS sb).put b ⟨.cells cs z, decide (cs.length ≤ e), some H.next⟩
          some (.slice (some ⟨H.next, 0, none⟩) (l + n) (l + n), H1.new ⟨.cells ((cs.take e).drop i ++ items) z, true, some b⟩, rd ++ [b], wr b sb)
        else none
      | _ => none
  else none
noncomputable def acopy (P : Program) (H : AH) (ats : Array TypeId) (d x : Value) : Option Res := do
  let t ← ats[0]?
  let elem ← aelem P t
  let sz ← szOf P elem
  let m ← alenOf x
  match d with
  | .slice none l _ => do
    let (_, rd) ← aitems H sz (Nat.min m l) x
    some (.int .i64 (Nat.min m l : Nat), H, rd, [])
  | .slice (some ⟨b, i, none⟩) l _ => do
    let (items, rd) ← aitems H sz (Nat.min m l) x
    let (cs, z, sb) ← H.cells b
    if i + items.length ≤ cs.length ∧ sb ≠ some b ∧ items.all (·.oneCell') = true then
      some (.int .i64 (Nat.min m l : Nat), (H.killS sb).put b ⟨.cells (cs.take i ++ items ++ cs.drop (i + items.length)) z, true, none⟩, rd, wr b sb)
    else none
  | _ => none
def abound (x : Value) (y : Nat) : Option Nat := match x with
  | .int _ i => if 0 ≤ i ∧ i ≤ y then some i.toNat else none
  | _ => none
def aboundO (x : Option Value) (y : Nat) (d : Option Nat) : Option Nat := match x with
  | some v => abound v y
  | none => d
def abounds (len cap : Nat) (lo hi mx : Option Value) : Option (Nat × Nat × Nat) := do
  let m ← aboundO mx cap (some cap)
  let h ← aboundO hi m (if mx.isSome then none else some len)
  let l ← aboundO lo h (some 0)
  some (l, h, m)
noncomputable def optEval (env : List Value) : Option Operand → Option (Option Value)
  | none => some none
  | some x => (aeval env x).map some
/-- What a call is: which function, with which arguments. -/
def acallee (v : Value) (args : List Value) : Option (FuncId × List Value) := match v with
  | .func (.func f) first captured => some (f, first.toList ++ args ++ captured.toList)
  | _ => none
/-- The bytes of a slice or a string. -/
noncomputable def abytesOf (H : AH) : Value → Option (List UInt8 × List Nat)
  | .slice none _ _ => some ([], [])
  | .slice (some ⟨b, i, none⟩) n _ => do
    let (l, _) ← H.cells b
    if i + n ≤ l.length then some (← abytes ((l.drop i).take n), [b]) else none
  | .string s => some (s.data.toList, [])
  | _ => none
noncomputable def acompare (H : AH) : List Value → Option Res
  | [a, b] => do
    let (x, r) ← abytesOf H a
    let (y, q) ← abytesOf H b
    some (.int .i64 (Extern.BytealgCompare.cmp ⟨⟨x⟩⟩ ⟨⟨y⟩⟩), H, r ++ q, [])
  | _ => none
abbrev CallF := FuncId → List Value → AH → Option Res
noncomputable def cleanOp (env : List Value) (x : Operand) : Bool := match aeval env x with
  | some v => clean v
  | none => false
def notSel : Op → Bool
  | .select .. => false
  | _ => true
/-- By the model's own steps, where nothing of the world is asked and no address is at hand. -/
noncomputable def agen (P : Program) (env : List Value) (o : Oper) (H : AH) : Option Res :=
  if (notSel o.op && o.op.operands.toList.all (cleanOp env)) = true then
    match semPure P (execOp (fun x => (aeval env x).getD undef) o) with
    | some (.value v) => if clean v then some (v, H, [], []) else none
    | _ => none
  else none
noncomputable def aop (P : Program) (xc : Nat) (call : CallF) (env : List Value) (o : Oper) (H : AH) : Option Res :=
  let ok (v : Value) : Option Res := some (v, H, [], [])
  let gen : Option Res := agen P env o H
  match o.op with
  | .move x => do ok (← aeval env x)
  | .assign x => do ok (← aeval env x)
  | .pick c a b => do
    match ← aeval env c with
    | .bool true => ok (← aeval env a)
    | .bool false => ok (← aeval env b)
    | _ => none
  | .extract x i => do
    match ← aeval env x with
    | .tuple vs => ok (← vs.toList[i]?)
    | _ => none
  | .alloc t => do
    let z ← zeroOf P t
    let (v, H') := anew H z.cells.toList (eszOf P t z.cells.size)
    if clean z then some (v, H', [], []) else none
  | .box t x => do
    let v ← aeval env x
    let (p, H') := anew H v.cells.toList (eszOf P t v.cells.size)
    if v.cells.toList.all (·.oneCell') then some (p, H', [], []) else none
  | .build t parts => do
    let z ← zeroOf P t
    let ps ← aparts env parts.toList
    if clean z then
      match P.underlying t with
      | some (.struct fields) => do
        let places ← aplaces P fields.toList
        let cs ← Instr.fill (places.toArray[·]?) z.cells ps
        ok (.agg cs)
      | some (.array _ elem) => do
        let sz ← szOf P elem
        let cs ← Instr.fill (fun i => some (i * sz, sz)) z.cells ps
        ok (.agg cs)
      | _ => none
    else none
  | .buildSlice t len parts => do
    let elem ← aelem P t
    let sz ← szOf P elem
    let z ← zeroOf P elem
    let ps ← aparts env parts.toList
    if clean z ∧ len * sz ≤ 2 ^ 24 ∧ z.cells.size = sz then
      let cs ← Instr.fill (fun i => some (i * sz, sz)) (madeCells z.cells (len * sz)) ps
      if cs.toList.all (·.oneCell') then some (.slice (some ⟨H.next, 0, none⟩) len len, H.new ⟨.cells cs.toList sz, true, none⟩, [], []) else none
    else none
  | .load t a => do aload P H t (← aeval env a)
  | .store t a x => do astore P H t (← aeval env a) (← aeval env x)
  | .nilCheck x => do
    match ← aeval env x with
    | .pointer (some a) => ok (.pointer (some a))
    | .func (.func f) a c => ok (.func (.func f) a c)
    | _ => none
  | .makeFunc (.func f) first captured => do
    let a ← first.toList.mapM (aeval env)
    let c ← captured.toList.mapM (aeval env)
    ok (.func (.func f) ⟨a⟩ ⟨c⟩)
  | .fieldAddr s x f => do
    let fields ← afields P s
    let fd ← fields[f]?
    let sz ← szOf P fd.type
    match ← aeval env x with
    | .pointer (some ⟨n, i, none⟩) => if sz ≠ 0 then ok (.pointer (some ⟨n, i + fd.offset, none⟩)) else none
    | _ => none
  | .indexAddr t x ix => do
    let i ← asNat (← aeval env ix)
    match P.underlying t, ← aeval env x with
    | some (.slice e), .slice (some ⟨n, j, none⟩) len _ => do
      let sz ← szOf P e
      if i < len then ok (.pointer (some ⟨n, j + i * sz, none⟩)) else none
    | some (.array len e), .pointer (some ⟨n, j, none⟩) => do
      let sz ← szOf P e
      if i < len then ok (.pointer (some ⟨n, j + i * sz, none⟩)) else none
    | _, _ => none
  | .index t x ix => do
    match P.underlying t, ← aeval env x with
    | some (.array len e), .agg cs => do
      let i ← asNat (← aeval env ix)
      let sz ← szOf P e
      if i < len then
        if ← isAggB P e then ok (.agg (cs.extract (i * sz) (i * sz + sz))) else ok (← cs[i * sz]?)
      else none
    | _, _ => gen
  | .field t x f => do
    let fields ← afields P t
    let fd ← fields[f]?
    let sz ← szOf P fd.type
    match ← aeval env x with
    | .agg cs => if ← isAggB P fd.type then ok (.agg (cs.extract fd.offset (fd.offset + sz))) else ok (← cs[fd.offset]?)
    | _ => none
  | .slice t x lo hi mx => do
    let l ← optEval env lo
    let h ← optEval env hi
    let m ← optEval env mx
    match P.underlying t, ← aeval env x with
    | some (.slice e), .slice (some ⟨n, i, none⟩) len cap => do
      let sz ← szOf P e
      let (a, b, c) ← abounds len cap l h m
      let (_, z, _) ← H.cells n
      if z = sz then some (.slice (some ⟨n, i + a * sz, none⟩) (b - a) (c - a), H, [n], []) else none
    | some (.array k e), .pointer (some ⟨n, i, none⟩) => do
      let sz ← szOf P e
      let (a, b, c) ← abounds k k l h m
      let (cs, z, _) ← H.cells n
      if z = sz ∧ i + k * sz ≤ cs.length then some (.slice (some ⟨n, i + a * sz, none⟩) (b - a) (c - a), H, [n], []) else none
    | _, _ => gen
  | .makeSlice t len cap => do
    let elem ← aelem P t
    let i ← P.info? elem
    let z ← i.zero
    let l ← asNat (← aeval env len)
    let c ← asNat (← aeval env cap)
    if clean z ∧ l ≤ c ∧ i.bytes * c ≤ 2 ^ 40 ∧ c ≤ 2 ^ 40 ∧ z.cells.size = i.size ∧ (c * i.size = 0 ∨ i.size ≠ 0) then
      some (.slice (some ⟨H.next, 0, none⟩) l c, H.new ⟨.cells (madeCells z.cells (c * i.size)).toList i.size, true, none⟩, [], [])
    else none
  | .convert src dst x => do
    match P.underlying src, P.underlying dst, ← aeval env x with
    | some (.slice e), some .string, .slice (some ⟨n, i, none⟩) len _ => do
      match P.underlying e with
      | some (.int .u8) => do
        let (l, _) ← H.cells n
        if i + len ≤ l.length then
          let bs ← abytes ((l.drop i).take len)
          some (.string ⟨⟨bs⟩⟩, H, [n], [])
        else none
      | _ => none
    | some .string, some (.slice e), .string s => do
      match P.underlying e with
      | some (.int .u8) => some (.slice (some ⟨H.next, 0, none⟩) s.size s.size, H.new ⟨.cells (s.data.toList.map fun b => .int .u8 b.toNat) 1, true, none⟩, [], [])
      | _ => none
    | some (.slice _), some (.slice e), .slice (some ⟨n, i, none⟩) l c => do
      match P.underlying e with
      | some (.int .u8) => do
        let (_, _, sb) ← H.cells n
        if src = dst ∧ sb = none then some (.slice (some ⟨n, i, none⟩) l c, H, [n], []) else none
      | _ => none
    | _, _, _ => gen
  | .binOp op t x y _ => do
    match op, ← aeval env x, ← aeval env y, P.underlying t with
    | .eql, .slice (some _) _ _, .slice none _ _, some (.slice _) => ok (.bool false)
    | .neq, .slice (some _) _ _, .slice none _ _, some (.slice _) => ok (.bool true)
    | .eql, .pointer (some _), .pointer none, some (.pointer _) => ok (.bool false)
    | .neq, .pointer (some _), .pointer none, some (.pointer _) => ok (.bool true)
    | .eql, .func _ _ _, .nilFunc, some (.func _ _ _) => ok (.bool false)
    | .neq, .func _ _ _, .nilFunc, some (.func _ _ _) => ok (.bool true)
    | _, _, _, _ => gen
  | .call { callee := .builtin b, args, argTypes } => do
    match b with
    | .len => do
      match (argTypes[0]?).bind P.underlying, (← args.toList.head?.bind (aeval env)) with
      | some (.slice _), .slice _ n _ => ok (.int .i64 n)
      | some (.array n _), _ => ok (.int .i64 n)
      | _, _ => gen
    | .append => do
      match args.toList with
      | [s, x] => do aappend P H argTypes (← aeval env s) (← aeval env x)
      | _ => none
    | .copy => do
      match args.toList with
      | [s, x] => do acopy P H argTypes (← aeval env s) (← aeval env x)
      | _ => none
    | .min => gen
    | .max => gen
    | _ => none
  | .call { callee := .value f, args, .. } => do
    let v ← aeval env f
    let as ← args.toList.mapM (aeval env)
    let (g, l) ← acallee v as
    let fn ← P.funcs[g]?
    if g = xc then acompare H l
    else if (fn.name == "runtime.NumGoroutine" || fn.body.isNone) = true then none else call g l H
  | .range t x => do
    match P.underlying t, ← aeval env x with
    | some .string, .string s => some (.pointer (some ⟨H.next, 0, none⟩), H.new ⟨.iter s 0, true, none⟩, [], [])
    | _, _ => none
  | .next x true => do
    match ← aeval env x with
    | .pointer (some ⟨n, 0, none⟩) => do
      match H.get n with
      | some ⟨.iter s pos, true, none⟩ =>
        if pos < s.size then
          let (c, w) := Utf8.decode s pos
          some (.tuple #[.bool true, .int .i64 pos, .int .i32 c], H.put n ⟨.iter s (pos + w), true, none⟩, [], [n])
        else some (.tuple #[.bool false], H, [n], [])
      | _ => none
    | _ => none
  | .unOp .. => gen
  | _ => none
inductive AX where
  | normal
  | exit (id : Nat)
  | ret
abbrev CRes := AX × List Value × AH × List Nat × List Nat
noncomputable def aputs (env : List Value) (d : Option Tmp) (v : Value) : List Value := match d with
  | some t => lset env t v
  | none => env
def ayield (ops : Array Oper) (env : List Value) (j : Nat) : Option Bool :=
  match ((ops[j]?).bind (·.dst)).bind (env[·]?) with
  | some (.bool b) => some b
  | _ => none
def ins (p n : Nat) (l : List Nat) : List Nat := if n < p then (if l.contains n then l else n :: l) else l
def insAll (p : Nat) (a l : List Nat) : List Nat := a.foldr (ins p) l
def allLt (n : Nat) : List Nat → Bool
  | [] => true
  | x :: l => Nat.blt x n && allLt n l
/-- An operation that touches only what there is. -/
noncomputable def aopB (P : Program) (xc : Nat) (call : CallF) (env : List Value) (o : Oper) (H : AH) : Option Res :=
  match aop P xc call env o H with
  | some (v, H1, r1, w1) => if allLt H.next r1 && allLt H.next w1 then some (v, H1, r1, w1) else none
  | none => none
/-- Operations one behind the other. -/
noncomputable def aops (P : Program) (xc : Nat) (call : CallF) (p : Nat) (ops : Array Oper) : List Oper → List Value → AH → Option (List Value × AH × List Nat × List Nat)
  | [], env, H => some (env, H, [], [])
  | o :: rest, env, H =>
    if Region.wanted o (ayield ops env) then do
      let (v, H1, r1, w1) ← aopB P xc call env o H
      let (e2, H2, r2, w2) ← aops P xc call p ops rest (aputs env o.dst v) H1
      some (e2, H2, insAll p r1 r2, insAll p w1 w2)
    else aops P xc call p ops rest (aputs env o.dst undef) H
/-- What one operation reads and writes, and which names it makes. -/
abbrev Ent := List Nat × List Nat × Nat × Nat
/-- The same of a region that draws its order: what each operation reads and writes is told besides. -/
noncomputable def aopsD (P : Program) (xc : Nat) (call : CallF) (p : Nat) (ops : Array Oper) : List Oper → List Value → AH → Option (List Value × AH × List Nat × List Nat × List Ent)
  | [], env, H => some (env, H, [], [], [])
  | o :: rest, env, H =>
    if Region.wanted o (ayield ops env) then do
      let (v, H1, r1, w1) ← aopB P xc call env o H
      let (e2, H2, r2, w2, fs) ← aopsD P xc call p ops rest (aputs env o.dst v) H1
      some (e2, H2, insAll p r1 r2, insAll p w1 w2, (r1, w1, H.next, H1.next) :: fs)
    else do
      let (e2, H2, r2, w2, fs) ← aopsD P xc call p ops rest (aputs env o.dst undef) H
      some (e2, H2, r2, w2, ([], [], H.next, H.next) :: fs)
def memN (x : Nat) : List Nat → Bool
  | [] => false
  | y :: l => Nat.beq x y || memN x l
def meets : List Nat → List Nat → Bool
  | [], _ => false
  | x :: a, b => memN x b || meets a b
def among (lo hi : Nat) : List Nat → Bool
  | [] => false
  | x :: l => (Nat.ble lo x && Nat.blt x hi) || among lo hi l
/-- Does one operation write or make what the one behind it touches, or read what that one writes? -/
def clash (a b : Ent) : Bool := meets a.2.1 b.2.1 || (meets a.2.1 b.1 || (meets b.2.1 a.1 || (among a.2.2.1 a.2.2.2 b.1 || among a.2.2.1 a.2.2.2 b.2.1)))
def hasBit (m n : Nat) : Bool := Nat.beq (Nat.land (Nat.shiftRight m n) 1) 1
/-- Which operations one waits for, itself or through others, as bits. -/
def ancBits (acc : List Nat) : List Edge → Nat
  | [] => 0
  | e :: l => if Region.binds .any e then Nat.lor (Nat.shiftLeft 1 e.on) (Nat.lor (acc.getD e.on 0) (ancBits acc l)) else ancBits acc l
def preds : List Oper → List Nat → List Nat
  | [], acc => acc
  | o :: rest, acc => preds rest (acc ++ [ancBits acc o.after.toList])
def silentB (a : Ent) : Bool := match a with
  | ([], [], lo, hi) => Nat.beq lo hi
  | _ => false
def untouching (b : Ent) : Bool := match b with
  | ([], [], _, _) => true
  | _ => false
def freeV (ps : List Nat) (k : Nat) (a : Ent) : Nat → List Ent → Bool
  | _, [] => true
  | m, b :: l => (untouching b || (!clash a b || hasBit (ps.getD m 0) k)) && freeV ps k a (m + 1) l
def freeL (ps : List Nat) : Nat → List Ent → Bool
  | _, [] => true
  | k, a :: l => (silentB a || freeV ps k a (k + 1) l) && freeL ps (k + 1) l
def lowB : Nat → List Oper → Bool
  | _, [] => true
  | i, o :: l => o.after.toList.all (fun e => !Region.binds .any e || Nat.blt e.on i) && lowB (i + 1) l
/-- Each target stands once; all of them as bits. -/
def dstBits : List Oper → Option Nat
  | [] => some 0
  | o :: l => match dstBits l with
    | some m => match o.dst with
      | some d => if hasBit m d then none else some (Nat.lor (Nat.shiftLeft 1 d) m)
      | none => some m
    | none => none
def hasDst (d : Nat) (q : Oper) : Bool := match q.dst with
  | some d' => Nat.beq d' d
  | none => false
def lookB (ops : Array Oper) (m : Nat) : Nat → List Oper → Bool
  | _, [] => true
  | i, o :: l => (o.looksAt ops).all (fun d => !hasBit m d || (o.after.toList.any (fun e => Region.binds .any e && (match ops[e.on]? with | some q => hasDst d q | none => false))
      || ops.toList.any (fun q => hasDst d q && q.after.toList.any (fun e => Region.binds .any e && Nat.beq e.on i)))) && lookB ops m (i + 1) l
def statOk (ops : Array Oper) : Bool := lowB 0 ops.toList && (match dstBits ops.toList with
  | some m => lookB ops m 0 ops.toList
  | none => false)
def freeOk (ops : Array Oper) (fs : List Ent) : Bool := statOk ops && freeL (preds ops.toList []) 0 fs
noncomputable def acode (P : Program) (xc : Nat) (call : CallF) (p : Nat) : Nat → Code → List Value → AH → Option CRes
  | 0, _, _, _ => none
  | n + 1, c, env, H => match c with
    | .skip => some (.normal, env, H, [], [])
    | .region _ ops false => do
      let (e, H', r, w) ← aops P xc call p ops ops.toList env H
      some (.normal, e, H', r, w)
    | .region _ ops true => do
      let (e, H', r, w, fs) ← aopsD P xc call p ops ops.toList env H
      if freeOk ops fs then some (.normal, e, H', r, w) else none
    | .seq a b => do
      let (x, e1, H1, r1, w1) ← acode P xc call p n a env H
      match x with
      | .normal => do
        let (y, e2, H2, r2, w2) ← acode P xc call p n b e1 H1
        some (y, e2, H2, insAll p r1 r2, insAll p w1 w2)
      | x => some (x, e1, H1, r1, w1)
    | .cond x a b => do
      match ← aeval env x with
      | .bool true => acode P xc call p n a env H
      | .bool false => acode P xc call p n b env H
      | _ => none
    | .block id a => do
      let (x, e1, H1, r1, w1) ← acode P xc call p n a env H
      match x with
      | .exit j => some (if j = id then .normal else .exit j, e1, H1, r1, w1)
      | x => some (x, e1, H1, r1, w1)
    | .loop a => do
      let (x, e1, H1, r1, w1) ← acode P xc call p n a env H
      match x with
      | .normal => do
        let (y, e2, H2, r2, w2) ← acode P xc call p n (.loop a) e1 H1
        some (y, e2, H2, insAll p r1 r2, insAll p w1 w2)
      | x => some (x, e1, H1, r1, w1)
    | .exit id => some (.exit id, env, H, [], [])
    | .ret => some (.ret, env, H, [], [])
    | _ => none
noncomputable def aresult (P : Program) (env : List Value) (H : AH) : ResultVar → Option (Value × List Nat)
  | .tmp t => some (env.getD t undef, [])
  | .cell a t => do
    let (v, _, r, _) ← aload P H t (env.getD a undef)
    if allLt H.next r then some (v, r) else none
noncomputable def aresults (P : Program) (env : List Value) (H : AH) : List ResultVar → Option (List Value × List Nat)
  | [] => some ([], [])
  | x :: rest => do
    let (v, r) ← aresult P env H x
    let (vs, rs) ← aresults P env H rest
    some (v :: vs, r ++ rs)
noncomputable def acall (P : Program) (xc : Nat) : Nat → CallF
  | 0, _, _, _ => none
  | d + 1, f, args, H => do
    let fn ← P.funcs[f]?
    let c ← fn.body
    if fn.name == "runtime.NumGoroutine" then none else
    let (x, env, H', r, w) ← acode P xc (acall P xc d) H.next 100000 c (args ++ List.replicate (fn.ntmps - args.length) undef) H
    match x with
    | .exit _ => none
    | _ => do
      let (vs, rs) ← aresults P env H' fn.results.toList
      some ((match vs with | [v] => v | vs => .tuple ⟨vs⟩), H', insAll H.next rs r, w)
def AH.empty : AH := ⟨.leaf, 0⟩
def isTrue : Option Res → Bool
  | some (.bool b, _, [], []) => b
  | _ => false
end Go.Proofs.Ytfgeffmlfbeodaa.Ev

/- EV, part C: what the evaluator says of one operation is so. No program here. -/
namespace Go.Proofs.Ytfgeffmlfbeodaa.Ev
open Go Go.RowKit
set_option linter.unusedVariables false
set_option linter.unusedSimpArgs false
def Dn (D : Nat → Prop) (H H' : AH) : Nat → Prop := fun id => D id ∨ (H.next ≤ id ∧ id < H'.next)
noncomputable def Gn (G : Nat → Option Blk) (H H' : AH) (Wr : List Nat) : Nat → Option Blk := fun id => if id ∈ Wr ∨ (H.next ≤ id ∧ id < H'.next) then H'.get id else G id
/-- What is asked ahead of a step. -/
structure Pre (ρ : Rho) (D : Nat → Prop) (G : Nat → Option Blk) (W : World) (T : Nat → Prop) (H H' : AH) (R Wr : List Nat) : Prop where
  hr : HR ρ D G W T
  tr : ∀ id, id ∈ R ∨ id ∈ Wr → T id
  g : ∀ id, id ∈ R ∨ id ∈ Wr → G id = H.get id
  fresh : ∀ id, H.next ≤ id → id < H'.next → ¬ D id
/-- What holds behind it. -/
def Post (ρ : Rho) (D : Nat → Prop) (G : Nat → Option Blk) (W : World) (T : Nat → Prop) (H H' : AH) (Wr : List Nat) (v v' : Value) (W' : World) : Prop :=
  ∃ ρ', (∀ id, D id → ρ' id = ρ id) ∧ VR ρ' (Dn D H H') v v' ∧ HR ρ' (Dn D H H') (Gn G H H' Wr) W' (Dn T H H') ∧ Below 0 W W'
section
variable {P : Program} {ρ : Rho} {D : Nat → Prop} {G : Nat → Option Blk} {W W' : World} {T : Nat → Prop} {H H' : AH} {R Wr : List Nat} {env : List Value} {a : Act}
theorem Dn_same (D : Nat → Prop) (H : AH) : Dn D H H = D := by funext id; simp [Dn]; omega
theorem Gn_same (G : Nat → Option Blk) (H : AH) : Gn G H H [] = G := by funext id; unfold Gn; rw [if_neg (by simp)]
theorem post_heap (h : HR ρ D G W T) (hh : W'.heap = W.heap) (hb : Below 0 W W') {v v' : Value} (hv : VR ρ D v v') : Post ρ D G W T H H [] v v' W' :=
  ⟨ρ, fun _ _ => rfl, by rw [Dn_same]; exact hv, by rw [Dn_same, Dn_same, Gn_same]; exact h.heap hh, hb⟩
theorem post_same (h : HR ρ D G W T) {v v' : Value} (hv : VR ρ D v v') : Post ρ D G W T H H [] v v' W := post_heap h rfl (Below.refl _ _) hv
theorem VRs.getD : ∀ {l l' : List Value} (t : Nat), VRs ρ D l l' → VR ρ D (l.getD t undef) (l'.getD t undef)
  | _, _, _, .nil => by simp; exact .tuple .nil
  | _, _, 0, .cons h _ => by simpa using h
  | _, _, t + 1, .cons _ h => by simpa using VRs.getD t h
theorem VR.of_clean {v : Value} (h : clean v = true) : VR ρ D v v := by
  unfold clean at h
  split at h
  · rename_i cs; exact .agg (l := cs.toList) (VRs.flat fun x hx => List.all_eq_true.1 h x hx)
  · rename_i cs; exact .tuple (l := cs.toList) (VRs.flat fun x hx => List.all_eq_true.1 h x hx)
  · exact .flat h
theorem VRs.flat_eq : ∀ {l l' : List Value}, VRs ρ D l l' → (∀ v ∈ l, Ev.flat v = true) → l' = l
  | _, _, .nil, _ => rfl
  | _, _, .cons h t, hf => by rw [VR.flat_eq h (hf _ (by simp)), VRs.flat_eq t fun x hx => hf x (by simp [hx])]
theorem VR.clean_eq {v v' : Value} (h : VR ρ D v v') (hc : clean v = true) : v' = v := by
  cases h with
  | flat hf => rfl
  | ptr hb => simp [clean, Ev.flat] at hc
  | slice hb _ _ _ => simp [clean, Ev.flat] at hc
  | empty hb => simp [clean, Ev.flat] at hc
  | agg h => rw [VRs.flat_eq h fun x hx => by simp [clean] at hc; exact hc x hx]
  | tuple h => rw [VRs.flat_eq h fun x hx => by simp [clean] at hc; exact hc x hx]
  | func h1 h2 => simp [clean, Ev.flat] at hc
theorem aeval_sound (he : VRs ρ D env a.tmps.toList) {x : Operand} {v : Value} (h : aeval env x = some v) : VR ρ D v (a.eval x) := by
  cases x with
  | tmp t =>
    simp only [aeval, lget_eq, Option.some.injEq] at h
    subst h
    have := VRs.getD t he
    simpa [Act.eval, Array.getD_eq_getD_getElem?, List.getD_eq_getElem?_getD] using this
  | const c =>
    simp only [aeval] at h
    split at h
    · rename_i hc
      simp only [Option.some.injEq] at h
      subst h
      exact VR.of_clean hc
    · cases h
  | global g => simp [aeval] at h
  | func f =>
    simp only [aeval, lget_eq, Option.some.injEq] at h
    subst h
    exact .func .nil .nil
theorem mapM_sound (he : VRs ρ D env a.tmps.toList) : ∀ {xs : List Operand} {vs : List Value}, xs.mapM (aeval env) = some vs → VRs ρ D vs (xs.map a.eval)
  | [], vs, h => by simp at h; subst h; exact .nil
  | x :: xs, vs, h => by
    simp only [List.mapM_cons, Option.bind_eq_bind, Option.bind_eq_some_iff, Option.pure_def, Option.some.injEq] at h
    obtain ⟨v, hv, vs', hvs, rfl⟩ := h
    exact .cons (aeval_sound he hv) (mapM_sound he hvs)
/-- The model's own steps, where nothing of the world is asked. -/
theorem run_semPure {α : Type} : ∀ (s : Sem α) (x : α) (W : World), semPure P s = some x → s.run P W = .ok x W
  | .pure y, x, W, h => by simp [semPure] at h; subst h; rfl
  | .program k, x, W, h => run_semPure (k P) x W h
  | .mark _ k, x, W, h => run_semPure k x W h
  | .load .., _, _, h => by simp [semPure] at h
  | .store .., _, _, h => by simp [semPure] at h
  | .new .., _, _, h => by simp [semPure] at h
  | .shape .., _, _, h => by simp [semPure] at h
  | .freeze .., _, _, h => by simp [semPure] at h
  | .frozen .., _, _, h => by simp [semPure] at h
  | .getObj .., _, _, h => by simp [semPure] at h
  | .setObj .., _, _, h => by simp [semPure] at h
  | .choose .., _, _, h => by simp [semPure] at h
  | .sys .., _, _, h => by simp [semPure] at h
  | .halt .., _, _, h => by simp [semPure] at h
/-- What an operation without a call comes to. -/
def Runs (P : Program) (o : Oper) (a : Act) (W : World) (v' : Value) (W' : World) : Prop :=
  (execOp a.eval o).run P W = .ok (.value v') W' ∨ ((execOp a.eval o).run P W = .ok .skip W' ∧ v' = undef)
theorem wp_of_runs {o : Oper} {v' : Value} {K : Act → World → Prop} {Q : Exit → Act → World → Prop} (h : Runs P o a W v' W') (hK : K (a.put o.dst v') W') : Oper.wp P o a W K Q := by
  unfold Oper.wp
  rcases h with h | ⟨h, rfl⟩ <;> (rw [h]; exact hK)
def OpOk (P : Program) (o : Oper) (a : Act) (ρ : Rho) (D : Nat → Prop) (G : Nat → Option Blk) (W : World) (T : Nat → Prop) (H H' : AH) (Wr : List Nat) (v : Value) : Prop :=
  ∃ v' W', Runs P o a W v' W' ∧ Post ρ D G W T H H' Wr v v' W'
/-- The cells that a name has. -/
theorem cells_some {n z : Nat} {l : List Value} {s : Option Nat} (h : H.cells n = some (l, z, s)) : H.get n = some ⟨.cells l z, true, s⟩ := by
  unfold AH.cells at h
  split at h
  · rename_i l' z' s' e; simp at h; obtain ⟨rfl, rfl, rfl⟩ := h; exact e
  · cases h
theorem Pre.cells (hp : Pre ρ D G W T H H' R Wr) {n z : Nat} {l : List Value} {s : Option Nat} (hn : n ∈ R ∨ n ∈ Wr) (h : H.cells n = some (l, z, s)) : BlkR ρ D n W (.cells l z) ∧ G n = some ⟨.cells l z, true, s⟩ ∧ T n ∧ D n := by
  have hT := hp.tr n hn
  have hG := (hp.g n hn).trans (cells_some h)
  exact ⟨hp.hr.blk n _ hT hG rfl, hG, hT, hp.hr.dom n hT⟩
theorem BlkR.range {n z : Nat} {l : List Value} (h : BlkR ρ D n W (.cells l z)) (i k : Nat) (hk : i + k ≤ l.length) :
    ∃ cs, VRs ρ D ((l.drop i).take k) cs ∧ cs.length = k ∧ W.rangeAt (ρ n).blk ((ρ n).off + i) cs := by
  obtain ⟨hz, hS, h2, h3⟩ := h
  refine ⟨(List.range k).map fun j => (W.cell? ⟨(ρ n).blk, (ρ n).off + i + j, none⟩).getD undef, VRs.of_get (by simp; omega) fun j v hj => ?_, by simp, fun j v hj => ?_⟩
  · have hjk : j < k := by
      have := (List.getElem?_eq_some_iff.1 hj).1
      simp at this; omega
    rw [List.getElem?_take_of_lt hjk, List.getElem?_drop] at hj
    obtain ⟨v', e, hr⟩ := h3 _ _ hj
    refine ⟨v', ?_, hr⟩
    rw [← Nat.add_assoc] at e
    simp [hjk, e]
  · have hjk : j < k := by
      have := (List.getElem?_eq_some_iff.1 hj).1
      simpa using this
    obtain ⟨v0, hv0⟩ : ∃ v0, l[i + j]? = some v0 := ⟨_, List.getElem?_eq_getElem (by omega)⟩
    obtain ⟨v', e, hr⟩ := h3 _ _ hv0
    rw [← Nat.add_assoc] at e
    simp [hjk, e] at hj
    rw [e, hj]
theorem szOf_some {t : TypeId} {n : Nat} (h : szOf P t = some n) : (P.info? t).map (·.size) = some n := h
theorem run_isAgg' {t : TypeId} {b : Bool} (h : isAggB P t = some b) (W : World) : (isAgg t).run P W = .ok b W := by
  unfold isAggB at h
  unfold isAgg
  split at h
  · rename_i fs e; rw [Sem.run_bind, run_underlying e W]; simp_all
  · rename_i n e' e; rw [Sem.run_bind, run_underlying e W]; simp_all
  · rename_i d h1 h2 e
    rw [Sem.run_bind, run_underlying e W]
    simp only [Option.some.injEq] at h
    subst h
    cases d <;> simp_all
  · cases h
theorem run_sizeOf' {t : TypeId} {n : Nat} (h : szOf P t = some n) (W : World) : (sizeOf t).run P W = .ok n W := by
  unfold szOf at h
  cases hq : P.info? t with
  | none => simp [hq] at h
  | some i => simp [hq] at h; simp [sizeOf, typeInfo, hq, h]
/-- A load. -/
theorem load_sound {t : TypeId} {x : Value} {v : Value} (h : aload P H t x = some (v, H', R, Wr)) (hp : Pre ρ D G W T H H' R Wr) {x' : Value} (hx : VR ρ D x x') :
    H' = H ∧ Wr = [] ∧ ∃ v', VR ρ D v v' ∧ (Instr.loadAt t x').run P W = .ok v' W ∧ ∃ b i, x' = .pointer (some ⟨b, i, none⟩) ∧ (loadVar t ⟨b, i, none⟩).run P W = .ok v' W := by
  unfold aload at h
  split at h
  · rename_i n i
    simp only [Option.bind_eq_bind, Option.bind_eq_some_iff] at h
    obtain ⟨⟨l, z, s⟩, hl, sz, hsz, b, hb, h⟩ := h
    cases hx with
    | flat hf => simp [Ev.flat] at hf
    | ptr hD =>
      cases b with
      | true =>
        simp only [if_true] at h
        split at h
        · rename_i hle
          simp only [Option.some.injEq, Prod.mk.injEq] at h
          obtain ⟨rfl, rfl, rfl, rfl⟩ := h
          obtain ⟨hB, _⟩ := hp.cells (.inl (by simp)) hl
          obtain ⟨cs, hcs, hlen, hrng⟩ := hB.range i sz hle
          have hagg := hb
          have : ∃ d, P.underlying t = some d ∧ d.isRow = true := by
            unfold isAggB at hb
            split at hb
            · rename_i fs e; exact ⟨_, e, rfl⟩
            · rename_i n e' e; exact ⟨_, e, rfl⟩
            · cases hb
            · cases hb
          obtain ⟨d, hu, hd⟩ := this
          have hrun := run_loadVar_mid (P := P) W (ρ n).blk ((ρ n).off + i) t cs d hrng hu hd (by rw [hlen]; exact hsz)
          refine ⟨rfl, rfl, .agg ⟨cs⟩, .agg hcs, ?_, _, _, rfl, hrun⟩
          simp only [Instr.loadAt, Instr.sureAddr, Sem.run_bind, Sem.run_pure, Result.andThen_ok]
          exact hrun
        · cases h
      | false =>
        simp only [Bool.false_eq_true, if_false, Option.bind_eq_some_iff] at h
        obtain ⟨w, hw, h⟩ := h
        simp only [Option.some.injEq, Prod.mk.injEq] at h
        obtain ⟨rfl, rfl, rfl, rfl⟩ := h
        obtain ⟨hB, _⟩ := hp.cells (.inl (by simp)) hl
        obtain ⟨v', e, hr⟩ := hB.2.2.2 _ _ hw
        have hrun : (loadVar t ⟨(ρ n).blk, (ρ n).off + i, none⟩).run P W = .ok v' W := by
          unfold loadVar
          rw [Sem.run_bind, run_isAgg' hb]
          simp [e]
        refine ⟨rfl, rfl, v', hr, ?_, _, _, rfl, hrun⟩
        simp only [Instr.loadAt, Instr.sureAddr, Sem.run_bind, Sem.run_pure, Result.andThen_ok]
        exact hrun
  · cases h
end
end Go.Proofs.Ytfgeffmlfbeodaa.Ev

/- EV, part D: operations, one by one. No program here. -/
namespace Go.Proofs.Ytfgeffmlfbeodaa.Ev
open Go Go.RowKit
set_option linter.unusedVariables false
set_option linter.unusedSimpArgs false
section
variable {P : Program} {ρ : Rho} {D : Nat → Prop} {G : Nat → Option Blk} {W W' : World} {T : Nat → Prop} {H H' : AH} {R Wr : List Nat} {env : List Value} {a : Act}
theorem below_setCells (b o : Nat) (vs : List Value) (W : World) : Below 0 W (W.setCells b o vs) := by
  have : ∀ (vs : List Value) (o : Nat) (w : World), (w.setCells b o vs).heap.size = w.heap.size ∧ (w.setCells b o vs).os = w.os ∧ (w.setCells b o vs).tape = w.tape ∧ (w.setCells b o vs).output = w.output := by
    intro vs
    induction vs with
    | nil => intro o w; exact ⟨rfl, rfl, rfl, rfl⟩
    | cons v r ih =>
      intro o w
      obtain ⟨h1, h2, h3, h4⟩ := ih (o + 1) (w.setCell ⟨b, o, none⟩ v)
      rw [World.setCells]
      exact ⟨by rw [h1]; simp, h2, h3, h4⟩
  obtain ⟨h1, h2, h3, h4⟩ := this vs o W
  exact ⟨h2, h3, h4, by omega, fun k hk => by omega⟩
theorem below0_alloc (W : World) (o : Obj) : Below 0 W (W.alloc o) := ⟨rfl, rfl, rfl, by simp, fun k hk => by omega⟩
theorem below0_trans {w1 w2 w3 : World} (h : Below 0 w1 w2) (k : Below 0 w2 w3) : Below 0 w1 w3 := ⟨k.os.trans h.os, k.tape.trans h.tape, k.output.trans h.output, Nat.le_trans h.size k.size, fun k hk => by omega⟩
theorem agen_sound {o : Oper} {v : Value} (h : agen P env o H = some (v, H', R, Wr)) (he : VRs ρ D env a.tmps.toList) (hp : Pre ρ D G W T H H' R Wr) : OpOk P o a ρ D G W T H H' Wr v := by
  unfold agen at h
  split at h
  · rename_i hcl
    rw [Bool.and_eq_true] at hcl
    split at h
    · rename_i w hs
      split at h
      · rename_i hw
        simp only [Option.some.injEq, Prod.mk.injEq] at h
        obtain ⟨rfl, rfl, rfl, rfl⟩ := h
        have hev : ∀ x ∈ o.op.operands, a.eval x = (aeval env x).getD undef := by
          intro x hx
          have h1 := List.all_eq_true.1 hcl.2 x (by simpa using hx)
          unfold cleanOp at h1
          cases hv : aeval env x with
          | none => simp [hv] at h1
          | some u =>
            simp only [hv] at h1
            rw [VR.clean_eq (aeval_sound he hv) h1]; rfl
        have hsel : ∀ cs b, o.op ≠ .select cs b := fun cs b e => by have := hcl.1; rw [e] at this; simp [notSel] at this
        have hex : execOp a.eval o = execOp (fun x => (aeval env x).getD undef) o := execOp_congr o hsel hev
        refine ⟨w, W, .inl ?_, post_same hp.hr (VR.of_clean hw)⟩
        rw [hex]
        exact run_semPure _ _ W hs
      · cases h
    · cases h
  · cases h
theorem move_sound {o : Oper} {x : Operand} (ho : o.op = .move x ∨ o.op = .assign x) {v : Value} (hx : aeval env x = some v) (he : VRs ρ D env a.tmps.toList) (hp : Pre ρ D G W T H H [] []) : OpOk P o a ρ D G W T H H [] v := by
  refine ⟨a.eval x, W, .inl ?_, post_same hp.hr (aeval_sound he hx)⟩
  rcases ho with ho | ho <;> (unfold execOp; simp [ho])
theorem pick_sound {o : Oper} {c x y : Operand} (ho : o.op = .pick c x y) {b : Bool} (hc : aeval env c = some (.bool b)) {v : Value} (hx : aeval env (if b then x else y) = some v) (he : VRs ρ D env a.tmps.toList) (hp : Pre ρ D G W T H H [] []) : OpOk P o a ρ D G W T H H [] v := by
  have h1 := VR.flat_eq (aeval_sound he hc) rfl
  refine ⟨a.eval (if b then x else y), W, .inl ?_, post_same hp.hr (aeval_sound he hx)⟩
  unfold execOp
  cases b <;> simp [ho, h1, asBool]
theorem extract_sound {o : Oper} {x : Operand} {i : Nat} (ho : o.op = .extract x i) {vs : Array Value} (hx : aeval env x = some (.tuple vs)) {v : Value} (hv : vs.toList[i]? = some v) (he : VRs ρ D env a.tmps.toList) (hp : Pre ρ D G W T H H [] []) : OpOk P o a ρ D G W T H H [] v := by
  have h1 := aeval_sound he hx
  cases vs with
  | mk l =>
  generalize hy : a.eval x = y at h1
  cases h1 with
  | flat hf => simp [Ev.flat] at hf
  | tuple hl =>
    obtain ⟨v', hv', hr⟩ := hl.get i v hv
    refine ⟨v', W, .inl ?_, post_same hp.hr hr⟩
    unfold execOp
    simp [ho, hy, Instr.extract, hv']
theorem ptr_form {x x' : Value} {n i : Nat} (h : VR ρ D x x') (hx : x = .pointer (some ⟨n, i, none⟩)) : x' = .pointer (some ⟨(ρ n).blk, (ρ n).off + i, none⟩) ∧ D n := by
  subst hx
  cases h with
  | flat hf => simp [Ev.flat] at hf
  | ptr hD => exact ⟨rfl, hD⟩
/-- A new block. -/
theorem post_alloc {l : List Value} {esz : Nat} (hp : Pre ρ D G W T H (H.new ⟨.cells l esz, true, none⟩) R []) {C : Array Value} {t : TypeId} {fr : Nat × Nat} (hle : l.length ≤ C.size) (hC : VRs ρ D l (C.toList.take l.length)) (hfr : fr.1 = fr.2 ∨ C.size ≤ fr.1) {v v' : Value}
    (hv : ∀ ρ' : Rho, ρ' H.next = ⟨W.heap.size, 0, C.size, esz⟩ → VR ρ' (fun id => D id ∨ id = H.next) v v') : Post ρ D G W T H (H.new ⟨.cells l esz, true, none⟩) [] v v' (W.alloc (.cells C t fr)) := by
  have hn : ¬ D H.next := hp.fresh _ (Nat.le_refl _) (Nat.lt_succ_self _)
  have hD : ∀ E : Nat → Prop, Dn E H (H.new ⟨.cells l esz, true, none⟩) = fun id => E id ∨ id = H.next := fun E => by
    funext id
    simp only [Dn, AH.new]
    exact propext ⟨fun h => h.imp_right (fun h => by omega), fun h => h.imp_right (fun h => by omega)⟩
  refine ⟨fun i => if i = H.next then ⟨W.heap.size, 0, C.size, esz⟩ else ρ i, fun id hid => if_neg (fun e : id = H.next => hn (by rw [← e]; exact hid)), by rw [hD]; exact hv _ (if_pos rfl), ?_, below0_alloc W _⟩
  rw [hD, hD]
  refine hp.hr.alloc hn (o := .cells C t fr) (b := ⟨.cells l esz, true, none⟩) (ob := .cells l esz) rfl ?_ (fun i hi => ?_) ?_
  · unfold Gn; rw [if_pos (.inr ⟨Nat.le_refl _, by simp [AH.new]⟩), AH.get_new, if_pos rfl]
  · unfold Gn
    rw [if_neg]
    rintro (h | ⟨h1, h2⟩)
    · simp at h
    · simp only [AH.new] at h2; omega
  · unfold BlkR
    simp only [if_true]
    have hb : (W.alloc (.cells C t fr)).heap[W.heap.size]? = some (.cells C t fr) := by
      show (W.heap.push _)[W.heap.size]? = _
      simp
    refine ⟨trivial, ⟨C, t, fr, hb, by omega, hfr⟩, hle, fun i v0 hi => ?_⟩
    obtain ⟨u, hu, hr⟩ := hC.get i v0 hi
    have hil : i < l.length := (List.getElem?_eq_some_iff.1 hi).1
    rw [List.getElem?_take_of_lt hil] at hu
    refine ⟨u, ?_, hr.mono (fun k hk => if_neg (fun e : k = H.next => hn (by rw [← e]; exact hk))) (fun _ => .inl)⟩
    have hcell : ∀ j, (W.alloc (.cells C t fr)).cell? ⟨W.heap.size, j, none⟩ = C[j]? := fun j => by unfold World.cell?; simp only [hb]; rfl
    rw [hcell]
    simpa using hu
theorem run_zeroValue' {t : TypeId} {z : Value} (h : zeroOf P t = some z) (W : World) : (zeroValue t).run P W = .ok z W := by
  unfold zeroOf at h
  cases hq : P.info? t with
  | none => simp [hq] at h
  | some i => simp [hq] at h; simp [zeroValue, typeInfo, hq, h]
theorem run_newRow' (t : TypeId) (C : Array Value) (W : World) : (newRow t C).run P W = .ok ⟨W.heap.size, 0, none⟩ (W.alloc (.cells C t)) := rfl
theorem cells_VRs {v v' : Value} (h : VR ρ D v v') (ho : v.cells.toList.all (·.oneCell') = true) : VRs ρ D v.cells.toList v'.cells.toList := by
  cases h with
  | agg h => exact h
  | flat hf => cases v <;> first | exact .cons (.flat hf) .nil | simp [Ev.flat] at hf
  | ptr hD => exact .cons (.ptr hD) .nil
  | slice hD hl hc he => exact .cons (.slice hD hl hc he) .nil
  | empty hD => exact .cons (.empty hD) .nil
  | tuple h => simp [Value.cells, Value.oneCell'] at ho
  | func h1 h2 => exact .cons (.func h1 h2) .nil
theorem alloc_sound {o : Oper} {t : TypeId} (ho : o.op = .alloc t) {z : Value} (hz : zeroOf P t = some z) (hc : clean z = true) (hp : Pre ρ D G W T H (H.new ⟨.cells z.cells.toList (eszOf P t z.cells.size), true, none⟩) [] []) :
    OpOk P o a ρ D G W T H (H.new ⟨.cells z.cells.toList (eszOf P t z.cells.size), true, none⟩) [] (.pointer (some ⟨H.next, 0, none⟩)) := by
  refine ⟨.pointer (some ⟨W.heap.size, 0, none⟩), W.alloc (.cells z.cells t), .inl ?_, post_alloc hp (by simp) ?_ (.inl rfl) (fun ρ' h => ?_)⟩
  · unfold execOp
    simp [ho, Instr.alloc, run_zeroValue' hz, newVar, run_newRow']
  · rw [List.take_of_length_le (by simp)]
    unfold clean at hc
    split at hc
    · exact VRs.flat fun x hx => List.all_eq_true.1 hc x hx
    · rename_i cs; exact .cons (.tuple (l := cs.toList) (l' := cs.toList) (VRs.flat fun x hx => List.all_eq_true.1 hc x hx)) .nil
    · rename_i h1 h2; cases z <;> first | exact .cons (.flat hc) .nil | exact absurd rfl (h1 _) | exact absurd rfl (h2 _)
  · have := VR.ptr (ρ := ρ') (D := fun id => D id ∨ id = H.next) (b := H.next) (i := 0) (.inr rfl)
    rw [h] at this
    exact this
theorem box_sound {o : Oper} {t : TypeId} {x : Operand} (ho : o.op = .box t x) {v : Value} (hx : aeval env x = some v) (hc : v.cells.toList.all (·.oneCell') = true) (he : VRs ρ D env a.tmps.toList) (hp : Pre ρ D G W T H (H.new ⟨.cells v.cells.toList (eszOf P t v.cells.size), true, none⟩) [] []) :
    OpOk P o a ρ D G W T H (H.new ⟨.cells v.cells.toList (eszOf P t v.cells.size), true, none⟩) [] (.pointer (some ⟨H.next, 0, none⟩)) := by
  have hr := aeval_sound he hx
  have hl := cells_VRs hr hc
  have hlen := hl.length
  refine ⟨.pointer (some ⟨W.heap.size, 0, none⟩), W.alloc (.cells (a.eval x).cells t), .inl ?_, post_alloc hp (by simp at hlen ⊢; omega) ?_ (.inl rfl) (fun ρ' h => ?_)⟩
  · unfold execOp
    simp [ho, Instr.box, newVar, run_newRow']
  · rw [List.take_of_length_le (by omega)]; exact hl
  · have := VR.ptr (ρ := ρ') (D := fun id => D id ∨ id = H.next) (b := H.next) (i := 0) (.inr rfl)
    rw [h] at this
    exact this
theorem load_op_sound {o : Oper} {t : TypeId} {x : Operand} (ho : o.op = .load t x) {xv v : Value} (hx : aeval env x = some xv) (h : aload P H t xv = some (v, H', R, Wr)) (he : VRs ρ D env a.tmps.toList) (hp : Pre ρ D G W T H H' R Wr) : OpOk P o a ρ D G W T H H' Wr v := by
  obtain ⟨rfl, rfl, v', hr, hrun, _⟩ := load_sound h hp (aeval_sound he hx)
  refine ⟨v', W, .inl ?_, post_same hp.hr hr⟩
  unfold execOp
  simp [ho, hrun]
theorem nilCheck_sound {o : Oper} {x : Operand} (ho : o.op = .nilCheck x) {v : Value} (hx : aeval env x = some v) (hv : (∃ ad, v = .pointer (some ad)) ∨ ∃ f p q, v = .func (.func f) p q) (he : VRs ρ D env a.tmps.toList) (hp : Pre ρ D G W T H H [] []) : OpOk P o a ρ D G W T H H [] v := by
  have hr := aeval_sound he hx
  refine ⟨a.eval x, W, .inl ?_, post_same hp.hr hr⟩
  unfold execOp
  generalize hy : a.eval x = y at hr
  rcases hv with ⟨ad, rfl⟩ | ⟨f, p, q, rfl⟩
  · cases hr with
    | flat hf => simp [Ev.flat] at hf
    | ptr hD => simp [ho, hy]
  · cases hr with
    | flat hf => simp [Ev.flat] at hf
    | func h1 h2 => simp [ho, hy]
theorem makeFunc_sound {o : Oper} {f : FuncId} {first captured : Array Operand} (ho : o.op = .makeFunc (.func f) first captured) {p q : List Value} (hf : first.toList.mapM (aeval env) = some p) (hc : captured.toList.mapM (aeval env) = some q) (he : VRs ρ D env a.tmps.toList) (hp : Pre ρ D G W T H H [] []) :
    OpOk P o a ρ D G W T H H [] (.func (.func f) ⟨p⟩ ⟨q⟩) := by
  refine ⟨.func (.func f) ⟨first.toList.map a.eval⟩ ⟨captured.toList.map a.eval⟩, W, .inl ?_, post_same hp.hr (.func (mapM_sound he hf) (mapM_sound he hc))⟩
  unfold execOp
  have e : ∀ xs : Array Operand, xs.map a.eval = ⟨xs.toList.map a.eval⟩ := fun xs => by cases xs; simp
  simp [ho, Instr.makeFunc, e]
theorem underlying_of {t : TypeId} {d : TypeDesc} (h : P.underlying t = some d) (W : World) : (underlying t).run P W = .ok d W := run_underlying h W
theorem fieldAddr_sound {o : Oper} {s : TypeId} {x : Operand} {f : Nat} (ho : o.op = .fieldAddr s x f) {fs : Array Field} {fd : Field} {sz n i : Nat} (hu : P.underlying s = some (.struct fs)) (hfd : fs[f]? = some fd) (hsz : szOf P fd.type = some sz) (hx : aeval env x = some (.pointer (some ⟨n, i, none⟩))) (h0 : sz ≠ 0) (he : VRs ρ D env a.tmps.toList) (hp : Pre ρ D G W T H H [] []) :
    OpOk P o a ρ D G W T H H [] (.pointer (some ⟨n, i + fd.offset, none⟩)) := by
  obtain ⟨hy, hD⟩ := ptr_form (aeval_sound he hx) rfl
  refine ⟨.pointer (some ⟨(ρ n).blk, (ρ n).off + (i + fd.offset), none⟩), W, .inl ?_, post_same hp.hr (.ptr hD)⟩
  unfold execOp
  have hadd := Addr.add_mid (ρ n).blk ((ρ n).off + i) fd.offset
  rw [Nat.add_assoc] at hadd
  simp [ho, hy, Instr.fieldAt, underlying_of hu, hfd, Instr.sureAddr, fieldPlace, run_sizeOf' hsz, h0, hadd]
theorem asNat_int {v : Value} {i : Nat} (h : asNat v = some i) : ∃ k, v = .int k (i : Int) := by
  unfold asNat at h
  split at h
  · rename_i k n
    split at h
    · rename_i h0
      simp only [Option.some.injEq] at h
      exact ⟨k, by rw [← h]; congr 1; omega⟩
    · cases h
  · cases h
theorem indexAddr_slice_sound {o : Oper} {t : TypeId} {x ix : Operand} (ho : o.op = .indexAddr t x ix) {e : TypeId} {iv : Value} {i n j len cap sz : Nat} (hu : P.underlying t = some (.slice e)) (hix : aeval env ix = some iv) (hi : asNat iv = some i) (hx : aeval env x = some (.slice (some ⟨n, j, none⟩) len cap)) (hsz : szOf P e = some sz) (hlt : i < len) (he : VRs ρ D env a.tmps.toList) (hp : Pre ρ D G W T H H [] []) :
    OpOk P o a ρ D G W T H H [] (.pointer (some ⟨n, j + i * sz, none⟩)) := by
  obtain ⟨k, rfl⟩ := asNat_int hi
  have hiv := VR.flat_eq (aeval_sound he hix) rfl
  have hr := aeval_sound he hx
  generalize hy : a.eval x = y at hr
  cases hr with
  | flat hf => simp [Ev.flat] at hf
  | empty hD => omega
  | slice hD hl hc hext =>
    refine ⟨.pointer (some ⟨(ρ n).blk, (ρ n).off + (j + i * sz), none⟩), W, .inl ?_, post_same hp.hr (.ptr hD)⟩
    unfold execOp
    have hadd := Addr.add_mid (ρ n).blk ((ρ n).off + j) (i * sz)
    rw [Nat.add_assoc] at hadd
    have h0 : (0 : Int) ≤ (i : Int) ∧ (i : Int) < (len : Int) := by omega
    simp [ho, hy, hiv, Instr.indexAt, asIntOf, underlying_of hu, h0, hadd, run_sizeOf' hsz]
    intro h; omega
end
end Go.Proofs.Ytfgeffmlfbeodaa.Ev

/- EV, part E: operations, one by one, further ones. No program here. -/
namespace Go.Proofs.Ytfgeffmlfbeodaa.Ev
open Go Go.RowKit
set_option linter.unusedVariables false
set_option linter.unusedSimpArgs false
section
variable {P : Program} {ρ : Rho} {D : Nat → Prop} {G : Nat → Option Blk} {W W' : World} {T : Nat → Prop} {H H' : AH} {R Wr : List Nat} {env : List Value} {a : Act}
theorem indexAddr_array_sound {o : Oper} {t : TypeId} {x ix : Operand} (ho : o.op = .indexAddr t x ix) {e : TypeId} {iv : Value} {i n j len sz : Nat} (hu : P.underlying t = some (.array len e)) (hix : aeval env ix = some iv) (hi : asNat iv = some i) (hx : aeval env x = some (.pointer (some ⟨n, j, none⟩))) (hsz : szOf P e = some sz) (hlt : i < len) (he : VRs ρ D env a.tmps.toList) (hp : Pre ρ D G W T H H [] []) :
    OpOk P o a ρ D G W T H H [] (.pointer (some ⟨n, j + i * sz, none⟩)) := by
  obtain ⟨k, rfl⟩ := asNat_int hi
  have hiv := VR.flat_eq (aeval_sound he hix) rfl
  obtain ⟨hy, hD⟩ := ptr_form (aeval_sound he hx) rfl
  refine ⟨.pointer (some ⟨(ρ n).blk, (ρ n).off + (j + i * sz), none⟩), W, .inl ?_, post_same hp.hr (.ptr hD)⟩
  unfold execOp
  have hadd := Addr.add_mid (ρ n).blk ((ρ n).off + j) (i * sz)
  rw [Nat.add_assoc] at hadd
  have h0 : (0 : Int) ≤ (i : Int) ∧ (i : Int) < (len : Int) := by omega
  simp [ho, hy, hiv, Instr.indexAt, asIntOf, underlying_of hu, h0, hadd, run_sizeOf' hsz, Instr.sureAddr]
  intro h; omega
theorem agg_form {x x' : Value} {cs : Array Value} (h : VR ρ D x x') (hx : x = .agg cs) : ∃ cs' : Array Value, x' = .agg cs' ∧ VRs ρ D cs.toList cs'.toList := by
  subst hx
  cases cs with
  | mk l =>
    cases h with
    | flat hf => simp [Ev.flat] at hf
    | agg h => exact ⟨⟨_⟩, rfl, h⟩
theorem part_sound {t : TypeId} {cs cs' : Array Value} (h : VRs ρ D cs.toList cs'.toList) {off sz : Nat} {b : Bool} (hb : isAggB P t = some b) (hsz : szOf P t = some sz) {v : Value} (hv : (if b then some (.agg (cs.extract off (off + sz))) else cs[off]?) = some v) (W : World) : ∃ v', (part t cs' off).run P W = .ok v' W ∧ VR ρ D v v' := by
  unfold part
  cases b with
  | true =>
    simp only [if_true, Option.some.injEq] at hv
    subst hv
    refine ⟨.agg (cs'.extract off (off + sz)), ?_, ?_⟩
    · rw [Sem.run_bind, run_isAgg' hb]; simp [run_sizeOf' hsz]
    · have e : ∀ c : Array Value, c.extract off (off + sz) = ⟨(c.toList.drop off).take sz⟩ := fun c => by
        apply Array.toList_inj.1
        simp [Array.toList_extract, List.extract_eq_take_drop]
      rw [e, e]
      exact .agg ((h.drop off).take sz)
  | false =>
    simp only [Bool.false_eq_true, if_false] at hv
    obtain ⟨v', hv', hr⟩ := h.get off v (by simpa using hv)
    refine ⟨v', ?_, hr⟩
    rw [Sem.run_bind, run_isAgg' hb]
    have : cs'[off]? = some v' := by simpa using hv'
    simp [this]
theorem index_array_sound {o : Oper} {t : TypeId} {x ix : Operand} (ho : o.op = .index t x ix) {e : TypeId} {cs : Array Value} {iv v : Value} {i len sz : Nat} {b : Bool} (hu : P.underlying t = some (.array len e)) (hix : aeval env ix = some iv) (hi : asNat iv = some i) (hx : aeval env x = some (.agg cs)) (hsz : szOf P e = some sz) (hb : isAggB P e = some b) (hlt : i < len)
    (hv : (if b then some (.agg (cs.extract (i * sz) (i * sz + sz))) else cs[i * sz]?) = some v) (he : VRs ρ D env a.tmps.toList) (hp : Pre ρ D G W T H H [] []) : OpOk P o a ρ D G W T H H [] v := by
  obtain ⟨k, rfl⟩ := asNat_int hi
  have hiv := VR.flat_eq (aeval_sound he hix) rfl
  obtain ⟨cs', hy, hl⟩ := agg_form (aeval_sound he hx) rfl
  obtain ⟨v', hrun, hr⟩ := part_sound (P := P) hl hb hsz hv W
  refine ⟨v', W, .inl ?_, post_same hp.hr hr⟩
  unfold execOp
  have h0 : (0 : Int) ≤ (i : Int) ∧ (i : Int) < (len : Int) := by omega
  simp [ho, hy, hiv, Instr.index, asIntOf, underlying_of hu, h0, run_sizeOf' hsz, hrun]
  intro h; omega
theorem field_sound {o : Oper} {t : TypeId} {x : Operand} {f : Nat} (ho : o.op = .field t x f) {fs : Array Field} {fd : Field} {cs : Array Value} {v : Value} {sz : Nat} {b : Bool} (hu : P.underlying t = some (.struct fs)) (hfd : fs[f]? = some fd) (hsz : szOf P fd.type = some sz) (hb : isAggB P fd.type = some b) (hx : aeval env x = some (.agg cs))
    (hv : (if b then some (.agg (cs.extract fd.offset (fd.offset + sz))) else cs[fd.offset]?) = some v) (he : VRs ρ D env a.tmps.toList) (hp : Pre ρ D G W T H H [] []) : OpOk P o a ρ D G W T H H [] v := by
  obtain ⟨cs', hy, hl⟩ := agg_form (aeval_sound he hx) rfl
  obtain ⟨v', hrun, hr⟩ := part_sound (P := P) hl hb hsz hv W
  refine ⟨v', W, .inl ?_, post_same hp.hr hr⟩
  unfold execOp
  simp [ho, hy, Instr.field, underlying_of hu, hfd, asAgg, hrun]
/-- A store. -/
theorem post_write {n z : Nat} {l vs vs' : List Value} {s : Option Nat} {i : Nat} {H' : AH} (hl : H.cells n = some (l, z, s)) (hsn : s ≠ some n) (hv : VRs ρ D vs vs') (hle : i + vs.length ≤ l.length)
    (hH : H' = (H.killS s).put n ⟨.cells (l.take i ++ vs ++ l.drop (i + vs.length)) z, true, none⟩) (hp : Pre ρ D G W T H H' R (wr n s)) {v v' : Value} (hr : VR ρ D v v') : Post ρ D G W T H H' (wr n s) v v' (W.setCells (ρ n).blk ((ρ n).off + i) vs') := by
  have hkn : ∀ s : Option Nat, (H.killS s).next = H.next := fun s => by
    cases s with
    | none => rfl
    | some m => simp only [AH.killS, AH.kill]; cases H.get m <;> rfl
  have hnext : H'.next = H.next := by rw [hH]; simp only [AH.put]; exact hkn s
  have hD : ∀ E : Nat → Prop, Dn E H H' = E := fun E => by funext id; simp [Dn, hnext]; omega
  obtain ⟨hB, hG, hT, hDn⟩ := hp.cells (.inr (by cases s <;> simp [wr])) hl
  refine ⟨ρ, fun _ _ => rfl, by rw [hD]; exact hr, ?_, below_setCells _ _ _ W⟩
  rw [hD, hD]
  have hg1 : ∀ id, id ∈ wr n s → Gn G H H' (wr n s) id = H'.get id := fun id hid => by unfold Gn; rw [if_pos (.inl hid)]
  refine hp.hr.write hT hG hv hle ?_ (fun m b hm hTm hmn hb => ?_) (fun j hj hjs => ?_)
  · rw [hg1 n (by cases s <;> simp [wr]), hH, AH.get_put, if_pos rfl]
  · subst hm
    rw [hg1 m (by simp [wr]), hH, AH.get_put, if_neg hmn] at hb
    simp only [AH.killS, AH.kill] at hb
    cases hgm : H.get m with
    | none => rw [hgm] at hb; rw [hgm] at hb; cases hb
    | some c =>
      rw [hgm] at hb
      rw [AH.get_put, if_pos rfl] at hb
      simp only [Option.some.injEq] at hb
      rw [← hb]
  · unfold Gn
    rw [if_neg]
    rintro (h | ⟨h1, h2⟩)
    · cases s with
      | none => simp [wr] at h; exact hj h
      | some m =>
        simp [wr] at h
        rcases h with h | h
        · exact hj h
        · exact hjs (by rw [h])
    · rw [hnext] at h2; omega
theorem BlkR.there {n z : Nat} {l : List Value} (h : BlkR ρ D n W (.cells l z)) (i k : Nat) (hk : i + k ≤ (ρ n).ext) : W.there (ρ n).blk ((ρ n).off + i) k := by
  intro j hj
  have := h.2.1.cell (i + j) (by omega)
  rwa [← Nat.add_assoc] at this
theorem store_sound {o : Oper} {t : TypeId} {x y : Operand} (ho : o.op = .store t x y) {xv yv v : Value} (hx : aeval env x = some xv) (hy : aeval env y = some yv) (h : astore P H t xv yv = some (v, H', R, Wr)) (he : VRs ρ D env a.tmps.toList) (hp : Pre ρ D G W T H H' R Wr) : OpOk P o a ρ D G W T H H' Wr v := by
  unfold astore at h
  split at h
  · rename_i n i
    simp only [Option.bind_eq_bind, Option.bind_eq_some_iff] at h
    obtain ⟨⟨l, z, s⟩, hl, sz, hsz, h⟩ := h
    simp only at h
    split at h
    · rename_i hc
      obtain ⟨h1, h2, h3, h4⟩ := hc
      simp only [Option.some.injEq, Prod.mk.injEq] at h
      obtain ⟨rfl, rfl, rfl, rfl⟩ := h
      obtain ⟨hpx, hD⟩ := ptr_form (aeval_sound he hx) rfl
      have hry := aeval_sound he hy
      have hvs := cells_VRs hry h3
      have hlen := hvs.length
      obtain ⟨hB, hG, hT, hDn⟩ := hp.cells (.inr (by cases s <;> simp [wr])) hl
      have hone : (a.eval y).cells.toList.all (·.oneCell') = true := by
        rw [List.all_eq_true]
        intro u hu
        obtain ⟨q, hq⟩ := List.getElem?_of_mem hu
        obtain ⟨u0, hu0, hru⟩ := hvs.get' q u hq
        exact hru.oneCell (List.all_eq_true.1 h3 u0 (List.mem_of_getElem? hu0))
      refine ⟨undef, W.setCells (ρ n).blk ((ρ n).off + i) (a.eval y).cells.toList, .inr ⟨?_, rfl⟩, post_write hl h4 hvs h2 rfl hp (.tuple .nil)⟩
      unfold execOp
      have hext : i + (a.eval y).cells.toList.length ≤ (ρ n).ext := by have := hB.2.2.1; omega
      have hth := hB.there i (a.eval y).cells.toList.length hext
      have hst := run_storeCells_cells (P := P) (ρ n).blk ((ρ n).off + i) (a.eval y).cells.toList 0 W (fun j hj => by simpa using (hth j hj).1) (fun j hj => by simpa using (hth j hj).2) (fun u hu => List.all_eq_true.1 hone u hu)
      simp only [Nat.add_zero] at hst
      have hsz' : (a.eval y).cells.size = sz := by rw [← h1, ← hlen]; simp
      simp [ho, hpx, Instr.storeAt, Instr.sureAddr, storeVar, run_sizeOf' hsz, hsz', hst]
    · cases h
  · cases h
end
end Go.Proofs.Ytfgeffmlfbeodaa.Ev

/- EV, part F: append. No program here. -/
namespace Go.Proofs.Ytfgeffmlfbeodaa.Ev
open Go Go.RowKit
set_option linter.unusedVariables false
set_option linter.unusedSimpArgs false
section
variable {P : Program} {ρ : Rho} {D : Nat → Prop} {G : Nat → Option Blk} {W W' : World} {T : Nat → Prop} {H H' : AH} {R Wr : List Nat} {env : List Value} {a : Act}
/-- What is appended, or copied. -/
theorem items_sound {sz n : Nat} {x x' : Value} {items : List Value} {rd : List Nat} (hi : aitems H sz n x = some (items, rd)) (hx : VR ρ D x x') (hl : ∃ m, alenOf x = some m ∧ n ≤ m) (hp : Pre ρ D G W T H H' R Wr) (hrd : ∀ id ∈ rd, id ∈ R) :
    ∃ news, VRs ρ D items news ∧ (∀ w : World, (∀ p, w.cell? p = W.cell? p) → (Builtin.firstCells sz n x').run P w = .ok news.toArray w) := by
  obtain ⟨m, hm, hnm⟩ := hl
  unfold aitems at hi
  split at hi
  · rename_i l c
    simp only [Option.some.injEq, Prod.mk.injEq] at hi
    obtain ⟨rfl, rfl⟩ := hi
    rw [VR.flat_eq hx rfl]
    exact ⟨[], .nil, fun w _ => by simp [Builtin.firstCells]⟩
  · rename_i b i l c
    simp only [Option.bind_eq_bind, Option.bind_eq_some_iff] at hi
    obtain ⟨⟨cs, z, sb⟩, hcs, hi⟩ := hi
    simp only at hi
    split at hi
    · rename_i hle
      simp only [Option.some.injEq, Prod.mk.injEq] at hi
      obtain ⟨rfl, rfl⟩ := hi
      obtain ⟨hB, _⟩ := hp.cells (.inl (hrd b (by simp))) hcs
      obtain ⟨news, hnews, hlen, hrng⟩ := hB.range i (n * sz) hle
      simp only [alenOf, Option.some.injEq] at hm
      cases hx with
      | flat hf => simp [Ev.flat] at hf
      | empty hD =>
        have h0 : n * sz = 0 := by have : n = 0 := by omega
                                   rw [this, Nat.zero_mul]
        refine ⟨news, hnews, fun w hw => ?_⟩
        have : news = [] := List.length_eq_zero_iff.1 (by omega)
        subst this
        simp [Builtin.firstCells, h0, loadCells, loadCellsFrom]
      | slice hD h1 h2 h3 =>
        refine ⟨news, hnews, fun w hw => run_firstCells_some w sz n _ _ _ news hlen (fun j v hj => ?_)⟩
        rw [hw, Addr.add_mid]
        exact hrng j v hj
    · cases hi
  · rename_i s
    simp only [Option.some.injEq, Prod.mk.injEq] at hi
    obtain ⟨rfl, rfl⟩ := hi
    rw [VR.flat_eq hx rfl]
    refine ⟨_, VRs.flat fun v hv => ?_, fun w _ => ?_⟩
    · obtain ⟨q, _, rfl⟩ := List.mem_map.1 hv; rfl
    · simp only [Builtin.firstCells, Sem.run_pure]
      congr 1
      apply Array.toList_inj.1
      simp
  · cases hi
theorem growBy_le (n : Nat) : ∀ (r c B : Nat), c ≤ B → n ≤ B → n + (n + 768) / 4 ≤ B → Builtin.growBy n r c ≤ B
  | 0, c, B, h, _, _ => h
  | r + 1, c, B, h, hn, hb => by
    rw [Builtin.growBy]
    split
    · exact h
    · exact growBy_le n r _ B (by omega) hn hb
theorem nextcap_le (n c : Nat) (h : c < n) : Builtin.nextslicecap n c ≤ 2 * n + 768 := by
  unfold Builtin.nextslicecap
  split
  · omega
  · split
    · omega
    · exact growBy_le n 4 c _ (by omega) (by omega) (by omega)
theorem grown_ge (W : World) (need cap : Nat) (e : TypeId) : need ≤ grownCap W need cap e := by
  unfold grownCap
  simp [Question.cut]
/-- The abstract heap behind an append onto a name. -/
noncomputable def appH (H : AH) (b z i e : Nat) (cs items : List Value) (sb : Option Nat) : AH :=
  ((H.killS sb).put b ⟨.cells cs z, decide (cs.length ≤ e), some H.next⟩).new ⟨.cells ((cs.take e).drop i ++ items) z, true, some b⟩
theorem killS_next (H : AH) (s : Option Nat) : (H.killS s).next = H.next := by
  cases s with
  | none => rfl
  | some m => simp only [AH.killS, AH.kill]; cases H.get m <;> rfl
theorem killS_dead {H : AH} {m : Nat} {b : Blk} (h : (H.killS (some m)).get m = some b) : b.live = false := by
  simp only [AH.killS, AH.kill] at h
  cases hgm : H.get m with
  | none => rw [hgm] at h; rw [hgm] at h; cases h
  | some c =>
    rw [hgm] at h
    rw [AH.get_put, if_pos rfl] at h
    simp only [Option.some.injEq] at h
    rw [← h]
theorem appH_next (H : AH) (b z i e : Nat) (cs items : List Value) (sb : Option Nat) : (appH H b z i e cs items sb).next = H.next + 1 := by
  simp only [appH, AH.new, AH.put, killS_next]
theorem appH_get (H : AH) (b z i e : Nat) (cs items : List Value) (sb : Option Nat) (m : Nat) : (appH H b z i e cs items sb).get m =
    if m = H.next then some ⟨.cells ((cs.take e).drop i ++ items) z, true, some b⟩ else if m = b then some ⟨.cells cs z, decide (cs.length ≤ e), some H.next⟩ else (H.killS sb).get m := by
  unfold appH
  rw [AH.get_new]
  have : ((H.killS sb).put b ⟨.cells cs z, decide (cs.length ≤ e), some H.next⟩).next = H.next := by simp only [AH.put, killS_next]
  rw [this, AH.get_put]
theorem wr_mem {n m : Nat} {s : Option Nat} : m ∈ wr n s ↔ m = n ∨ s = some m := by
  cases s with
  | none => simp [wr]
  | some k => simp [wr, eq_comm]
section
variable {b z i e : Nat} {cs items news : List Value} {sb : Option Nat}
theorem app_Dn (E : Nat → Prop) (H : AH) : Dn E H (appH H b z i e cs items sb) = fun id => E id ∨ id = H.next := by
  funext id
  simp only [Dn, appH_next]
  exact propext ⟨fun h => h.imp_right (fun h => by omega), fun h => h.imp_right (fun h => by omega)⟩
theorem app_Gn (hbn : b ≠ H.next) (id : Nat) : Gn G H (appH H b z i e cs items sb) (wr b sb) id =
    if id = H.next then some ⟨.cells ((cs.take e).drop i ++ items) z, true, some b⟩ else if id = b then some ⟨.cells cs z, decide (cs.length ≤ e), some H.next⟩ else if sb = some id then (H.killS sb).get id else G id := by
  unfold Gn
  rw [appH_get, appH_next]
  by_cases h1 : id = H.next
  · rw [if_pos (.inr ⟨by omega, by omega⟩), if_pos h1, if_pos h1]
  · by_cases h2 : id = b
    · rw [if_pos (.inl (wr_mem.2 (.inl h2))), if_neg h1, if_pos h2, if_neg h1, if_pos h2]
    · by_cases h3 : sb = some id
      · rw [if_pos (.inl (wr_mem.2 (.inr h3))), if_neg h1, if_neg h2, if_neg h1, if_neg h2, if_pos h3]
      · rw [if_neg (by
          rintro (h | h)
          · rcases wr_mem.1 h with h | h
            · exact h2 h
            · exact h3 h
          · omega), if_neg h1, if_neg h2, if_neg h3]
/-- In place. -/
theorem post_grow (hcs : H.cells b = some (cs, z, sb)) (hsb : sb ≠ some b) (hbn : b ≠ H.next) (hsn : sb ≠ some H.next) (hv : VRs ρ D items news) (hie : i ≤ e) (hel : e ≤ cs.length) (hx : e + items.length ≤ (ρ b).ext) (hp : Pre ρ D G W T H (appH H b z i e cs items sb) R (wr b sb)) {v v' : Value}
    (hr : ∀ ρ' : Rho, ρ' H.next = ⟨(ρ b).blk, (ρ b).off + i, (ρ b).ext - i, (ρ b).esz⟩ → VR ρ' (fun id => D id ∨ id = H.next) v v') : Post ρ D G W T H (appH H b z i e cs items sb) (wr b sb) v v' (W.setCells (ρ b).blk ((ρ b).off + e) news) := by
  have hn : ¬ D H.next := hp.fresh _ (Nat.le_refl _) (by rw [appH_next]; omega)
  obtain ⟨hB, hG, hT, hDb⟩ := hp.cells (.inr (wr_mem.2 (.inl rfl))) hcs
  refine ⟨fun k => if k = H.next then ⟨(ρ b).blk, (ρ b).off + i, (ρ b).ext - i, (ρ b).esz⟩ else ρ k, fun id hid => if_neg (fun e : id = H.next => hn (by rw [← e]; exact hid)), by rw [app_Dn]; exact hr _ (if_pos rfl), ?_, below_setCells _ _ _ W⟩
  rw [app_Dn, app_Dn]
  refine hp.hr.grow hT hn hG hv hie hel hx ?_ ?_ (fun k c hk hTk hkb hc => ?_) (fun j hjb hjn hjs => ?_)
  · rw [app_Gn hbn, if_neg hbn, if_pos rfl]
  · rw [app_Gn hbn, if_pos rfl]
  · subst hk
    rw [app_Gn hbn, if_neg (fun e => hsn (by rw [e])), if_neg hkb, if_pos rfl] at hc
    exact killS_dead hc
  · rw [app_Gn hbn, if_neg hjn, if_neg hjb, if_neg (fun e => hjs e.symm)]
/-- In a new block. -/
theorem post_realloc (hcs : H.cells b = some (cs, z, sb)) (hsb : sb ≠ some b) (hbn : b ≠ H.next) (hsn : sb ≠ some H.next) {C : Array Value} {t : TypeId} {W0 : World} (hW0 : W0.heap = W.heap) (hbel : Below 0 W W0) (hle : ((cs.take e).drop i ++ items).length ≤ C.size) (hC : VRs ρ D ((cs.take e).drop i ++ items) (C.toList.take ((cs.take e).drop i ++ items).length))
    (hp : Pre ρ D G W T H (appH H b z i e cs items sb) R (wr b sb)) {v v' : Value} (hr : ∀ ρ' : Rho, ρ' H.next = ⟨W.heap.size, 0, C.size, z⟩ → VR ρ' (fun id => D id ∨ id = H.next) v v') : Post ρ D G W T H (appH H b z i e cs items sb) (wr b sb) v v' (W0.alloc (.cells C t)) := by
  have hn : ¬ D H.next := hp.fresh _ (Nat.le_refl _) (by rw [appH_next]; omega)
  obtain ⟨hB, hG, hT, hDb⟩ := hp.cells (.inr (wr_mem.2 (.inl rfl))) hcs
  have hsz : W0.heap.size = W.heap.size := by rw [hW0]
  have h0 : HR ρ D G W0 T := hp.hr.heap hW0
  have hold : ∀ j, T j → j ≠ H.next := fun j hj ej => hn (by rw [← ej]; exact hp.hr.dom j hj)
  refine ⟨fun k => if k = H.next then ⟨W0.heap.size, 0, C.size, z⟩ else ρ k, fun id hid => if_neg (fun e : id = H.next => hn (by rw [← e]; exact hid)), by rw [app_Dn]; exact hr _ (by rw [hsz]; exact if_pos rfl), ?_, below0_trans hbel (below0_alloc W0 _)⟩
  rw [app_Dn, app_Dn]
  have h1 := h0.alloc (G' := fun id => if id = H.next then some ⟨.cells ((cs.take e).drop i ++ items) z, true, none⟩ else G id) hn (o := .cells C t) (b := ⟨.cells ((cs.take e).drop i ++ items) z, true, none⟩) (ob := .cells ((cs.take e).drop i ++ items) z) (esz := z) (ext := C.size) rfl (if_pos rfl) (fun j hj => if_neg hj) (by
    unfold BlkR
    simp only [if_true]
    have hb : (W0.alloc (.cells C t)).heap[W0.heap.size]? = some (.cells C t) := by
      show (W0.heap.push _)[W0.heap.size]? = _
      simp
    refine ⟨trivial, ⟨C, t, (0, 0), hb, by omega, .inl rfl⟩, hle, fun j v0 hj => ?_⟩
    obtain ⟨u, hu, hru⟩ := hC.get j v0 hj
    have hjl : j < ((cs.take e).drop i ++ items).length := (List.getElem?_eq_some_iff.1 hj).1
    rw [List.getElem?_take_of_lt hjl] at hu
    refine ⟨u, ?_, hru.mono (fun k hk => if_neg (fun e : k = H.next => hn (by rw [← e]; exact hk))) (fun _ => .inl)⟩
    have hcell : ∀ j, (W0.alloc (.cells C t)).cell? ⟨W0.heap.size, j, none⟩ = C[j]? := fun j => by unfold World.cell?; simp only [hb]; rfl
    rw [hcell]
    simpa using hu)
  refine h1.resib (fun j c hj hc hl => ?_) (fun j k x y x' y' hj hk hjk hgj hgk hgj' hgk' hl1 hl2 hs1 hs2 => ?_)
  · rw [app_Gn hbn] at hc
    by_cases e1 : j = H.next
    · rw [if_pos e1] at hc
      cases hc
      exact ⟨_, if_pos e1, rfl, rfl⟩
    · rw [if_neg e1] at hc
      by_cases e2 : j = b
      · rw [if_pos e2] at hc
        cases hc
        subst e2
        exact ⟨⟨.cells cs z, true, sb⟩, by show (if j = H.next then _ else G j) = _; rw [if_neg e1]; exact hG, rfl, rfl⟩
      · rw [if_neg e2] at hc
        by_cases e3 : sb = some j
        · rw [if_pos e3] at hc
          subst e3
          rw [killS_dead hc] at hl; cases hl
        · rw [if_neg e3] at hc
          exact ⟨c, by rw [if_neg e1]; exact hc, hl, rfl⟩
  · by_cases e1 : j = H.next
    · rw [if_pos e1] at hgj; cases hgj; cases hs1
    · by_cases e2 : k = H.next
      · rw [if_pos e2] at hgk; cases hgk; cases hs2
      · rw [if_neg e1] at hgj
        rw [if_neg e2] at hgk
        rw [app_Gn hbn, if_neg e1] at hgj'
        rw [app_Gn hbn, if_neg e2] at hgk'
        by_cases e3 : j = b
        · subst e3
          rw [hG] at hgj
          cases hgj
          rw [if_neg (fun e => hjk e.symm), if_pos hs1] at hgk'
          subst hs1
          rw [killS_dead hgk'] at hl2; cases hl2
        · by_cases e4 : k = b
          · subst e4
            rw [hG] at hgk
            cases hgk
            rw [if_neg e3, if_pos hs2] at hgj'
            subst hs2
            rw [killS_dead hgj'] at hl1; cases hl1
          · rw [if_neg e3] at hgj'
            rw [if_neg e4] at hgk'
            by_cases e5 : sb = some j
            · rw [if_pos e5] at hgj'
              subst e5
              rw [killS_dead hgj'] at hl1; cases hl1
            · by_cases e6 : sb = some k
              · rw [if_pos e6] at hgk'
                subst e6
                rw [killS_dead hgk'] at hl2; cases hl2
              · rw [if_neg e5] at hgj'
                rw [if_neg e6] at hgk'
                rw [hgj] at hgj'
                rw [hgk] at hgk'
                cases hgj'
                cases hgk'
                exact ⟨hs1, hs2⟩
end
set_option maxRecDepth 100000 in
theorem append_sound {o : Oper} {s x : Operand} {ats : Array TypeId} (ho : o.op = .call { callee := .builtin .append, args := #[s, x], argTypes := ats }) {sv xv v : Value} (hs : aeval env s = some sv) (hx : aeval env x = some xv) (h : aappend P H ats sv xv = some (v, H', R, Wr)) (he : VRs ρ D env a.tmps.toList) (hp : Pre ρ D G W T H H' R Wr) : OpOk P o a ρ D G W T H H' Wr v := by
  unfold aappend at h
  simp only [Option.bind_eq_bind, Option.bind_eq_some_iff] at h
  obtain ⟨t, ht, u, hu, elem, hel, _, hut, inf, hinf, zero, hzero, n, hlen, ⟨items, rd⟩, hit, h⟩ := h
  simp only at h
  split at h
  case isFalse => cases h
  rename_i hc
  obtain ⟨hats, hclean, hzs, hil, hone⟩ := hc
  have hts : ats = #[t, u] := by
    apply Array.ext_getElem?
    intro j
    match j with
    | 0 => simpa using ht
    | 1 => simpa using hu
    | j + 2 => rw [Array.getElem?_eq_none (by omega), Array.getElem?_eq_none (by simp)]
  have htu := aelem_some hel
  have hku := aspread_some hut
  have hxr := aeval_sound he hx
  have hsr := aeval_sound he hs
  have hrun : (execOp a.eval o).run P W = ((Builtin.append_ #[t, u] o.type #[a.eval s, a.eval x]).run P W).andThen fun v w => .ok (.value v) w := by
    unfold execOp
    simp [ho, hts, resolve, invoke, builtin]
  have mkSrc : (∀ id ∈ rd, id ∈ R) → ∃ news, VRs ρ D items news ∧ Src P inf.size u (a.eval x) n news W := by
    intro hrd
    obtain ⟨news, hn1, hn2⟩ := items_sound hit hxr ⟨n, hlen, Nat.le_refl _⟩ hp hrd
    have hnl := hn1.length
    refine ⟨news, hn1, hku, fun w' => ?_, hn2 W (fun _ => rfl), hn2 W.drew (fun _ => rfl), by omega, fun q hq => ?_⟩
    · unfold alenOf at hlen
      generalize a.eval x = y at hxr
      split at hlen
      · simp only [Option.some.injEq] at hlen
        subst hlen
        cases hxr with
        | flat hf => rfl
        | empty hD => rfl
        | slice h1 h2 h3 h4 => rfl
      · simp only [Option.some.injEq] at hlen
        subst hlen
        rw [VR.flat_eq hxr rfl]; rfl
      · cases hlen
    · obtain ⟨j, hj⟩ := List.getElem?_of_mem hq
      obtain ⟨q0, hq0, hr⟩ := hn1.get' j q hj
      exact hr.oneCell (List.all_eq_true.1 hone q0 (List.mem_of_getElem? hq0))
  split at h
  · -- nothing is appended
    rename_i hn0
    subst hn0
    have nothing : ∀ (rd' : List Nat), (∀ id ∈ rd, id ∈ R) → (∃ base l c, a.eval s = .slice base l c ∧ l ≤ c) → (execOp a.eval o).run P W = .ok (.value (a.eval s)) W := by
      intro _ hrd ⟨base, l, c, e1, hlc⟩
      obtain ⟨news, hn1, hsrc⟩ := mkSrc hrd
      have : news = [] := List.length_eq_zero_iff.1 (by rw [hsrc.newsLen]; simp)
      subst this
      rw [hrun, e1, run_append_nothing W t u o.type elem inf htu hinf base l c hlc _ hsrc]
      rfl
    split at h
    · simp only [Option.some.injEq, Prod.mk.injEq] at h
      obtain ⟨rfl, rfl, rfl, rfl⟩ := h
      have e1 := VR.flat_eq hsr rfl
      exact ⟨a.eval s, W, .inl (nothing rd (fun _ h => h) ⟨none, 0, 0, e1, Nat.le_refl _⟩), post_same hp.hr hsr⟩
    · simp only [Option.some.injEq, Prod.mk.injEq] at h
      obtain ⟨rfl, rfl, rfl, rfl⟩ := h
      refine ⟨a.eval s, W, .inl (nothing rd (fun _ h => h) ?_), post_same hp.hr hsr⟩
      generalize a.eval s = y at hsr
      cases hsr with
      | flat hf => simp [Ev.flat] at hf
      | empty hD => exact ⟨_, _, _, rfl, Nat.le_refl _⟩
      | slice h1 h2 h3 h4 => exact ⟨_, _, _, rfl, by omega⟩
    · cases h
  · rename_i hn0
    split at h
    · cases h
    · rename_i hsz0
      have hb1 : inf.bytes ≤ inf.bytes + 1 := Nat.le_succ _
      split at h
      · -- onto nil
        split at h
        case isFalse => cases h
        rename_i hcap
        simp only [Option.some.injEq, Prod.mk.injEq] at h
        obtain ⟨rfl, rfl, rfl, rfl⟩ := h
        obtain ⟨news, hn1, hsrc⟩ := mkSrc (fun _ h => h)
        have e1 := VR.flat_eq hsr rfl
        have hcapN := nextcap_le n 0 (by omega)
        have hmul : Builtin.nextslicecap n 0 * inf.bytes ≤ (2 * n + 768) * (inf.bytes + 1) := Nat.mul_le_mul hcapN hb1
        have hnn : n ≤ (2 * n + 768) * (inf.bytes + 1) := Nat.le_trans (by omega) (Nat.le_mul_of_pos_right _ (Nat.succ_pos _))
        have hg := run_append_grow_src W t u o.type elem inf zero htu hinf hzero none 0 0 [] (by simp [Builtin.firstCells]) (a.eval x) n news hsrc (by omega) (by simp only [Nat.zero_add]; omega) (by rw [Nat.zero_add]; omega)
        rw [Nat.zero_add] at hg
        rw [e1, hg] at hrun
        have hnl := hn1.length
        have hge := grown_ge W n 0 elem
        refine ⟨_, _, .inl hrun, ?_⟩
        have hCs : ((([] ++ news).toArray ++ Builtin.zeroCells zero.cells (grownCap W n 0 elem - n))).size = grownCap W n 0 elem * inf.size := by
          simp [Builtin.zeroCells, hnl, hil, hzs, ← Nat.add_mul]
          rw [show n + (grownCap W n 0 elem - n) = grownCap W n 0 elem by omega]
        obtain ⟨ρ', h1, h2, h3, h4⟩ := post_alloc (esz := inf.size) (W := W.drew) (t := elem) (fr := (0, 0)) (l := items) (H := H) (G := G) (C := ([] ++ news).toArray ++ Builtin.zeroCells zero.cells (grownCap W n 0 elem - n)) ⟨hp.hr.heap rfl, hp.tr, hp.g, hp.fresh⟩ (by rw [hCs, hil]; exact Nat.mul_le_mul_right _ hge) (by simp [← hnl]; exact hn1) (.inl rfl)
          (v := .slice (some ⟨H.next, 0, none⟩) n n) (v' := .slice (some ⟨W.heap.size, 0, none⟩) n (grownCap W n 0 elem)) (fun ρ' e => by
            have := VR.slice (ρ := ρ') (D := fun id => D id ∨ id = H.next) (b := H.next) (i := 0) (l := n) (c := n) (c' := grownCap W n 0 elem) (.inr rfl) (Nat.le_refl _) hge (by rw [e, hCs]; simp)
            rw [e] at this
            exact this)
        exact ⟨ρ', h1, h2, h3, below0_trans (w1 := W) (w2 := W.drew) ⟨rfl, rfl, rfl, Nat.le_refl _, fun k hk => by omega⟩ h4⟩
      · -- onto a name
        rename_i b i l c
        simp only [Option.bind_eq_bind, Option.bind_eq_some_iff] at h
        obtain ⟨⟨cs, z, sb⟩, hcs, h⟩ := h
        simp only at h
        split at h
        case isFalse => cases h
        rename_i hc2
        obtain ⟨q1, q2, q3, q4, q5, q6⟩ := hc2
        simp only [Option.some.injEq, Prod.mk.injEq] at h
        obtain ⟨rfl, hH, rfl, rfl⟩ := h
        have hH' : H' = appH H b z i (i + l * inf.size) cs items sb := hH.symm
        subst hH'
        subst q5
        obtain ⟨news, hn1, hsrc⟩ := mkSrc (fun _ h => by simp [h])
        have hnl := hn1.length
        obtain ⟨hB, hG, hT, hDb⟩ := hp.cells (.inr (wr_mem.2 (.inl rfl))) hcs
        have hnn : 2 * (l + n) + 768 ≤ (2 * (l + n) + 768) * (inf.bytes + 1) := Nat.le_mul_of_pos_right _ (Nat.succ_pos _)
        have grow : ∀ (base : Option Addr) (c' : Nat), a.eval s = .slice base l c' → c' < l + n → (∃ olds, VRs ρ D ((cs.take (i + l * inf.size)).drop i) olds ∧ olds.length = l * inf.size ∧ (Builtin.firstCells inf.size l (.slice base l c')).run P W.drew = .ok olds.toArray W.drew) →
            OpOk P o a ρ D G W T H (appH H b inf.size i (i + l * inf.size) cs items sb) (wr b sb) (.slice (some ⟨H.next, 0, none⟩) (l + n) (l + n)) := by
          intro base c' e1 hlt ⟨olds, ho1, ho2, ho3⟩
          have hcapN := nextcap_le (l + n) c' hlt
          have hmul : Builtin.nextslicecap (l + n) c' * inf.bytes ≤ (2 * (l + n) + 768) * (inf.bytes + 1) := Nat.mul_le_mul hcapN hb1
          have hg := run_append_grow_src W t u o.type elem inf zero htu hinf hzero base l c' olds ho3 (a.eval x) n news hsrc hlt (by omega) (by omega)
          rw [e1, hg] at hrun
          have hge := grown_ge W (l + n) c' elem
          have hCs : ((olds ++ news).toArray ++ Builtin.zeroCells zero.cells (grownCap W (l + n) c' elem - (l + n))).size = grownCap W (l + n) c' elem * inf.size := by
            simp [Builtin.zeroCells, hnl, hil, hzs, ho2, ← Nat.add_mul]
            rw [show l + n + (grownCap W (l + n) c' elem - (l + n)) = grownCap W (l + n) c' elem by omega]
          have hll := (ho1.append hn1).length
          refine ⟨_, _, .inl hrun, post_realloc (W := W) hcs q2 q3 q4 (W0 := W.drew) rfl ⟨rfl, rfl, rfl, Nat.le_refl _, fun k hk => by omega⟩ ?_ ?_ hp (fun ρ' e => ?_)⟩
          · rw [hCs, ← hll, List.length_append, ho2, hnl, hil, ← Nat.add_mul]; exact Nat.mul_le_mul_right _ hge
          · rw [← hll]
            simp only [Array.toList_append, List.take_left', List.take_append_of_le_length (Nat.le_refl _), List.take_length]
            exact ho1.append hn1
          · have := VR.slice (ρ := ρ') (D := fun id => D id ∨ id = H.next) (b := H.next) (i := 0) (l := l + n) (c := l + n) (c' := grownCap W (l + n) c' elem) (.inr rfl) (Nat.le_refl _) hge (by rw [e, hCs]; simp)
            rw [e] at this
            exact this
        generalize hy : a.eval s = y at hsr
        cases hsr with
        | flat hf => simp [Ev.flat] at hf
        | empty hD =>
          refine grow _ 0 hy (by omega) ⟨[], ?_, by simp, by simp [Builtin.firstCells, loadCells, loadCellsFrom]⟩
          simp only [Nat.zero_mul, Nat.add_zero]
          rw [List.drop_of_length_le (by simp [List.length_take]; omega)]
          exact .nil
        | slice hD h1 h2 h3 =>
          rename_i c'
          have hz := hB.1
          rw [hz] at h3
          by_cases hlt : c' < l + n
          · obtain ⟨olds, ho1, ho2, ho3⟩ := hB.range i (l * inf.size) (by omega)
            refine grow _ c' hy hlt ⟨olds, ?_, ho2, run_firstCells_some W.drew inf.size l _ _ _ olds ho2 (fun j v hj => by rw [Addr.add_mid]; exact ho3 j v hj)⟩
            rw [List.drop_take, show i + l * inf.size - i = l * inf.size by omega]
            exact ho1
          · have hmul : (l + n) * inf.size ≤ c' * inf.size := Nat.mul_le_mul_right _ (by omega)
            rw [Nat.add_mul] at hmul
            have hx2 : i + l * inf.size + items.length ≤ (ρ b).ext := by rw [hil]; omega
            have hth := hB.there (i + l * inf.size) news.length (by rw [hnl]; exact hx2)
            have hr := run_append_room_src W t u o.type elem inf htu hinf (ρ b).blk ((ρ b).off + i) l c' (a.eval x) n news hsrc (by omega) (fun j hj => by rw [Nat.add_assoc (ρ b).off]; exact (hth j hj).1) (fun j hj => by rw [Nat.add_assoc (ρ b).off]; exact (hth j hj).2)
            rw [hy, hr, Nat.add_assoc (ρ b).off] at hrun
            refine ⟨_, _, .inl hrun, post_grow hcs q2 q3 q4 hn1 (by omega) q1 hx2 hp (fun ρ' e => ?_)⟩
            have := VR.slice (ρ := ρ') (D := fun id => D id ∨ id = H.next) (b := H.next) (i := 0) (l := l + n) (c := l + n) (c' := c') (.inr rfl) (Nat.le_refl _) (by omega) (by rw [e]; simp only; rw [hz]; omega)
            rw [e] at this
            exact this
      · cases h
end
end Go.Proofs.Ytfgeffmlfbeodaa.Ev

/- EV, part G: slices, conversions, comparisons with nil. No program here. -/
namespace Go.Proofs.Ytfgeffmlfbeodaa.Ev
open Go Go.RowKit
set_option linter.unusedVariables false
set_option linter.unusedSimpArgs false
section
variable {P : Program} {ρ : Rho} {D : Nat → Prop} {G : Nat → Option Blk} {W W' : World} {T : Nat → Prop} {H H' : AH} {R Wr : List Nat} {env : List Value} {a : Act}
theorem bound_sound {v v' : Value} {y y' i : Nat} {code : BoundsCode} (h : abound v y = some i) (hy : y ≤ y') (hv : VR ρ D v v') (W : World) : (Instr.sliceBound v' y' code).run P W = .ok i W ∧ i ≤ y := by
  unfold abound at h
  split at h
  · rename_i k n
    split at h
    · rename_i hc
      simp only [Option.some.injEq] at h
      rw [VR.flat_eq hv rfl]
      refine ⟨?_, by omega⟩
      have h1 : (0 : Int) ≤ n ∧ n ≤ (y' : Int) := by omega
      simp only [Instr.sliceBound, asIntOf, Sem.run_bind, Sem.run_pure, Result.andThen_ok, h1, and_self, if_true, h]
    · cases h
  · cases h
theorem optEval_sound (he : VRs ρ D env a.tmps.toList) {x : Option Operand} {v : Option Value} (h : optEval env x = some v) : (x = none ∧ v = none) ∨ ∃ y u, x = some y ∧ v = some u ∧ VR ρ D u (a.eval y) := by
  cases x with
  | none => simp [optEval] at h; exact .inl ⟨rfl, h.symm⟩
  | some y =>
    simp only [optEval, Option.map_eq_some_iff] at h
    obtain ⟨u, hu, rfl⟩ := h
    exact .inr ⟨y, u, rfl, rfl, aeval_sound he hu⟩
theorem bounds_sound (he : VRs ρ D env a.tmps.toList) {lo hi mx : Option Operand} {l h m : Option Value} (hl : optEval env lo = some l) (hh : optEval env hi = some h) (hm : optEval env mx = some m) {len cap cap' p q r : Nat} (hb : abounds len cap l h m = some (p, q, r)) (hc : cap ≤ cap') (hlc : len ≤ cap) (isS : Bool) (W : World) :
    ∃ r', (Instr.sliceBounds isS len cap' (lo.map a.eval) (hi.map a.eval) (mx.map a.eval)).run P W = .ok (p, q, r') W ∧ p ≤ q ∧ q ≤ r ∧ r ≤ r' ∧ r' ≤ cap' := by
  unfold abounds at hb
  simp only [Option.bind_eq_bind, Option.bind_eq_some_iff] at hb
  obtain ⟨r0, hr0, q0, hq0, p0, hp0, hb⟩ := hb
  simp only [Option.some.injEq, Prod.mk.injEq] at hb
  obtain ⟨rfl, rfl, rfl⟩ := hb
  unfold Instr.sliceBounds
  rcases optEval_sound he hm with ⟨rfl, rfl⟩ | ⟨y, u, rfl, rfl, hmv⟩
  · simp only [aboundO, Option.some.injEq] at hr0
    subst hr0
    have hqr : q0 ≤ cap := by
      cases h with
      | none => simp [aboundO] at hq0; omega
      | some v => simp only [aboundO] at hq0; unfold abound at hq0; split at hq0 <;> (try split at hq0) <;> simp at hq0 <;> omega
    have hpq : p0 ≤ q0 := by
      cases l with
      | none => simp [aboundO] at hp0; omega
      | some v => simp only [aboundO] at hp0; unfold abound at hp0; split at hp0 <;> (try split at hp0) <;> simp at hp0 <;> omega
    refine ⟨cap', ?_, hpq, hqr, hc, Nat.le_refl _⟩
    rcases optEval_sound he hh with ⟨rfl, rfl⟩ | ⟨y2, u2, rfl, rfl, hhv⟩
    · simp [aboundO] at hq0
      subst hq0
      rcases optEval_sound he hl with ⟨rfl, rfl⟩ | ⟨y3, u3, rfl, rfl, hlv⟩
      · simp only [aboundO, Option.some.injEq] at hp0
        subst hp0
        simp
      · simp only [aboundO] at hp0
        have h3 := fun code => (bound_sound (P := P) (code := code) hp0 (Nat.le_refl _) hlv W).1
        simp [h3]
    · simp only [aboundO] at hq0
      have h2 := fun code => (bound_sound (P := P) (code := code) hq0 hc hhv W).1
      rcases optEval_sound he hl with ⟨rfl, rfl⟩ | ⟨y3, u3, rfl, rfl, hlv⟩
      · simp only [aboundO, Option.some.injEq] at hp0
        subst hp0
        simp [h2]
      · simp only [aboundO] at hp0
        have h3 := fun code => (bound_sound (P := P) (code := code) hp0 (Nat.le_refl _) hlv W).1
        simp [h2, h3]
  · simp only [aboundO] at hr0
    have h1 := fun code => bound_sound (P := P) (code := code) hr0 hc hmv W
    have hrc := (h1 .index).2
    have h1' := fun code => (h1 code).1
    rcases optEval_sound he hh with ⟨rfl, rfl⟩ | ⟨y2, u2, rfl, rfl, hhv⟩
    · simp [aboundO] at hq0
    · simp only [aboundO] at hq0
      have h2 := fun code => bound_sound (P := P) (code := code) hq0 (Nat.le_refl _) hhv W
      have hqr := (h2 .index).2
      have h2' := fun code => (h2 code).1
      rcases optEval_sound he hl with ⟨rfl, rfl⟩ | ⟨y3, u3, rfl, rfl, hlv⟩
      · simp only [aboundO, Option.some.injEq] at hp0
        subst hp0
        refine ⟨r0, ?_, by omega, hqr, Nat.le_refl _, by omega⟩
        simp [h1', h2']
      · simp only [aboundO] at hp0
        have h3 := fun code => bound_sound (P := P) (code := code) hp0 (Nat.le_refl _) hlv W
        have h3' := fun code => (h3 code).1
        refine ⟨r0, ?_, (h3 .index).2, hqr, Nat.le_refl _, by omega⟩
        simp [h1', h2', h3']
theorem slice_slice_sound {o : Oper} {t : TypeId} {x : Operand} {lo hi mx : Option Operand} (ho : o.op = .slice t x lo hi mx) {e : TypeId} {l h m : Option Value} {n i len cap sz p q r z : Nat} {cs : List Value} {sb : Option Nat} (hu : P.underlying t = some (.slice e)) (hl : optEval env lo = some l) (hh : optEval env hi = some h) (hm : optEval env mx = some m)
    (hx : aeval env x = some (.slice (some ⟨n, i, none⟩) len cap)) (hsz : szOf P e = some sz) (hb : abounds len cap l h m = some (p, q, r)) (hcs : H.cells n = some (cs, z, sb)) (hz : z = sz) (he : VRs ρ D env a.tmps.toList) (hp : Pre ρ D G W T H H [n] []) :
    OpOk P o a ρ D G W T H H [] (.slice (some ⟨n, i + p * sz, none⟩) (q - p) (r - p)) := by
  subst hz
  have hr := aeval_sound he hx
  obtain ⟨hB, _⟩ := hp.cells (.inl (by simp)) hcs
  have hez := hB.1
  generalize hy : a.eval x = y at hr
  have fin : ∀ (c' : Nat) (j : Nat), y = .slice (some ⟨(ρ n).blk, j, none⟩) len c' → cap ≤ c' → len ≤ cap → (∀ r', p ≤ q → q ≤ r → r ≤ r' → r' ≤ c' → VR ρ D (.slice (some ⟨n, i + p * z, none⟩) (q - p) (r - p)) (.slice (some (if r' = p then ⟨(ρ n).blk, j, none⟩ else ⟨(ρ n).blk, j + p * z, none⟩)) (q - p) (r' - p))) →
      OpOk P o a ρ D G W T H H [] (.slice (some ⟨n, i + p * z, none⟩) (q - p) (r - p)) := by
    intro c' j hj hcc hlc hv
    obtain ⟨r', hrun, h1, h2, h3, h4⟩ := bounds_sound (P := P) he hl hh hm hb hcc hlc true W
    refine ⟨_, W, .inl ?_, post_same hp.hr (hv r' h1 h2 h3 h4)⟩
    unfold execOp
    simp only [ho, hy, hj, Instr.sliceAt, underlying_of hu, Sem.run_bind, Result.andThen_ok]
    simp only [Instr.slice, Sem.run_bind, underlying_of hu, Result.andThen_ok, hrun, run_sizeOf' hsz, Sem.run_pure, Option.map_some, Addr.add_mid]
    by_cases hrp : r' = p
    · simp [hrp]
    · simp [hrp]
  cases hr with
  | flat hf => simp [Ev.flat] at hf
  | empty hD =>
    rename_i j
    refine fin 0 j rfl (Nat.le_refl _) (Nat.le_refl _) (fun r' h1 h2 h3 h4 => ?_)
    have e1 : p = 0 := by omega
    have e2 : q = 0 := by omega
    have e3 : r = 0 := by omega
    have e4 : r' = 0 := by omega
    subst e1 e2 e3 e4
    simp
    exact .empty hD
  | slice hD h1 h2 h3 =>
    rename_i c'
    refine fin c' _ rfl h2 h1 (fun r' k1 k2 k3 k4 => ?_)
    by_cases hrp : r' = p
    · rw [if_pos hrp]
      have e2 : q - p = 0 := by omega
      have e3 : r - p = 0 := by omega
      have e4 : r' - p = 0 := by omega
      rw [e2, e3, e4]
      exact .empty hD
    · rw [if_neg hrp, Nat.add_assoc]
      refine .slice hD (by omega) (by omega) ?_
      rw [hez] at h3 ⊢
      have : (p + (r' - p)) * z ≤ c' * z := Nat.mul_le_mul_right _ (by omega)
      rw [Nat.add_mul] at this
      omega
theorem slice_array_sound {o : Oper} {t : TypeId} {x : Operand} {lo hi mx : Option Operand} (ho : o.op = .slice t x lo hi mx) {e : TypeId} {l h m : Option Value} {n i k sz p q r z : Nat} {cs : List Value} {sb : Option Nat} (hu : P.underlying t = some (.array k e)) (hl : optEval env lo = some l) (hh : optEval env hi = some h) (hm : optEval env mx = some m)
    (hx : aeval env x = some (.pointer (some ⟨n, i, none⟩))) (hsz : szOf P e = some sz) (hb : abounds k k l h m = some (p, q, r)) (hcs : H.cells n = some (cs, z, sb)) (hz : z = sz) (hk : i + k * sz ≤ cs.length) (he : VRs ρ D env a.tmps.toList) (hp : Pre ρ D G W T H H [n] []) :
    OpOk P o a ρ D G W T H H [] (.slice (some ⟨n, i + p * sz, none⟩) (q - p) (r - p)) := by
  subst hz
  obtain ⟨hy, hD⟩ := ptr_form (aeval_sound he hx) rfl
  obtain ⟨hB, _⟩ := hp.cells (.inl (by simp)) hcs
  have hez := hB.1
  have hext := hB.2.2.1
  obtain ⟨r', hrun, h1, h2, h3, h4⟩ := bounds_sound (P := P) he hl hh hm hb (Nat.le_refl _) (Nat.le_refl _) false W
  refine ⟨.slice (some (if r' = p then ⟨(ρ n).blk, (ρ n).off + i, none⟩ else ⟨(ρ n).blk, (ρ n).off + i + p * z, none⟩)) (q - p) (r' - p), W, .inl ?_, post_same hp.hr ?_⟩
  · unfold execOp
    simp only [ho, hy, Instr.sliceAt, Instr.sureAddr, underlying_of hu, Sem.run_bind, Result.andThen_ok, Sem.run_pure, hrun, run_sizeOf' hsz, Addr.add_mid]
  · by_cases hrp : r' = p
    · rw [if_pos hrp]
      have e2 : q - p = 0 := by omega
      have e3 : r - p = 0 := by omega
      have e4 : r' - p = 0 := by omega
      rw [e2, e3, e4]
      exact .empty hD
    · rw [if_neg hrp, Nat.add_assoc]
      refine .slice hD (by omega) (by omega) ?_
      rw [hez]
      have : (p + (r' - p)) * z ≤ k * z := Nat.mul_le_mul_right _ (by omega)
      rw [Nat.add_mul] at this
      omega
end
end Go.Proofs.Ytfgeffmlfbeodaa.Ev

/- EV, part H: conversions, comparisons with nil, lengths, copies, texts. No program here. -/
namespace Go.Proofs.Ytfgeffmlfbeodaa.Ev
open Go Go.RowKit
set_option linter.unusedVariables false
set_option linter.unusedSimpArgs false
section
variable {P : Program} {ρ : Rho} {D : Nat → Prop} {G G' : Nat → Option Blk} {W W' : World} {T : Nat → Prop} {H H' : AH} {R Wr : List Nat} {env : List Value} {a : Act}
theorem abytes_some : ∀ {l : List Value} {bs : List UInt8}, abytes l = some bs → ∃ ns : List Int, l = ns.map (Value.int .u8) ∧ bs = ns.map (fun n => UInt8.ofNat n.toNat) ∧ ∀ n ∈ ns, 0 ≤ n ∧ n < 256
  | [], bs, h => by simp [abytes] at h; exact ⟨[], rfl, h, fun _ h => by cases h⟩
  | v :: l, bs, h => by
    unfold abytes at h
    simp only [List.mapM_cons, Option.bind_eq_bind, Option.bind_eq_some_iff, Option.pure_def, Option.some.injEq] at h
    obtain ⟨b, hb, bs', hbs, rfl⟩ := h
    split at hb
    · rename_i n
      split at hb
      · rename_i hn
        simp only [Option.some.injEq] at hb
        obtain ⟨ns, h1, h2, h3⟩ := abytes_some (l := l) (bs := bs') hbs
        refine ⟨n :: ns, by rw [h1]; rfl, by rw [← hb, h2]; rfl, fun m hm => ?_⟩
        rcases List.mem_cons.1 hm with rfl | hm
        · exact hn
        · exact h3 m hm
      · cases hb
    · cases hb
theorem VRs.ints {ns : List Int} {l : List Value} (h : VRs ρ D (ns.map (Value.int .u8)) l) : l = ns.map (Value.int .u8) :=
  VRs.flat_eq h fun v hv => by obtain ⟨n, _, rfl⟩ := List.mem_map.1 hv; rfl
theorem foldl_push (ns : List Int) : ∀ s : ByteArray, ns.foldl (fun r n => r.push (UInt8.ofNat n.toNat)) s = ⟨⟨s.data.toList ++ ns.map (fun n => UInt8.ofNat n.toNat)⟩⟩ := by
  induction ns with
  | nil => intro s; cases s; simp
  | cons n ns ih =>
    intro s
    rw [List.foldl_cons, ih]
    simp [ByteArray.push]
theorem bytesString_sound {o : Oper} {src dst : TypeId} {x : Operand} (ho : o.op = .convert src dst x) {e : TypeId} {n i len cap z : Nat} {cs : List Value} {sb : Option Nat} {bs : List UInt8} (hs : P.underlying src = some (.slice e)) (hd : P.underlying dst = some .string) (hue : P.underlying e = some (.int .u8)) (hx : aeval env x = some (.slice (some ⟨n, i, none⟩) len cap))
    (hcs : H.cells n = some (cs, z, sb)) (hle : i + len ≤ cs.length) (hb : abytes ((cs.drop i).take len) = some bs) (he : VRs ρ D env a.tmps.toList) (hp : Pre ρ D G W T H H [n] []) : OpOk P o a ρ D G W T H H [] (.string ⟨⟨bs⟩⟩) := by
  obtain ⟨ns, h1, h2, h3⟩ := abytes_some hb
  have hr := aeval_sound he hx
  obtain ⟨hB, _⟩ := hp.cells (.inl (by simp)) hcs
  obtain ⟨news, hn1, hn2, hn3⟩ := hB.range i len hle
  rw [h1] at hn1
  have hnews := hn1.ints
  refine ⟨.string ⟨⟨bs⟩⟩, W, .inl ?_, post_same hp.hr (.flat rfl)⟩
  unfold execOp
  have key : ∀ (ad : Addr) (c : Nat), (loadCells ad len).run P W = .ok (ns.map (Value.int .u8)).toArray W → (convert src dst (.slice (some ad) len c)).run P W = .ok (.string ⟨⟨bs⟩⟩) W := fun ad c hl => by
    rw [run_convert_bytes_string W src dst e _ _ _ hs hue hd, run_bytesToString W ad len c ns hl, foldl_push, h2]
    simp
  generalize hy : a.eval x = y at hr
  cases hr with
  | flat hf => simp [Ev.flat] at hf
  | empty hD =>
    have : ns = [] := List.length_eq_zero_iff.1 (by have := congrArg List.length h1; simp at this; omega)
    subst this
    simp only [ho, hy]
    rw [Sem.run_bind, key _ _ (by simp [loadCells, loadCellsFrom])]
    rfl
  | slice hD q1 q2 q3 =>
    simp only [ho, hy]
    rw [Sem.run_bind, key _ _ ?_]
    · rfl
    · rw [← hnews, ← hn2]
      exact run_loadCells_list (P := P) W _ news (fun j v hj => by rw [Addr.add_mid]; exact hn3 j v hj)
theorem stringBytes_sound {o : Oper} {src dst : TypeId} {x : Operand} (ho : o.op = .convert src dst x) {e : TypeId} {s : ByteArray} (hs : P.underlying src = some .string) (hd : P.underlying dst = some (.slice e)) (hue : P.underlying e = some (.int .u8)) (hx : aeval env x = some (.string s)) (he : VRs ρ D env a.tmps.toList)
    (hp : Pre ρ D G W T H (H.new ⟨.cells (s.data.toList.map fun b => .int .u8 b.toNat) 1, true, none⟩) [] []) : OpOk P o a ρ D G W T H (H.new ⟨.cells (s.data.toList.map fun b => .int .u8 b.toNat) 1, true, none⟩) [] (.slice (some ⟨H.next, 0, none⟩) s.size s.size) := by
  have hy := VR.flat_eq (aeval_sound he hx) rfl
  have hcap : s.size ≤ grownCap W s.size 0 e := grown_ge W s.size 0 e
  let C : Array Value := (s.data.map fun b => Value.int .u8 b.toNat) ++ Array.replicate (grownCap W s.size 0 e - s.size) (.int .u8 0)
  have hds : s.data.size = s.size := rfl
  have hC : C.size = grownCap W s.size 0 e := by simp [C, hds]; omega
  have hrun : (execOp a.eval o).run P W = .ok (.value (.slice (some ⟨W.heap.size, 0, none⟩) s.size (grownCap W s.size 0 e))) (W.drew.alloc (.cells C e (C.size, C.size + 1))) := by
    have hsh : (W.drew.alloc (.cells C e)).shape? W.heap.size = some (e, C.size) := by
      have : (W.drew.alloc (.cells C e)).heap[W.heap.size]? = some (.cells C e) := by
        show (W.heap.push (.cells C e))[W.heap.size]? = _
        simp
      unfold World.shape?
      rw [this]
    have hfr : ∀ (k : Nat), (W.drew.alloc (.cells C e)).freeze ⟨W.heap.size, k, none⟩ 1 = W.drew.alloc (.cells C e (k, k + 1)) := fun k => by
      have hm : ∀ (a : Array Obj) (x : Obj) (f : Obj → Obj), (a.push x).modify a.size f = a.push (f x) := by
        intro a x f
        apply Array.ext
        · simp
        · intro i h1 h2
          simp only [Array.getElem_modify, Array.getElem_push]
          by_cases h : a.size = i
          · subst h
            simp
          · have hi : i < a.size := by simp at h1; omega
            simp [h, hi]
      unfold World.freeze
      rw [if_neg (by decide)]
      show ({ W.drew.alloc (.cells C e) with heap := (W.heap.push (.cells C e)).modify W.heap.size _ } : World) = _
      rw [hm]
      rfl
    have hconv : (Conv.stringToBytes e s).run P W = .ok (.slice (some ⟨W.heap.size, 0, none⟩) s.size (grownCap W s.size 0 e)) (W.drew.alloc (.cells C e (C.size, C.size + 1))) := by
      unfold Conv.stringToBytes
      rw [Sem.run_bind, run_choose]
      have hq : (Question.appendCap s.size 0 e).forced = false := rfl
      rw [hq]
      simp only [Bool.false_eq_true, if_false, Result.andThen_ok]
      show Sem.run P (do
        let a ← newRow e C
        markStringish a
        (pure (Value.slice (some a) s.size (grownCap W s.size 0 e)) : Sem Value)) W.drew = _
      rw [Sem.run_bind, run_newRow']
      simp only [Result.andThen_ok]
      rw [Sem.run_bind]
      have : (markStringish ⟨W.drew.heap.size, 0, none⟩).run P (W.drew.alloc (.cells C e)) = .ok () (W.drew.alloc (.cells C e (C.size, C.size + 1))) := by
        unfold markStringish
        simp only [Sem.run_bind, run_shape, Result.andThen_ok]
        rw [show W.drew.heap.size = W.heap.size from rfl, hsh]
        simp only [run_freeze]
        rw [hfr]
      rw [this]
      rfl
    unfold execOp
    simp only [ho, hy]
    rw [Sem.run_bind]
    have : (convert src dst (.string s)).run P W = (Conv.stringToBytes e s).run P W := by
      simp [convert, run_underlying hs, run_underlying hd, run_underlying hue]
    rw [this, hconv]
    rfl
  have hl : (s.data.toList.map fun b => Value.int .u8 (b.toNat : Int)).length = s.size := by simp [hds]
  refine ⟨_, _, .inl hrun, ?_⟩
  obtain ⟨ρ', h1, h2, h3, h4⟩ := post_alloc (esz := 1) (W := W.drew) (t := e) (fr := (C.size, C.size + 1)) (l := s.data.toList.map fun b => Value.int .u8 (b.toNat : Int)) (H := H) (G := G) (C := C) ⟨hp.hr.heap rfl, hp.tr, hp.g, hp.fresh⟩ (by rw [hl, hC]; exact hcap) (by
      have : C.toList.take (s.data.toList.map fun b => Value.int .u8 (b.toNat : Int)).length = s.data.toList.map fun b => Value.int .u8 (b.toNat : Int) := by
        simp [C]
      rw [this]
      exact VRs.flat fun v hv => by obtain ⟨q, _, rfl⟩ := List.mem_map.1 hv; rfl) (.inr (Nat.le_refl _))
    (v := .slice (some ⟨H.next, 0, none⟩) s.size s.size) (v' := .slice (some ⟨W.heap.size, 0, none⟩) s.size (grownCap W s.size 0 e)) (fun ρ' er => by
      have := VR.slice (ρ := ρ') (D := fun id => D id ∨ id = H.next) (b := H.next) (i := 0) (l := s.size) (c := s.size) (c' := grownCap W s.size 0 e) (.inr rfl) (Nat.le_refl _) hcap (by rw [er, hC]; simp)
      rw [er] at this
      exact this)
  exact ⟨ρ', h1, h2, h3, below0_trans (w1 := W) (w2 := W.drew) ⟨rfl, rfl, rfl, Nat.le_refl _, fun k hk => by omega⟩ h4⟩
/-- A mark behind the end of a block. -/
theorem HR.freeze (h : HR ρ D G W T) {n z : Nat} {l : List Value} (hn : T n) (hg : G n = some ⟨.cells l z, true, none⟩) {C : Array Value} {t : TypeId} {fr : Nat × Nat} (hC : W.heap[(ρ n).blk]? = some (.cells C t fr)) (hG : G' n = some ⟨.cells l z, true, none⟩) (hG2 : ∀ j, j ≠ n → G' j = G j) :
    HR ρ D G' (W.freeze ⟨(ρ n).blk, C.size, none⟩ 1) T := by
  obtain ⟨hz, hS, h2, h3⟩ := h.blk n _ hn hg rfl
  have heap : ∀ k, (W.freeze ⟨(ρ n).blk, C.size, none⟩ 1).heap[k]? = if k = (ρ n).blk then some (.cells C t (if fr.1 == fr.2 then (C.size, C.size + 1) else (min fr.1 C.size, max fr.2 (C.size + 1)))) else W.heap[k]? := by
    intro k
    unfold World.freeze
    rw [if_neg (by decide)]
    simp only [Array.getElem?_modify]
    by_cases e : (ρ n).blk = k
    · subst e; rw [if_pos rfl, if_pos rfl, hC]; rfl
    · rw [if_neg e, if_neg (fun e' => e e'.symm)]
  have hsz : W.heap.size ≤ (W.freeze ⟨(ρ n).blk, C.size, none⟩ 1).heap.size := by
    unfold World.freeze
    rw [if_neg (by decide)]
    simp
  have eqG : G' = G := by
    funext j
    by_cases e : j = n
    · rw [e, hG, hg]
    · exact hG2 j e
  subst eqG
  refine ⟨h.dom, fun id b hid hb hl => ?_, h.dist⟩
  by_cases e : id = n
  · subst e
    rw [hg] at hb
    cases hb
    have hcell : ∀ j, (W.freeze ⟨(ρ id).blk, C.size, none⟩ 1).cell? ⟨(ρ id).blk, j, none⟩ = W.cell? ⟨(ρ id).blk, j, none⟩ := fun j => by
      unfold World.cell?
      simp only [heap, if_true, hC]
    obtain ⟨C', t', fr', e1, e2, e3⟩ := hS
    rw [hC] at e1
    cases e1
    refine ⟨hz, ⟨C, t, _, by rw [heap, if_pos rfl], e2, ?_⟩, h2, fun i v hv => ?_⟩
    · by_cases ef : fr.1 = fr.2
      · rw [if_pos (by simpa using ef)]; exact .inr (Nat.le_refl _)
      · rw [if_neg (by simpa using ef)]; exact .inr (by simp only; omega)
    · obtain ⟨v', ev, hr⟩ := h3 i v hv
      exact ⟨v', by rw [hcell]; exact ev, hr⟩
  · have h1 := h.blk id b hid hb hl
    have hd := h.dist id n b _ hid hn e hb hg hl rfl (fun hh => by cases hh.2)
    exact h1.same (fun _ _ => rfl) rfl (fun _ h => h) hsz (by rw [heap, if_neg hd])
theorem convSame_sound {o : Oper} {t : TypeId} {x : Operand} (ho : o.op = .convert t t x) {e : TypeId} {n i len cap z : Nat} {cs : List Value} (ht : P.underlying t = some (.slice e)) (hue : P.underlying e = some (.int .u8)) (hx : aeval env x = some (.slice (some ⟨n, i, none⟩) len cap)) (hcs : H.cells n = some (cs, z, none)) (he : VRs ρ D env a.tmps.toList) (hp : Pre ρ D G W T H H [n] []) :
    OpOk P o a ρ D G W T H H [] (.slice (some ⟨n, i, none⟩) len cap) := by
  have hr := aeval_sound he hx
  obtain ⟨hB, hG, hT, hD⟩ := hp.cells (.inl (by simp)) hcs
  obtain ⟨C, t', fr, hC, h1, h2⟩ := hB.2.1
  have hsh : W.shape? (ρ n).blk = some (t', C.size) := by unfold World.shape?; rw [hC]
  have hform : ∃ j l c, a.eval x = .slice (some ⟨(ρ n).blk, j, none⟩) l c := by
    generalize a.eval x = y at hr
    cases hr with
    | flat hf => simp [Ev.flat] at hf
    | empty hD => exact ⟨_, _, _, rfl⟩
    | slice q1 q2 q3 q4 => exact ⟨_, _, _, rfl⟩
  obtain ⟨j, l, c, hy⟩ := hform
  refine ⟨a.eval x, W.freeze ⟨(ρ n).blk, C.size, none⟩ 1, .inl ?_, ρ, fun _ _ => rfl, ?_, ?_, ?_⟩
  · unfold execOp
    simp only [ho, hy]
    simp [convert, run_underlying ht, run_underlying hue, markStringish, hsh]
  · rw [Dn_same]; exact hr
  · rw [Dn_same, Dn_same, Gn_same]
    exact hp.hr.freeze hT hG hC hG (fun _ _ => rfl)
  · have : ∀ (k : Nat), (W.freeze ⟨(ρ n).blk, k, none⟩ 1).heap.size = W.heap.size := fun k => by unfold World.freeze; rw [if_neg (by decide)]; simp
    exact ⟨by unfold World.freeze; rw [if_neg (by decide)], by unfold World.freeze; rw [if_neg (by decide)], by unfold World.freeze; rw [if_neg (by decide)], by rw [this]; exact Nat.le_refl _, fun k hk => by omega⟩
theorem eqNil_sound {o : Oper} {op : BinOp} {t yt : TypeId} {x y : Operand} (ho : o.op = .binOp op t x y yt) {b : Bool} (hop : op = .eql ∧ b = false ∨ op = .neq ∧ b = true) {xv yv : Value} (hx : aeval env x = some xv) (hy : aeval env y = some yv)
    (hk : (∃ ad l c l' c' e, xv = .slice (some ad) l c ∧ yv = .slice none l' c' ∧ P.underlying t = some (.slice e)) ∨ (∃ ad e, xv = .pointer (some ad) ∧ yv = .pointer none ∧ P.underlying t = some (.pointer e)) ∨ (∃ f p q r s u, xv = .func f p q ∧ yv = .nilFunc ∧ P.underlying t = some (.func r s u))) (he : VRs ρ D env a.tmps.toList) (hp : Pre ρ D G W T H H [] []) :
    OpOk P o a ρ D G W T H H [] (.bool b) := by
  have hr := aeval_sound he hx
  have hr2 := aeval_sound he hy
  refine ⟨.bool b, W, .inl ?_, post_same hp.hr (.flat rfl)⟩
  have key : ∀ (u v : Value), a.eval x = u → a.eval y = v → ((eqGuard op t x y u v).run P W = .ok () W) → (Op.equalIn (9999 + 1) t u v).run P W = .ok false W → (binOp .eql t u v = (do let r ← Op.equal t u v; pure (.bool r)) ∧ binOp .neq t u v = (do let r ← Op.equal t u v; pure (.bool (!r)))) → (execOp a.eval o).run P W = .ok (.value (.bool b)) W := by
    intro u v hu hv hg heq hb
    have heq' : (Op.equal t u v).run P W = .ok false W := heq
    unfold execOp
    simp only [ho, hu, hv]
    rw [Sem.run_bind, Sem.run_bind, hg]
    simp only [Result.andThen_ok]
    rcases hop with ⟨rfl, rfl⟩ | ⟨rfl, rfl⟩
    · rw [hb.1, Sem.run_bind]; simp [heq']
    · rw [hb.2, Sem.run_bind]; simp [heq']
  rcases hk with ⟨ad, l, c, l', c', e, rfl, rfl, hu⟩ | ⟨ad, e, rfl, rfl, hu⟩ | ⟨f, p, q, r, s, u, rfl, rfl, hu⟩
  · have e2 := VR.flat_eq hr2 rfl
    have hform : ∃ ad l c, a.eval x = .slice (some ad) l c := by
      generalize a.eval x = y at hr
      cases hr with
      | flat hf => simp [Ev.flat] at hf
      | empty hD => exact ⟨_, _, _, rfl⟩
      | slice q1 q2 q3 q4 => exact ⟨_, _, _, rfl⟩
    obtain ⟨ad', l2, c2, hform⟩ := hform
    refine key _ _ hform e2 ?_ ?_ ?_
    · unfold eqGuard; rcases hop with ⟨rfl, _⟩ | ⟨rfl, _⟩ <;> rfl
    · rw [Op.equalIn, Sem.run_bind, run_underlying hu]; rfl
    · exact ⟨rfl, rfl⟩
  · have e2 := VR.flat_eq hr2 rfl
    have hform : ∃ ad, a.eval x = .pointer (some ad) := by
      generalize a.eval x = y at hr
      cases hr with
      | flat hf => simp [Ev.flat] at hf
      | ptr hD => exact ⟨_, rfl⟩
    obtain ⟨ad', hform⟩ := hform
    refine key _ _ hform e2 ?_ ?_ ?_
    · unfold eqGuard; rcases hop with ⟨rfl, _⟩ | ⟨rfl, _⟩ <;> rfl
    · rw [Op.equalIn, Sem.run_bind, run_underlying hu]; rfl
    · exact ⟨rfl, rfl⟩
  · have e2 := VR.flat_eq hr2 rfl
    have hform : ∃ f p q, a.eval x = .func f p q := by
      generalize a.eval x = y at hr
      cases hr with
      | flat hf => simp [Ev.flat] at hf
      | func h1 h2 => exact ⟨_, _, _, rfl⟩
    obtain ⟨f', p', q', hform⟩ := hform
    refine key _ _ hform e2 ?_ ?_ ?_
    · unfold eqGuard; rcases hop with ⟨rfl, _⟩ | ⟨rfl, _⟩ <;> rfl
    · rw [Op.equalIn, Sem.run_bind, run_underlying hu]; rfl
    · exact ⟨rfl, rfl⟩
theorem len_slice_sound {o : Oper} {x : Operand} {ats : Array TypeId} (ho : o.op = .call { callee := .builtin .len, args := #[x], argTypes := ats }) {t e : TypeId} {s : Option Addr} {n c : Nat} (ht : ats[0]? = some t) (hu : P.underlying t = some (.slice e)) (hx : aeval env x = some (.slice s n c)) (he : VRs ρ D env a.tmps.toList) (hp : Pre ρ D G W T H H [] []) :
    OpOk P o a ρ D G W T H H [] (.int .i64 n) := by
  have hr := aeval_sound he hx
  have hform : ∃ s' c', a.eval x = .slice s' n c' := by
    generalize a.eval x = y at hr
    cases hr with
    | flat hf => exact ⟨_, _, rfl⟩
    | empty hD => exact ⟨_, _, rfl⟩
    | slice q1 q2 q3 q4 => exact ⟨_, _, rfl⟩
  obtain ⟨s', c', hy⟩ := hform
  refine ⟨.int .i64 n, W, .inl ?_, post_same hp.hr (.flat rfl)⟩
  unfold execOp
  simp [ho, resolve, invoke, builtin, Builtin.len_, ht, hy, run_underlying hu, goInt]
theorem len_array_sound {o : Oper} {x : Operand} {ats : Array TypeId} (ho : o.op = .call { callee := .builtin .len, args := #[x], argTypes := ats }) {t e : TypeId} {n : Nat} (ht : ats[0]? = some t) (hu : P.underlying t = some (.array n e)) (hp : Pre ρ D G W T H H [] []) :
    OpOk P o a ρ D G W T H H [] (.int .i64 n) := by
  refine ⟨.int .i64 n, W, .inl ?_, post_same hp.hr (.flat rfl)⟩
  unfold execOp
  simp [ho, resolve, invoke, builtin, Builtin.len_, ht, run_underlying hu, goInt]
end
end Go.Proofs.Ytfgeffmlfbeodaa.Ev

