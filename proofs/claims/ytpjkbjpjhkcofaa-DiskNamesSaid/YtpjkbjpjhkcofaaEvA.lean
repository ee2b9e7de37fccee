/- EV, part A: what an abstract heap says of a world. No program here. -/
import Derived.Laws.IdiomCopy
import Derived.Deep.MidRow
import Derived.Deep.Upon
import Derived.Below
namespace Go.Proofs.Ytpjkbjpjhkcofaa.Ev
open Go
set_option linter.unusedVariables false
set_option linter.unusedSimpArgs false
/-- Where a name lies: its block, the place in it, how many cells are there from that place on, how many cells an element has. -/
structure Loca where
  blk : Nat
  off : Nat
  ext : Nat
  esz : Nat
abbrev Rho := Nat → Loca
/-- Values without addresses. -/
def flat : Value → Bool
  | .bool _ | .int _ _ | .string _ | .nilFunc | .nilIface => true
  | .pointer none | .slice none _ _ | .map none | .chan none => true
  | _ => false
/-- Letters: what 'Value.chan (some i)' stands for in a state. -/
class Th where
  th : Nat → Value
  one : ∀ i, (th i).oneCell' = true
  nb : ∀ i b, th i ≠ .bool b
mutual
inductive VR [Th] (ρ : Rho) (D : Nat → Prop) : Value → Value → Prop
  | flat {v : Value} (h : flat v = true) : VR ρ D v v
  | ptr {b i : Nat} (h : D b) : VR ρ D (.pointer (some ⟨b, i, none⟩)) (.pointer (some ⟨(ρ b).blk, (ρ b).off + i, none⟩))
  | slice {b i l c c' : Nat} (h : D b) (hl : l ≤ c) (hc : c ≤ c') (he : i + c' * (ρ b).esz ≤ (ρ b).ext) : VR ρ D (.slice (some ⟨b, i, none⟩) l c) (.slice (some ⟨(ρ b).blk, (ρ b).off + i, none⟩) l c')
  | empty {b i j : Nat} (h : D b) : VR ρ D (.slice (some ⟨b, i, none⟩) 0 0) (.slice (some ⟨(ρ b).blk, j, none⟩) 0 0)
  | agg {l l' : List Value} (h : VRs ρ D l l') : VR ρ D (.agg ⟨l⟩) (.agg ⟨l'⟩)
  | tuple {l l' : List Value} (h : VRs ρ D l l') : VR ρ D (.tuple ⟨l⟩) (.tuple ⟨l'⟩)
  | map {b : Nat} (h : D b) : VR ρ D (.map (some b)) (.map (some (ρ b).blk))
  | hole {i : Nat} : VR ρ D (.chan (some i)) (Th.th i)
  | func {f : FuncId} {a a' c c' : List Value} (h1 : VRs ρ D a a') (h2 : VRs ρ D c c') : VR ρ D (.func (.func f) ⟨a⟩ ⟨c⟩) (.func (.func f) ⟨a'⟩ ⟨c'⟩)
inductive VRs [Th] (ρ : Rho) (D : Nat → Prop) : List Value → List Value → Prop
  | nil : VRs ρ D [] []
  | cons {v v' : Value} {l l' : List Value} (h : VR ρ D v v') (t : VRs ρ D l l') : VRs ρ D (v :: l) (v' :: l')
end
section
variable {ρ ρ' : Rho} {D D' : Nat → Prop}
mutual
theorem VR.mono [Th] (hρ : ∀ i, D i → ρ' i = ρ i) (hD : ∀ i, D i → D' i) : ∀ {v v' : Value}, VR ρ D v v' → VR ρ' D' v v'
  | _, _, .flat h => .flat h
  | _, _, .ptr (b := b) h => by rw [← hρ b h]; exact .ptr (hD b h)
  | _, _, .slice (b := b) h hl hc he => by rw [← hρ b h] at he ⊢; exact .slice (hD b h) hl hc he
  | _, _, .empty (b := b) h => by rw [← hρ b h]; exact .empty (hD b h)
  | _, _, .map (b := b) h => by rw [← hρ b h]; exact .map (hD b h)
  | _, _, .hole => .hole
  | _, _, .agg h => .agg (VRs.mono hρ hD h)
  | _, _, .tuple h => .tuple (VRs.mono hρ hD h)
  | _, _, .func h1 h2 => .func (VRs.mono hρ hD h1) (VRs.mono hρ hD h2)
theorem VRs.mono [Th] (hρ : ∀ i, D i → ρ' i = ρ i) (hD : ∀ i, D i → D' i) : ∀ {l l' : List Value}, VRs ρ D l l' → VRs ρ' D' l l'
  | _, _, .nil => .nil
  | _, _, .cons h t => .cons (VR.mono hρ hD h) (VRs.mono hρ hD t)
end
theorem VRs.length [Th] : ∀ {l l' : List Value}, VRs ρ D l l' → l'.length = l.length
  | _, _, .nil => rfl
  | _, _, .cons _ t => by simp [VRs.length t]
theorem VRs.get [Th] : ∀ {l l' : List Value}, VRs ρ D l l' → ∀ (i : Nat) (v : Value), l[i]? = some v → ∃ v', l'[i]? = some v' ∧ VR ρ D v v'
  | _, _, .nil, i, v, h => by simp at h
  | _, _, .cons h t, 0, v, hv => by simp at hv; subst hv; exact ⟨_, by simp, h⟩
  | _, _, .cons h t, i + 1, v, hv => by simpa using VRs.get t i v (by simpa using hv)
theorem VRs.get' [Th] : ∀ {l l' : List Value}, VRs ρ D l l' → ∀ (i : Nat) (v' : Value), l'[i]? = some v' → ∃ v, l[i]? = some v ∧ VR ρ D v v'
  | _, _, .nil, i, v, h => by simp at h
  | _, _, .cons h t, 0, v, hv => by simp at hv; subst hv; exact ⟨_, by simp, h⟩
  | _, _, .cons h t, i + 1, v, hv => by simpa using VRs.get' t i v (by simpa using hv)
theorem VRs.of_get [Th] : ∀ {l l' : List Value}, l'.length = l.length → (∀ (i : Nat) (v : Value), l[i]? = some v → ∃ v', l'[i]? = some v' ∧ VR ρ D v v') → VRs ρ D l l'
  | [], [], _, _ => .nil
  | [], _ :: _, h, _ => by simp at h
  | _ :: _, [], h, _ => by simp at h
  | v :: l, v' :: l', h, hg => by
    obtain ⟨u, hu, hr⟩ := hg 0 v rfl
    simp at hu
    subst hu
    exact .cons hr (VRs.of_get (by simpa using h) (fun i x hx => by simpa using hg (i + 1) x (by simpa using hx)))
theorem VRs.append [Th] : ∀ {l l' r r' : List Value}, VRs ρ D l l' → VRs ρ D r r' → VRs ρ D (l ++ r) (l' ++ r')
  | _, _, _, _, .nil, h => h
  | _, _, _, _, .cons a t, h => .cons a (VRs.append t h)
theorem VRs.take [Th] : ∀ {l l' : List Value} (n : Nat), VRs ρ D l l' → VRs ρ D (l.take n) (l'.take n)
  | _, _, 0, _ => by simp; exact .nil
  | _, _, n + 1, .nil => by simp; exact .nil
  | _, _, n + 1, .cons a t => by simp; exact .cons a (VRs.take n t)
theorem VRs.drop [Th] : ∀ {l l' : List Value} (n : Nat), VRs ρ D l l' → VRs ρ D (l.drop n) (l'.drop n)
  | _, _, 0, h => by simpa using h
  | _, _, n + 1, .nil => by simp; exact .nil
  | _, _, n + 1, .cons a t => by simpa using VRs.drop n t
theorem VRs.set [Th] : ∀ {l l' : List Value} {v v' : Value} (i : Nat), VRs ρ D l l' → VR ρ D v v' → VRs ρ D (l.set i v) (l'.set i v')
  | _, _, _, _, _, .nil, _ => by simp; exact .nil
  | _, _, _, _, 0, .cons _ t, h => by simpa using .cons h t
  | _, _, _, _, i + 1, .cons a t, h => by simpa using .cons a (VRs.set i t h)
theorem VRs.replicate [Th] {v v' : Value} (h : VR ρ D v v') : ∀ n : Nat, VRs ρ D (List.replicate n v) (List.replicate n v')
  | 0 => .nil
  | n + 1 => by rw [List.replicate_succ, List.replicate_succ]; exact .cons h (VRs.replicate h n)
theorem VRs.flat [Th] : ∀ {l : List Value}, (∀ v ∈ l, Ev.flat v = true) → VRs ρ D l l
  | [], _ => .nil
  | v :: l, h => .cons (.flat (h v (by simp))) (VRs.flat fun x hx => h x (by simp [hx]))
theorem VR.oneCell [Th] {v v' : Value} (h : VR ρ D v v') (ho : v.oneCell' = true) : v'.oneCell' = true := by
  cases h with
  | hole => exact Th.one _
  | _ => simp_all [Value.oneCell']
theorem VR.flat_eq [Th] {v v' : Value} (h : VR ρ D v v') (hf : Ev.flat v = true) : v' = v := by
  cases h <;> simp_all [Ev.flat]
end
/-- An entry of a map: its key, its value, its stamp. -/
structure AEnt where
  key : Value
  val : Value
  born : Nat
inductive EntR [Th] (ρ : Rho) (D : Nat → Prop) : List AEnt → List MapEntry → Prop
  | nil : EntR ρ D [] []
  | cons {e : AEnt} {e' : MapEntry} {l : List AEnt} {l' : List MapEntry} (hk : VR ρ D e.key e'.key) (hv : VR ρ D e.val e'.val) (hb : e'.born = e.born) (t : EntR ρ D l l') : EntR ρ D (e :: l) (e' :: l')
theorem EntR.mono [Th] {ρ ρ' : Rho} {D D' : Nat → Prop} (hρ : ∀ i, D i → ρ' i = ρ i) (hD : ∀ i, D i → D' i) : ∀ {l : List AEnt} {l' : List MapEntry}, EntR ρ D l l' → EntR ρ' D' l l'
  | _, _, .nil => .nil
  | _, _, .cons hk hv hb t => .cons (hk.mono hρ hD) (hv.mono hρ hD) hb (EntR.mono hρ hD t)
/-- What lies under a name. -/
inductive AObj where
  | cells (l : List Value) (z : Nat)
  | iter (s : ByteArray) (pos : Nat)
  | map (es : List AEnt) (clock : Nat)
  | miter (m since : Nat) (seen : List Nat) (last : Nat)
  | opq (o : Obj)
structure Blk where
  obj : AObj
  live : Bool
  sib : Option Nat
/-- A block has so many cells, of which none is frozen (a mark behind its end may be). -/
def Shp (W : World) (b off ext : Nat) : Prop := ∃ (C : Array Value) (t : TypeId) (fr : Nat × Nat), W.heap[b]? = some (.cells C t fr) ∧ off + ext ≤ C.size ∧ (fr.1 = fr.2 ∨ C.size ≤ fr.1)
theorem Shp.lt {W : World} {b off ext : Nat} (h : Shp W b off ext) : b < W.heap.size := by
  obtain ⟨C, t, fr, hb, _⟩ := h
  exact (Array.getElem?_eq_some_iff.1 hb).1
theorem Shp.cell {W : World} {b off ext : Nat} (h : Shp W b off ext) (j : Nat) (hj : j < ext) : (W.cell? ⟨b, off + j, none⟩).isSome = true ∧ W.frozen? ⟨b, off + j, none⟩ = false := by
  obtain ⟨C, t, ⟨lo, hi⟩, hb, h1, h2⟩ := h
  have hlt : off + j < C.size := by omega
  constructor
  · simp [World.cell?, hb, hlt]
  · simp only [World.frozen?, hb]
    simp only at h2
    rcases h2 with rfl | h2
    · simp
    · simp; omega
theorem heap_setCell' {W : World} {b : Nat} {C : Array Value} {t : TypeId} {fr : Nat × Nat} (h : W.heap[b]? = some (.cells C t fr)) (p : Addr) (v : Value) : ∃ C' : Array Value, (W.setCell p v).heap[b]? = some (.cells C' t fr) ∧ C'.size = C.size := by
  simp only [World.setCell, Array.getElem?_modify]
  by_cases e : p.block = b
  · rw [if_pos e, h]; exact ⟨_, rfl, by split <;> simp⟩
  · rw [if_neg e, h]; exact ⟨C, rfl, rfl⟩
theorem heap_setCells' [Th] {b : Nat} (b' : Nat) : ∀ (vs : List Value) (o : Nat) (W : World) (C : Array Value) (t : TypeId) (fr : Nat × Nat), W.heap[b]? = some (.cells C t fr) → ∃ C' : Array Value, (W.setCells b' o vs).heap[b]? = some (.cells C' t fr) ∧ C'.size = C.size
  | [], _, _, C, _, _, h => ⟨C, h, rfl⟩
  | v :: r, o, W, C, t, fr, h => by
    obtain ⟨C1, h1, e1⟩ := heap_setCell' h ⟨b', o, none⟩ v
    obtain ⟨C2, h2, e2⟩ := heap_setCells' b' r (o + 1) _ C1 t fr h1
    exact ⟨C2, h2, e2.trans e1⟩
theorem Shp.setCells [Th] {W : World} {b off ext : Nat} (h : Shp W b off ext) (b' o : Nat) (vs : List Value) : Shp (W.setCells b' o vs) b off ext := by
  obtain ⟨C, t, fr, hb, h1, h2⟩ := h
  obtain ⟨C', hb', e⟩ := heap_setCells' b' vs o W C t fr hb
  exact ⟨C', t, fr, hb', by omega, by rw [e]; exact h2⟩
def BlkR [Th] (ρ : Rho) (D : Nat → Prop) (id : Nat) (W : World) : AObj → Prop
  | .cells l z => ((ρ id).esz = z ∧ (1000000 ≤ z → (ρ id).off = 0)) ∧ Shp W (ρ id).blk (ρ id).off (ρ id).ext ∧ l.length ≤ (ρ id).ext ∧
      ∀ i v, l[i]? = some v → ∃ v', W.cell? ⟨(ρ id).blk, (ρ id).off + i, none⟩ = some v' ∧ VR ρ D v v'
  | .iter s p => (ρ id).off = 0 ∧ W.heap[(ρ id).blk]? = some (.stringIter s p)
  | .map es ck => (ρ id).off = 0 ∧ ∃ es' : Array MapEntry, W.heap[(ρ id).blk]? = some (.map es' ck) ∧ EntR ρ D es es'.toList
  | .miter m since seen last => (ρ id).off = 0 ∧ D m ∧ W.heap[(ρ id).blk]? = some (.mapIter (some (ρ m).blk) since seen.toArray last)
  | .opq o => W.heap[(ρ id).blk]? = some o
structure HR [Th] (ρ : Rho) (D : Nat → Prop) (G : Nat → Option Blk) (W : World) (T : Nat → Prop) : Prop where
  dom : ∀ id, T id → D id
  blk : ∀ id b, T id → G id = some b → b.live = true → BlkR ρ D id W b.obj
  dist : ∀ i j b c, T i → T j → i ≠ j → G i = some b → G j = some c → b.live = true → c.live = true → ¬ (b.sib = some j ∧ c.sib = some i) → (ρ i).blk ≠ (ρ j).blk
section
variable {ρ ρ' : Rho} {D D' : Nat → Prop} {W W' : World} {id : Nat} {o : AObj}
theorem BlkR.lt [Th] (h : BlkR ρ D id W o) : (ρ id).blk < W.heap.size := by
  cases o with
  | cells l z => exact h.2.1.lt
  | iter s p => exact (Array.getElem?_eq_some_iff.1 h.2).1
  | map es ck => obtain ⟨_, es', h, _⟩ := h; exact (Array.getElem?_eq_some_iff.1 h).1
  | miter m since seen last => exact (Array.getElem?_eq_some_iff.1 h.2.2).1
  | opq o => exact (Array.getElem?_eq_some_iff.1 h).1
/-- A block that is as it was reads as it read. -/
theorem BlkR.same [Th] (h : BlkR ρ D id W o) (hρ : ∀ i, D i → ρ' i = ρ i) (hid : ρ' id = ρ id) (hD : ∀ i, D i → D' i) (hs : W.heap.size ≤ W'.heap.size) (hb : W'.heap[(ρ id).blk]? = W.heap[(ρ id).blk]?) : BlkR ρ' D' id W' o := by
  have hc : ∀ j, W'.cell? ⟨(ρ id).blk, j, none⟩ = W.cell? ⟨(ρ id).blk, j, none⟩ := fun j => by unfold World.cell?; rw [hb]
  cases o with
  | cells l z =>
    obtain ⟨h0, h1, h2, h4⟩ := h
    unfold BlkR
    rw [hid]
    refine ⟨h0, by obtain ⟨C, t, fr, hC, h5⟩ := h1; exact ⟨C, t, fr, by rw [hb]; exact hC, h5⟩, h2, fun i v hv => ?_⟩
    obtain ⟨v', e, hr⟩ := h4 i v hv
    exact ⟨v', by rw [hc]; exact e, hr.mono hρ hD⟩
  | iter s p => unfold BlkR at h ⊢; rw [hid, hb]; exact h
  | map es ck =>
    obtain ⟨h0, es', h1, h2⟩ := h
    unfold BlkR
    rw [hid, hb]
    exact ⟨h0, es', h1, h2.mono hρ hD⟩
  | miter m since seen last =>
    obtain ⟨h0, h1, h2⟩ := h
    unfold BlkR
    rw [hid, hb]
    exact ⟨h0, hD m h1, by rw [hρ m h1]; exact h2⟩
  | opq o => unfold BlkR at h ⊢; rw [hid, hb]; exact h
end
/-- What a step does to the abstract heap: names that it owns are anew, the others as they were. -/
structure Upd (G H' G' : Nat → Option Blk) (own : Nat → Prop) : Prop where
  at_ : ∀ id, own id → G' id = H' id
  off_ : ∀ id, ¬ own id → G' id = G id
section
variable {ρ : Rho} {D : Nat → Prop} {G G' : Nat → Option Blk} {W W' : World} {T : Nat → Prop}
/-- A new name for a new block. -/
theorem HR.alloc [Th] (h : HR ρ D G W T) {n : Nat} (hn : ¬ D n) {o : Obj} {ob : AObj} {esz : Nat} {ext : Nat} {b : Blk} (hob : b.obj = ob)
    (hg : G' n = some b) (hG : ∀ i, i ≠ n → G' i = G i)
    (hB : BlkR (fun i => if i = n then ⟨W.heap.size, 0, ext, esz⟩ else ρ i) (fun i => D i ∨ i = n) n (W.alloc o) ob) :
    HR (fun i => if i = n then ⟨W.heap.size, 0, ext, esz⟩ else ρ i) (fun i => D i ∨ i = n) G' (W.alloc o) (fun i => T i ∨ i = n) := by
  have hold : ∀ i, T i → i ≠ n := fun i hi e => hn (e ▸ h.dom i hi)
  refine ⟨fun id hid => ?_, fun id c hid hc hl => ?_, fun i j c d hi hj hij hci hdj hl1 hl2 hs => ?_⟩
  · rcases hid with hid | rfl
    · exact .inl (h.dom id hid)
    · exact .inr rfl
  · rcases hid with hid | rfl
    · have hne := hold id hid
      rw [hG id hne] at hc
      have h1 := h.blk id c hid hc hl
      have hlt := h1.lt
      exact h1.same (fun i hi => if_neg (fun e : i = n => hn (by rw [← e]; exact hi))) (if_neg hne) (fun i hi => .inl hi) (by simp) (by simp only [World.alloc, Array.getElem?_push]; rw [if_neg (by omega)])
    · rw [hg] at hc; cases hc; rw [hob]; exact hB
  · rcases hi with hi | rfl <;> rcases hj with hj | rfl
    · have h1 := hold i hi
      have h2 := hold j hj
      simp only [if_neg h1, if_neg h2]
      exact h.dist i j c d hi hj hij (by rw [← hG i h1]; exact hci) (by rw [← hG j h2]; exact hdj) hl1 hl2 hs
    · have h1 := hold i hi
      simp only [if_neg h1, if_true]
      have := (h.blk i c hi (by rw [← hG i h1]; exact hci) hl1).lt
      omega
    · have h2 := hold j hj
      simp only [if_neg h2, if_true]
      have := (h.blk j d hj (by rw [← hG j h2]; exact hdj) hl2).lt
      omega
    · exact absurd rfl hij
/-- Nothing but draws. -/
theorem HR.heap [Th] (h : HR ρ D G W T) (hh : W'.heap = W.heap) : HR ρ D G W' T := by
  refine ⟨h.dom, fun id b hid hg hl => ?_, h.dist⟩
  exact (h.blk id b hid hg hl).same (fun _ _ => rfl) rfl (fun _ h => h) (by rw [hh]; exact Nat.le_refl _) (by rw [hh])
/-- Cells of a name are written; its sibling is no more. -/
theorem HR.write [Th] (h : HR ρ D G W T) {n : Nat} (hn : T n) {l vs vs' : List Value} {s : Option Nat} {i z : Nat} (hg : G n = some ⟨.cells l z, true, s⟩) (hv : VRs ρ D vs vs') (hl : i + vs.length ≤ l.length)
    (hg' : G' n = some ⟨.cells (l.take i ++ vs ++ l.drop (i + vs.length)) z, true, none⟩) (hs : ∀ m b, s = some m → T m → m ≠ n → G' m = some b → b.live = false) (hG : ∀ j, j ≠ n → some j ≠ s → G' j = G j) :
    HR ρ D G' (W.setCells (ρ n).blk ((ρ n).off + i) vs') T := by
  obtain ⟨hz, hS, b2, b4⟩ := h.blk n _ hn hg rfl
  have b1 := hS.lt
  have b3 := hS.cell
  have hlen := hv.length
  have hsz : (W.setCells (ρ n).blk ((ρ n).off + i) vs').heap.size = W.heap.size := by
    have : ∀ (vs : List Value) (o : Nat) (w : World), (w.setCells (ρ n).blk o vs).heap.size = w.heap.size := by
      intro vs
      induction vs with
      | nil => intro o w; rfl
      | cons v r ih => intro o w; rw [World.setCells, ih]; simp
    exact this _ _ _
  have other : ∀ k, k < W.heap.size → k ≠ (ρ n).blk → (W.setCells (ρ n).blk ((ρ n).off + i) vs').heap[k]? = W.heap[k]? := fun k hk hne => World.heap_setCells_other _ _ _ _ hk hne
  refine ⟨h.dom, fun id c hid hc hlv => ?_, fun j k c d hj hk hjk hcj hdk hl1 hl2 hsib => ?_⟩
  · by_cases he : id = n
    · subst he
      rw [hg'] at hc
      cases hc
      refine ⟨hz, hS.setCells _ _ _, ?_, fun j v hjv => ?_⟩
      · simp only [List.length_append, List.length_take, List.length_drop]; omega
      · have hin : ∀ q, q < vs'.length → (W.cell? ⟨(ρ id).blk, (ρ id).off + i + q, none⟩).isSome = true := fun q hq => by
          have := (b3 (i + q) (by omega)).1
          rwa [← Nat.add_assoc] at this
        by_cases h1 : j < i
        · rw [List.append_assoc, List.getElem?_append_left (by simp only [List.length_take]; omega), List.getElem?_take_of_lt h1] at hjv
          obtain ⟨v', e, hr⟩ := b4 j v hjv
          refine ⟨v', ?_, hr⟩
          rw [World.cell?_setCells_out _ _ _ _ _ (fun _ _ => .inl (by show (ρ id).off + j < (ρ id).off + i; omega))]
          exact e
        · by_cases h2 : j < i + vs.length
          · rw [List.append_assoc, List.getElem?_append_right (by simp only [List.length_take]; omega), List.getElem?_append_left (by simp only [List.length_take]; omega)] at hjv
            have e1 : j - (l.take i).length = j - i := by simp only [List.length_take]; omega
            rw [e1] at hjv
            obtain ⟨v', e, hr⟩ := hv.get _ _ hjv
            refine ⟨v', ?_, hr⟩
            have hlt : j - i < vs'.length := by omega
            have := World.cell?_setCells_in (ρ id).blk vs' ((ρ id).off + i) W hin (j - i) hlt
            rw [show (ρ id).off + i + (j - i) = (ρ id).off + j by omega] at this
            rw [this, ← e, List.getElem?_eq_getElem hlt]
          · rw [List.getElem?_append_right (by simp only [List.length_append, List.length_take]; omega)] at hjv
            have e1 : j - (l.take i ++ vs).length = j - (i + vs.length) := by simp only [List.length_append, List.length_take]; omega
            rw [e1, List.getElem?_drop, show i + vs.length + (j - (i + vs.length)) = j by omega] at hjv
            obtain ⟨v', e, hr⟩ := b4 j v hjv
            refine ⟨v', ?_, hr⟩
            rw [World.cell?_setCells_out _ _ _ _ _ (fun _ _ => .inr (by show (ρ id).off + i + vs'.length ≤ (ρ id).off + j; omega))]
            exact e
    · by_cases hes : some id = s
      · have := hs id c hes.symm hid he hc
        rw [this] at hlv; cases hlv
      · rw [hG id he hes] at hc
        have h1 := h.blk id c hid hc hlv
        have hd := h.dist id n c _ hid hn he hc hg hlv rfl (fun hh => hes hh.2.symm)
        exact h1.same (fun _ _ => rfl) rfl (fun _ h => h) (by rw [hsz]; exact Nat.le_refl _) (other _ h1.lt hd)
  · have back : ∀ m (e : Blk), T m → G' m = some e → e.live = true → m ≠ n → G m = some e ∧ some m ≠ s := fun m e hm hge hle hmn => by
      by_cases hes : some m = s
      · have := hs m e hes.symm hm hmn hge
        rw [this] at hle; cases hle
      · exact ⟨by rw [← hG m hmn hes]; exact hge, hes⟩
    by_cases h1 : j = n
    · subst h1
      have hkj : k ≠ j := fun e => hjk e.symm
      obtain ⟨g1, g2⟩ := back k d hk hdk hl2 hkj
      exact h.dist j k _ d hj hk hjk hg g1 rfl hl2 (fun hh => g2 hh.1.symm)
    · obtain ⟨g1, g2⟩ := back j c hj hcj hl1 h1
      by_cases h2 : k = n
      · subst h2
        exact h.dist j k c _ hj hk hjk g1 hg hl1 rfl (fun hh => g2 hh.2.symm)
      · obtain ⟨g3, _⟩ := back k d hk hdk hl2 h2
        exact h.dist j k c d hj hk hjk g1 g3 hl1 hl2 hsib
/-- Siblings told anew, names let go. -/
theorem HR.resib [Th] (h : HR ρ D G W T) (hG : ∀ i c, T i → G' i = some c → c.live = true → ∃ b, G i = some b ∧ b.live = true ∧ b.obj = c.obj)
    (hs : ∀ i j b c b' c', T i → T j → i ≠ j → G i = some b → G j = some c → G' i = some b' → G' j = some c' → b'.live = true → c'.live = true → b.sib = some j → c.sib = some i → b'.sib = some j ∧ c'.sib = some i) : HR ρ D G' W T := by
  refine ⟨h.dom, fun id c hid hc hl => ?_, fun i j b' c' hi hj hij hb hc hl1 hl2 hn => ?_⟩
  · obtain ⟨b, hb, hlb, e⟩ := hG id c hid hc hl
    rw [← e]
    exact h.blk id b hid hb hlb
  · obtain ⟨b, g1, l1, _⟩ := hG i b' hi hb hl1
    obtain ⟨c, g2, l2, _⟩ := hG j c' hj hc hl2
    exact h.dist i j b c hi hj hij g1 g2 l1 l2 (fun hh => hn (hs i j b c b' c' hi hj hij g1 g2 hb hc hl1 hl2 hh.1 hh.2))
/-- Fewer names. -/
theorem HR.less [Th] (h : HR ρ D G W T) {T' : Nat → Prop} (hT : ∀ i, T' i → T i) : HR ρ D G W T' :=
  ⟨fun i hi => h.dom i (hT i hi), fun i b hi => h.blk i b (hT i hi), fun i j b c hi hj => h.dist i j b c (hT i hi) (hT j hj)⟩
/-- A row grows in its own block: the grown one has a new name. -/
theorem HR.grow [Th] (h : HR ρ D G W T) {n m : Nat} (hn : T n) (hm : ¬ D m) {l vs vs' : List Value} {s : Option Nat} {i e z : Nat} (hg : G n = some ⟨.cells l z, true, s⟩) (hv : VRs ρ D vs vs') (hie : i ≤ e) (hel : e ≤ l.length) (hx : e + vs.length ≤ (ρ n).ext) (hz6 : z < 1000000)
    (hgn : G' n = some ⟨.cells l z, decide (l.length ≤ e), some m⟩) (hgm : G' m = some ⟨.cells ((l.take e).drop i ++ vs) z, true, some n⟩) (hs : ∀ k b, s = some k → T k → k ≠ n → G' k = some b → b.live = false) (hG : ∀ j, j ≠ n → j ≠ m → some j ≠ s → G' j = G j) :
    HR (fun k => if k = m then ⟨(ρ n).blk, (ρ n).off + i, (ρ n).ext - i, (ρ n).esz⟩ else ρ k) (fun k => D k ∨ k = m) G' (W.setCells (ρ n).blk ((ρ n).off + e) vs') (fun k => T k ∨ k = m) := by
  obtain ⟨hz, hS, b2, b4⟩ := h.blk n _ hn hg rfl
  have b1 := hS.lt
  have b3 := hS.cell
  have hlen := hv.length
  have hnm : n ≠ m := fun e => hm (e ▸ h.dom n hn)
  have hsz : (W.setCells (ρ n).blk ((ρ n).off + e) vs').heap.size = W.heap.size := by
    have : ∀ (vs : List Value) (o : Nat) (w : World), (w.setCells (ρ n).blk o vs).heap.size = w.heap.size := by
      intro vs
      induction vs with
      | nil => intro o w; rfl
      | cons v r ih => intro o w; rw [World.setCells, ih]; simp
    exact this _ _ _
  have other : ∀ k, k < W.heap.size → k ≠ (ρ n).blk → (W.setCells (ρ n).blk ((ρ n).off + e) vs').heap[k]? = W.heap[k]? := fun k hk hne => World.heap_setCells_other _ _ _ _ hk hne
  have hold : ∀ k, T k → k ≠ m := fun k hk ek => hm (ek ▸ h.dom k hk)
  have hin : ∀ q, q < vs'.length → (W.cell? ⟨(ρ n).blk, (ρ n).off + e + q, none⟩).isSome = true := fun q hq => by
    have := (b3 (e + q) (by omega)).1
    rwa [← Nat.add_assoc] at this
  have hρ : ∀ k, D k → (if k = m then (⟨(ρ n).blk, (ρ n).off + i, (ρ n).ext - i, (ρ n).esz⟩ : Loca) else ρ k) = ρ k := fun k hk => if_neg (fun ek : k = m => hm (by rw [← ek]; exact hk))
  have back : ∀ k (c : Blk), T k → G' k = some c → c.live = true → k ≠ n → G k = some c ∧ some k ≠ s := fun k c hk hgk hle hkn => by
    by_cases hes : some k = s
    · have := hs k c hes.symm hk hkn hgk
      rw [this] at hle; cases hle
    · exact ⟨by rw [← hG k hkn (hold k hk) hes]; exact hgk, hes⟩
  refine ⟨fun k hk => ?_, fun k c hk hc hlv => ?_, fun j k c d hj hk hjk hcj hdk hl1 hl2 hsib => ?_⟩
  · rcases hk with hk | rfl
    · exact .inl (h.dom k hk)
    · exact .inr rfl
  · rcases hk with hk | rfl
    · by_cases hkn : k = n
      · subst hkn
        rw [hgn] at hc
        cases hc
        have hle : l.length ≤ e := of_decide_eq_true hlv
        unfold BlkR
        simp only [if_neg hnm]
        refine ⟨hz, hS.setCells _ _ _, b2, fun j v hjv => ?_⟩
        obtain ⟨v', ev, hr⟩ := b4 j v hjv
        have hjl : j < l.length := (List.getElem?_eq_some_iff.1 hjv).1
        refine ⟨v', ?_, hr.mono hρ (fun _ => .inl)⟩
        rw [World.cell?_setCells_out _ _ _ _ _ (fun _ _ => .inl (by show (ρ k).off + j < (ρ k).off + e; omega))]
        exact ev
      · obtain ⟨g1, hes⟩ := back k c hk hc hlv hkn
        have h1 := h.blk k c hk g1 hlv
        have hd := h.dist k n c _ hk hn hkn g1 hg hlv rfl (fun hh => hes hh.2.symm)
        have hkm := hold k hk
        exact h1.same hρ (if_neg hkm) (fun _ => .inl) (by rw [hsz]; exact Nat.le_refl _) (other _ h1.lt hd)
    · rw [hgm] at hc
      cases hc
      unfold BlkR
      simp only [if_true]
      refine ⟨⟨hz.1, fun h6 => absurd h6 (by omega)⟩, ?_, ?_, fun j v hjv => ?_⟩
      · obtain ⟨C, t, fr, hb, h1, h2⟩ := hS.setCells (ρ n).blk ((ρ n).off + e) vs'
        exact ⟨C, t, fr, hb, by omega, h2⟩
      · simp only [List.length_append, List.length_drop, List.length_take]; omega
      · by_cases h1 : j < e - i
        · rw [List.getElem?_append_left (by simp only [List.length_drop, List.length_take]; omega), List.getElem?_drop, List.getElem?_take_of_lt (by omega)] at hjv
          obtain ⟨v', ev, hr⟩ := b4 (i + j) v hjv
          refine ⟨v', ?_, hr.mono hρ (fun _ => .inl)⟩
          rw [World.cell?_setCells_out _ _ _ _ _ (fun _ _ => .inl (by show (ρ n).off + i + j < (ρ n).off + e; omega)), Nat.add_assoc]
          exact ev
        · rw [List.getElem?_append_right (by simp only [List.length_drop, List.length_take]; omega)] at hjv
          have e1 : j - ((l.take e).drop i).length = j - (e - i) := by simp only [List.length_drop, List.length_take]; omega
          rw [e1] at hjv
          obtain ⟨v', ev, hr⟩ := hv.get _ _ hjv
          refine ⟨v', ?_, hr.mono hρ (fun _ => .inl)⟩
          have hlt : j - (e - i) < vs'.length := (List.getElem?_eq_some_iff.1 ev).1
          have := World.cell?_setCells_in (ρ n).blk vs' ((ρ n).off + e) W hin (j - (e - i)) hlt
          rw [show (ρ n).off + e + (j - (e - i)) = (ρ n).off + i + j by omega] at this
          rw [this, ← ev, List.getElem?_eq_getElem hlt]
  · rcases hj with hj | rfl <;> rcases hk with hk | rfl
    · have h1 := hold j hj
      have h2 := hold k hk
      simp only [if_neg h1, if_neg h2]
      by_cases hjn : j = n
      · subst hjn
        obtain ⟨g1, hes⟩ := back k d hk hdk hl2 (fun e => hjk e.symm)
        exact h.dist j k _ d hj hk hjk hg g1 rfl hl2 (fun hh => hes hh.1.symm)
      · obtain ⟨g1, hes⟩ := back j c hj hcj hl1 hjn
        by_cases hkn : k = n
        · subst hkn
          exact h.dist j k c _ hj hk hjk g1 hg hl1 rfl (fun hh => hes hh.2.symm)
        · obtain ⟨g2, _⟩ := back k d hk hdk hl2 hkn
          exact h.dist j k c d hj hk hjk g1 g2 hl1 hl2 hsib
    · have h1 := hold j hj
      simp only [if_neg h1, if_true]
      by_cases hjn : j = n
      · subst hjn
        rw [hgn] at hcj
        cases hcj
        rw [hgm] at hdk
        cases hdk
        exact absurd ⟨rfl, rfl⟩ hsib
      · obtain ⟨g1, hes⟩ := back j c hj hcj hl1 hjn
        exact h.dist j n c _ hj hn hjn g1 hg hl1 rfl (fun hh => hes hh.2.symm)
    · have h2 := hold k hk
      simp only [if_neg h2, if_true]
      by_cases hkn : k = n
      · subst hkn
        rw [hgn] at hdk
        cases hdk
        rw [hgm] at hcj
        cases hcj
        exact absurd ⟨rfl, rfl⟩ hsib
      · obtain ⟨g1, hes⟩ := back k d hk hdk hl2 hkn
        exact fun e => h.dist k n d _ hk hn hkn g1 hg hl2 rfl (fun hh => hes hh.2.symm) e.symm
    · exact absurd rfl hjk
end
end Go.Proofs.Ytpjkbjpjhkcofaa.Ev
