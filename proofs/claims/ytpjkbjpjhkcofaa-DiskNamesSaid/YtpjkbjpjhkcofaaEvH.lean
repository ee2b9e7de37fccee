/- EV, part H: conversions, comparisons with nil, lengths, copies, texts. No program here. -/
import Derived.Test.YtpjkbjpjhkcofaaEvG
import Derived.Lib.SlBytesConst
import Derived.Laws.MakeOwn
namespace Go.Proofs.Ytpjkbjpjhkcofaa.Ev
open Go Go.RowKit
set_option linter.unusedVariables false
set_option linter.unusedSimpArgs false
section
variable {P : Program} {ρ : Rho} {D : Nat → Prop} {G G' : Nat → Option Blk} {W W' : World} {T : Nat → Prop} {H H' : AH} {R Wr : List Nat} {env : List Value} {a : Act}
theorem abytes_some : ∀ {l : List Value} {bs : List UInt8}, abytes l = some bs → ∃ ns : List Int, l = ns.map (Value.int .u8) ∧ bs = ns.map (fun n => UInt8.ofNat n.toNat) ∧ ∀ n ∈ ns, 0 ≤ n ∧ n < 256
  | [], bs, h => by simp [abytes] at h; exact ⟨[], rfl, h, fun _ h => by cases h⟩
  | v :: l, bs, h => by
    unfold abytes at h
    simp only [List.mapM_cons, Option.bind_eq_bind, Option.bind_eq_some_iff, Option.pure_def, Option.some.injEq] at h
    obtain ⟨b, hb, bs', hbs, rfl⟩ := h
    split at hb
    · rename_i n
      split at hb
      · rename_i hn
        simp only [Option.some.injEq] at hb
        obtain ⟨ns, h1, h2, h3⟩ := abytes_some (l := l) (bs := bs') hbs
        refine ⟨n :: ns, by rw [h1]; rfl, by rw [← hb, h2]; rfl, fun m hm => ?_⟩
        rcases List.mem_cons.1 hm with rfl | hm
        · exact hn
        · exact h3 m hm
      · cases hb
    · cases hb
theorem VRs.ints [Th] {ns : List Int} {l : List Value} (h : VRs ρ D (ns.map (Value.int .u8)) l) : l = ns.map (Value.int .u8) :=
  VRs.flat_eq h fun v hv => by obtain ⟨n, _, rfl⟩ := List.mem_map.1 hv; rfl
theorem foldl_push (ns : List Int) : ∀ s : ByteArray, ns.foldl (fun r n => r.push (UInt8.ofNat n.toNat)) s = ⟨⟨s.data.toList ++ ns.map (fun n => UInt8.ofNat n.toNat)⟩⟩ := by
  induction ns with
  | nil => intro s; cases s; simp
  | cons n ns ih =>
    intro s
    rw [List.foldl_cons, ih]
    simp [ByteArray.push]
theorem bytesString_sound [Th] {o : Oper} {src dst : TypeId} {x : Operand} (ho : o.op = .convert src dst x) {e : TypeId} {n i len cap z : Nat} {cs : List Value} {sb : Option Nat} {bs : List UInt8} (hs : P.underlying src = some (.slice e)) (hd : P.underlying dst = some .string) (hue : P.underlying e = some (.int .u8)) (hx : aeval env x = some (.slice (some ⟨n, i, none⟩) len cap))
    (hcs : H.cells n = some (cs, z, sb)) (hle : i + len ≤ cs.length) (hb : abytes ((cs.drop i).take len) = some bs) (he : VRs ρ D env a.tmps.toList) (hp : Pre ρ D G W T H H [n] []) : OpOk P o a ρ D G W T H H [] (.string ⟨⟨bs⟩⟩) := by
  obtain ⟨ns, h1, h2, h3⟩ := abytes_some hb
  have hr := aeval_sound he hx
  obtain ⟨hB, _⟩ := hp.cells (.inl (by simp)) hcs
  obtain ⟨news, hn1, hn2, hn3⟩ := hB.range i len hle
  rw [h1] at hn1
  have hnews := hn1.ints
  refine ⟨.string ⟨⟨bs⟩⟩, W, .inl ?_, post_same hp.hr (.flat rfl)⟩
  unfold execOp
  have key : ∀ (ad : Addr) (c : Nat), (loadCells ad len).run P W = .ok (ns.map (Value.int .u8)).toArray W → (convert src dst (.slice (some ad) len c)).run P W = .ok (.string ⟨⟨bs⟩⟩) W := fun ad c hl => by
    rw [run_convert_bytes_string W src dst e _ _ _ hs hue hd, run_bytesToString W ad len c ns hl, foldl_push, h2]
    simp
  generalize hy : a.eval x = y at hr
  cases hr with
  | flat hf => simp [Ev.flat] at hf
  | empty hD =>
    have : ns = [] := List.length_eq_zero_iff.1 (by have := congrArg List.length h1; simp at this; omega)
    subst this
    simp only [ho, hy]
    rw [Sem.run_bind, key _ _ (by simp [loadCells, loadCellsFrom])]
    rfl
  | slice hD q1 q2 q3 =>
    simp only [ho, hy]
    rw [Sem.run_bind, key _ _ ?_]
    · rfl
    · rw [← hnews, ← hn2]
      exact run_loadCells_list (P := P) W _ news (fun j v hj => by rw [Addr.add_mid]; exact hn3 j v hj)
theorem stringBytes_sound [Th] {o : Oper} {src dst : TypeId} {x : Operand} (ho : o.op = .convert src dst x) {e : TypeId} {s : ByteArray} (hs : P.underlying src = some .string) (hd : P.underlying dst = some (.slice e)) (hue : P.underlying e = some (.int .u8)) (hx : aeval env x = some (.string s)) (he : VRs ρ D env a.tmps.toList)
    (hp : Pre ρ D G W T H (H.new ⟨.cells (s.data.toList.map fun b => .int .u8 b.toNat) 1, true, none⟩) [] []) : OpOk P o a ρ D G W T H (H.new ⟨.cells (s.data.toList.map fun b => .int .u8 b.toNat) 1, true, none⟩) [] (.slice (some ⟨H.next, 0, none⟩) s.size s.size) := by
  have hy := VR.flat_eq (aeval_sound he hx) rfl
  have hcap : s.size ≤ grownCap W s.size 0 e := grown_ge W s.size 0 e
  let C : Array Value := (s.data.map fun b => Value.int .u8 b.toNat) ++ Array.replicate (grownCap W s.size 0 e - s.size) (.int .u8 0)
  have hds : s.data.size = s.size := rfl
  have hC : C.size = grownCap W s.size 0 e := by simp [C, hds]; omega
  have hrun : (execOp a.eval o).run P W = .ok (.value (.slice (some ⟨W.heap.size, 0, none⟩) s.size (grownCap W s.size 0 e))) (W.drew.alloc (.cells C e (C.size, C.size + 1))) := by
    have hsh : (W.drew.alloc (.cells C e)).shape? W.heap.size = some (e, C.size) := by
      have : (W.drew.alloc (.cells C e)).heap[W.heap.size]? = some (.cells C e) := by
        show (W.heap.push (.cells C e))[W.heap.size]? = _
        simp
      unfold World.shape?
      rw [this]
    have hfr : ∀ (k : Nat), (W.drew.alloc (.cells C e)).freeze ⟨W.heap.size, k, none⟩ 1 = W.drew.alloc (.cells C e (k, k + 1)) := fun k => by
      have hm : ∀ (a : Array Obj) (x : Obj) (f : Obj → Obj), (a.push x).modify a.size f = a.push (f x) := by
        intro a x f
        apply Array.ext
        · simp
        · intro i h1 h2
          simp only [Array.getElem_modify, Array.getElem_push]
          by_cases h : a.size = i
          · subst h
            simp
          · have hi : i < a.size := by simp at h1; omega
            simp [h, hi]
      unfold World.freeze
      rw [if_neg (by decide)]
      show ({ W.drew.alloc (.cells C e) with heap := (W.heap.push (.cells C e)).modify W.heap.size _ } : World) = _
      rw [hm]
      rfl
    have hconv : (Conv.stringToBytes e s).run P W = .ok (.slice (some ⟨W.heap.size, 0, none⟩) s.size (grownCap W s.size 0 e)) (W.drew.alloc (.cells C e (C.size, C.size + 1))) := by
      unfold Conv.stringToBytes
      rw [Sem.run_bind, run_choose]
      have hq : (Question.appendCap s.size 0 e).forced = false := rfl
      rw [hq]
      simp only [Bool.false_eq_true, if_false, Result.andThen_ok]
      show Sem.run P (do
        let a ← newRow e C
        markStringish a
        (pure (Value.slice (some a) s.size (grownCap W s.size 0 e)) : Sem Value)) W.drew = _
      rw [Sem.run_bind, run_newRow']
      simp only [Result.andThen_ok]
      rw [Sem.run_bind]
      have : (markStringish ⟨W.drew.heap.size, 0, none⟩).run P (W.drew.alloc (.cells C e)) = .ok () (W.drew.alloc (.cells C e (C.size, C.size + 1))) := by
        unfold markStringish
        simp only [Sem.run_bind, run_shape, Result.andThen_ok]
        rw [show W.drew.heap.size = W.heap.size from rfl, hsh]
        simp only [run_freeze]
        rw [hfr]
      rw [this]
      rfl
    unfold execOp
    simp only [ho, hy]
    rw [Sem.run_bind]
    have : (convert src dst (.string s)).run P W = (Conv.stringToBytes e s).run P W := by
      simp [convert, run_underlying hs, run_underlying hd, run_underlying hue]
    rw [this, hconv]
    rfl
  have hl : (s.data.toList.map fun b => Value.int .u8 (b.toNat : Int)).length = s.size := by simp [hds]
  refine ⟨_, _, .inl hrun, ?_⟩
  obtain ⟨ρ', h1, h2, h3, h4⟩ := post_alloc (esz := 1) (W := W.drew) (t := e) (fr := (C.size, C.size + 1)) (l := s.data.toList.map fun b => Value.int .u8 (b.toNat : Int)) (H := H) (G := G) (C := C) ⟨hp.hr.heap rfl, hp.tr, hp.g, hp.fresh⟩ (by rw [hl, hC]; exact hcap) (by
      have : C.toList.take (s.data.toList.map fun b => Value.int .u8 (b.toNat : Int)).length = s.data.toList.map fun b => Value.int .u8 (b.toNat : Int) := by
        simp [C]
      rw [this]
      exact VRs.flat fun v hv => by obtain ⟨q, _, rfl⟩ := List.mem_map.1 hv; rfl) (.inr (Nat.le_refl _))
    (v := .slice (some ⟨H.next, 0, none⟩) s.size s.size) (v' := .slice (some ⟨W.heap.size, 0, none⟩) s.size (grownCap W s.size 0 e)) (fun ρ' er => by
      have := VR.slice (ρ := ρ') (D := fun id => D id ∨ id = H.next) (b := H.next) (i := 0) (l := s.size) (c := s.size) (c' := grownCap W s.size 0 e) (.inr rfl) (Nat.le_refl _) hcap (by rw [er, hC]; simp)
      rw [er] at this
      exact this)
  exact ⟨ρ', h1, h2, h3, below0_trans (w1 := W) (w2 := W.drew) ⟨rfl, rfl, rfl, Nat.le_refl _, fun k hk => by omega⟩ h4⟩
/-- A mark behind the end of a block. -/
theorem HR.freeze [Th] (h : HR ρ D G W T) {n z : Nat} {l : List Value} (hn : T n) (hg : G n = some ⟨.cells l z, true, none⟩) {C : Array Value} {t : TypeId} {fr : Nat × Nat} (hC : W.heap[(ρ n).blk]? = some (.cells C t fr)) (hG : G' n = some ⟨.cells l z, true, none⟩) (hG2 : ∀ j, j ≠ n → G' j = G j) :
    HR ρ D G' (W.freeze ⟨(ρ n).blk, C.size, none⟩ 1) T := by
  obtain ⟨hz, hS, h2, h3⟩ := h.blk n _ hn hg rfl
  have heap : ∀ k, (W.freeze ⟨(ρ n).blk, C.size, none⟩ 1).heap[k]? = if k = (ρ n).blk then some (.cells C t (if fr.1 == fr.2 then (C.size, C.size + 1) else (min fr.1 C.size, max fr.2 (C.size + 1)))) else W.heap[k]? := by
    intro k
    unfold World.freeze
    rw [if_neg (by decide)]
    simp only [Array.getElem?_modify]
    by_cases e : (ρ n).blk = k
    · subst e; rw [if_pos rfl, if_pos rfl, hC]; rfl
    · rw [if_neg e, if_neg (fun e' => e e'.symm)]
  have hsz : W.heap.size ≤ (W.freeze ⟨(ρ n).blk, C.size, none⟩ 1).heap.size := by
    unfold World.freeze
    rw [if_neg (by decide)]
    simp
  have eqG : G' = G := by
    funext j
    by_cases e : j = n
    · rw [e, hG, hg]
    · exact hG2 j e
  subst eqG
  refine ⟨h.dom, fun id b hid hb hl => ?_, h.dist⟩
  by_cases e : id = n
  · subst e
    rw [hg] at hb
    cases hb
    have hcell : ∀ j, (W.freeze ⟨(ρ id).blk, C.size, none⟩ 1).cell? ⟨(ρ id).blk, j, none⟩ = W.cell? ⟨(ρ id).blk, j, none⟩ := fun j => by
      unfold World.cell?
      simp only [heap, if_true, hC]
    obtain ⟨C', t', fr', e1, e2, e3⟩ := hS
    rw [hC] at e1
    cases e1
    refine ⟨hz, ⟨C, t, _, by rw [heap, if_pos rfl], e2, ?_⟩, h2, fun i v hv => ?_⟩
    · by_cases ef : fr.1 = fr.2
      · rw [if_pos (by simpa using ef)]; exact .inr (Nat.le_refl _)
      · rw [if_neg (by simpa using ef)]; exact .inr (by simp only; omega)
    · obtain ⟨v', ev, hr⟩ := h3 i v hv
      exact ⟨v', by rw [hcell]; exact ev, hr⟩
  · have h1 := h.blk id b hid hb hl
    have hd := h.dist id n b _ hid hn e hb hg hl rfl (fun hh => by cases hh.2)
    exact h1.same (fun _ _ => rfl) rfl (fun _ h => h) hsz (by rw [heap, if_neg hd])
theorem convSame_sound [Th] {o : Oper} {t : TypeId} {x : Operand} (ho : o.op = .convert t t x) {e : TypeId} {n i len cap z : Nat} {cs : List Value} (ht : P.underlying t = some (.slice e)) (hue : P.underlying e = some (.int .u8)) (hx : aeval env x = some (.slice (some ⟨n, i, none⟩) len cap)) (hcs : H.cells n = some (cs, z, none)) (he : VRs ρ D env a.tmps.toList) (hp : Pre ρ D G W T H H [n] []) :
    OpOk P o a ρ D G W T H H [] (.slice (some ⟨n, i, none⟩) len cap) := by
  have hr := aeval_sound he hx
  obtain ⟨hB, hG, hT, hD⟩ := hp.cells (.inl (by simp)) hcs
  obtain ⟨C, t', fr, hC, h1, h2⟩ := hB.2.1
  have hsh : W.shape? (ρ n).blk = some (t', C.size) := by unfold World.shape?; rw [hC]
  have hform : ∃ j l c, a.eval x = .slice (some ⟨(ρ n).blk, j, none⟩) l c := by
    generalize a.eval x = y at hr
    cases hr with
    | flat hf => simp [Ev.flat] at hf
    | empty hD => exact ⟨_, _, _, rfl⟩
    | slice q1 q2 q3 q4 => exact ⟨_, _, _, rfl⟩
  obtain ⟨j, l, c, hy⟩ := hform
  refine ⟨a.eval x, W.freeze ⟨(ρ n).blk, C.size, none⟩ 1, .inl ?_, ρ, fun _ _ => rfl, ?_, ?_, ?_⟩
  · unfold execOp
    simp only [ho, hy]
    simp [convert, run_underlying ht, run_underlying hue, markStringish, hsh]
  · rw [Dn_same]; exact hr
  · rw [Dn_same, Dn_same, Gn_same]
    exact hp.hr.freeze hT hG hC hG (fun _ _ => rfl)
  · have : ∀ (k : Nat), (W.freeze ⟨(ρ n).blk, k, none⟩ 1).heap.size = W.heap.size := fun k => by unfold World.freeze; rw [if_neg (by decide)]; simp
    exact ⟨by unfold World.freeze; rw [if_neg (by decide)], by unfold World.freeze; rw [if_neg (by decide)], by unfold World.freeze; rw [if_neg (by decide)], by rw [this]; exact Nat.le_refl _, fun k hk => by omega⟩
theorem eqNil_sound [Th] {o : Oper} {op : BinOp} {t yt : TypeId} {x y : Operand} (ho : o.op = .binOp op t x y yt) {b : Bool} (hop : op = .eql ∧ b = false ∨ op = .neq ∧ b = true) {xv yv : Value} (hx : aeval env x = some xv) (hy : aeval env y = some yv)
    (hk : (∃ ad l c l' c' e, xv = .slice (some ad) l c ∧ yv = .slice none l' c' ∧ P.underlying t = some (.slice e)) ∨ (∃ ad e, xv = .pointer (some ad) ∧ yv = .pointer none ∧ P.underlying t = some (.pointer e)) ∨ (∃ f p q r s u, xv = .func f p q ∧ yv = .nilFunc ∧ P.underlying t = some (.func r s u))) (he : VRs ρ D env a.tmps.toList) (hp : Pre ρ D G W T H H [] []) :
    OpOk P o a ρ D G W T H H [] (.bool b) := by
  have hr := aeval_sound he hx
  have hr2 := aeval_sound he hy
  refine ⟨.bool b, W, .inl ?_, post_same hp.hr (.flat rfl)⟩
  have key : ∀ (u v : Value), a.eval x = u → a.eval y = v → ((eqGuard op t x y u v).run P W = .ok () W) → (Op.equalIn (9999 + 1) t u v).run P W = .ok false W → (binOp .eql t u v = (do let r ← Op.equal t u v; pure (.bool r)) ∧ binOp .neq t u v = (do let r ← Op.equal t u v; pure (.bool (!r)))) → (execOp a.eval o).run P W = .ok (.value (.bool b)) W := by
    intro u v hu hv hg heq hb
    have heq' : (Op.equal t u v).run P W = .ok false W := heq
    unfold execOp
    simp only [ho, hu, hv]
    rw [Sem.run_bind, Sem.run_bind, hg]
    simp only [Result.andThen_ok]
    rcases hop with ⟨rfl, rfl⟩ | ⟨rfl, rfl⟩
    · rw [hb.1, Sem.run_bind]; simp [heq']
    · rw [hb.2, Sem.run_bind]; simp [heq']
  rcases hk with ⟨ad, l, c, l', c', e, rfl, rfl, hu⟩ | ⟨ad, e, rfl, rfl, hu⟩ | ⟨f, p, q, r, s, u, rfl, rfl, hu⟩
  · have e2 := VR.flat_eq hr2 rfl
    have hform : ∃ ad l c, a.eval x = .slice (some ad) l c := by
      generalize a.eval x = y at hr
      cases hr with
      | flat hf => simp [Ev.flat] at hf
      | empty hD => exact ⟨_, _, _, rfl⟩
      | slice q1 q2 q3 q4 => exact ⟨_, _, _, rfl⟩
    obtain ⟨ad', l2, c2, hform⟩ := hform
    refine key _ _ hform e2 ?_ ?_ ?_
    · unfold eqGuard; rcases hop with ⟨rfl, _⟩ | ⟨rfl, _⟩ <;> rfl
    · rw [Op.equalIn, Sem.run_bind, run_underlying hu]; rfl
    · exact ⟨rfl, rfl⟩
  · have e2 := VR.flat_eq hr2 rfl
    have hform : ∃ ad, a.eval x = .pointer (some ad) := by
      generalize a.eval x = y at hr
      cases hr with
      | flat hf => simp [Ev.flat] at hf
      | ptr hD => exact ⟨_, rfl⟩
    obtain ⟨ad', hform⟩ := hform
    refine key _ _ hform e2 ?_ ?_ ?_
    · unfold eqGuard; rcases hop with ⟨rfl, _⟩ | ⟨rfl, _⟩ <;> rfl
    · rw [Op.equalIn, Sem.run_bind, run_underlying hu]; rfl
    · exact ⟨rfl, rfl⟩
  · have e2 := VR.flat_eq hr2 rfl
    have hform : ∃ f p q, a.eval x = .func f p q := by
      generalize a.eval x = y at hr
      cases hr with
      | flat hf => simp [Ev.flat] at hf
      | func h1 h2 => exact ⟨_, _, _, rfl⟩
    obtain ⟨f', p', q', hform⟩ := hform
    refine key _ _ hform e2 ?_ ?_ ?_
    · unfold eqGuard; rcases hop with ⟨rfl, _⟩ | ⟨rfl, _⟩ <;> rfl
    · rw [Op.equalIn, Sem.run_bind, run_underlying hu]; rfl
    · exact ⟨rfl, rfl⟩
theorem len_slice_sound [Th] {o : Oper} {x : Operand} {ats : Array TypeId} (ho : o.op = .call { callee := .builtin .len, args := #[x], argTypes := ats }) {t e : TypeId} {s : Option Addr} {n c : Nat} (ht : ats[0]? = some t) (hu : P.underlying t = some (.slice e)) (hx : aeval env x = some (.slice s n c)) (he : VRs ρ D env a.tmps.toList) (hp : Pre ρ D G W T H H [] []) :
    OpOk P o a ρ D G W T H H [] (.int .i64 n) := by
  have hr := aeval_sound he hx
  have hform : ∃ s' c', a.eval x = .slice s' n c' := by
    generalize a.eval x = y at hr
    cases hr with
    | flat hf => exact ⟨_, _, rfl⟩
    | empty hD => exact ⟨_, _, rfl⟩
    | slice q1 q2 q3 q4 => exact ⟨_, _, rfl⟩
  obtain ⟨s', c', hy⟩ := hform
  refine ⟨.int .i64 n, W, .inl ?_, post_same hp.hr (.flat rfl)⟩
  unfold execOp
  simp [ho, resolve, invoke, builtin, Builtin.len_, ht, hy, run_underlying hu, goInt]
theorem len_array_sound [Th] {o : Oper} {x : Operand} {ats : Array TypeId} (ho : o.op = .call { callee := .builtin .len, args := #[x], argTypes := ats }) {t e : TypeId} {n : Nat} (ht : ats[0]? = some t) (hu : P.underlying t = some (.array n e)) (hp : Pre ρ D G W T H H [] []) :
    OpOk P o a ρ D G W T H H [] (.int .i64 n) := by
  refine ⟨.int .i64 n, W, .inl ?_, post_same hp.hr (.flat rfl)⟩
  unfold execOp
  simp [ho, resolve, invoke, builtin, Builtin.len_, ht, run_underlying hu, goInt]
end
end Go.Proofs.Ytpjkbjpjhkcofaa.Ev
