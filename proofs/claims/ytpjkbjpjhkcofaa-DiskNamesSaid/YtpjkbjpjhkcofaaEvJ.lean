/- EV, part J: literals of rows, copies, texts run through, comparisons of bytes. No program here. -/
import Derived.Test.YtpjkbjpjhkcofaaEvI
namespace Go.Proofs.Ytpjkbjpjhkcofaa.Ev
open Go Go.RowKit
set_option linter.unusedVariables false
set_option linter.unusedSimpArgs false
section
variable {P : Program} {ρ : Rho} {D : Nat → Prop} {G G' : Nat → Option Blk} {W W' : World} {T : Nat → Prop} {H H' : AH} {R Wr : List Nat} {env : List Value} {a : Act}
theorem build_array_sound [Th] {o : Oper} {t : TypeId} {parts : Array (Nat × Operand)} (ho : o.op = .build t parts) {z : Value} {n sz : Nat} {elem : TypeId} {ps : List (Nat × Value)} {cs : Array Value} (hz : zeroOf P t = some z) (hcl : clean z = true) (hu : P.underlying t = some (.array n elem)) (hps : aparts env parts.toList = some ps) (hsz : szOf P elem = some sz)
    (hf : Instr.fill (fun i => some (i * sz, sz)) z.cells ps = some cs) (he : VRs ρ D env a.tmps.toList) (hp : Pre ρ D G W T H H [] []) : OpOk P o a ρ D G W T H H [] (.agg cs) := by
  obtain ⟨cs', hf', hr⟩ := fill_sound _ _ _ _ _ _ (aparts_sound he hps) (clean_VRs hcl) hf
  have hpt : (parts.map fun (i, x) => (i, a.eval x)).toList = parts.toList.map fun (i, x) => (i, a.eval x) := by simp
  refine ⟨.agg cs', W, .inl ?_, post_same hp.hr (.agg hr)⟩
  unfold execOp
  simp only [ho]
  unfold Instr.build
  simp only [Sem.run_bind, run_zeroValue' hz, Result.andThen_ok, underlying_of hu, run_sizeOf' hsz, hpt, hf']
  rfl
theorem buildSlice_sound [Th] {o : Oper} {t : TypeId} {len : Nat} {parts : Array (Nat × Operand)} (ho : o.op = .buildSlice t len parts) {z : Value} {sz : Nat} {elem : TypeId} {ps : List (Nat × Value)} {cs : Array Value} (hu : P.underlying t = some (.slice elem)) (hsz : szOf P elem = some sz) (hz : zeroOf P elem = some z) (hps : aparts env parts.toList = some ps) (hcl : clean z = true) (h24 : len * sz ≤ 2 ^ 24) (hzs : z.cells.size = sz)
    (hf : Instr.fill (fun i => some (i * sz, sz)) (madeCells z.cells (len * sz)) ps = some cs) (he : VRs ρ D env a.tmps.toList) (hp : Pre ρ D G W T H (H.new ⟨.cells cs.toList sz, true, none⟩) [] []) : OpOk P o a ρ D G W T H (H.new ⟨.cells cs.toList sz, true, none⟩) [] (.slice (some ⟨H.next, 0, none⟩) len len) := by
  have hmade : VRs ρ D (madeCells z.cells (len * sz)).toList (madeCells z.cells (len * sz)).toList := made_VRs hcl _ (by
    by_cases h : sz = 0
    · left; rw [h, Nat.mul_zero]
    · right; omega)
  obtain ⟨cs', hf', hr⟩ := fill_sound _ _ _ _ _ _ (aparts_sound he hps) hmade hf
  have hpt : (parts.map fun (i, x) => (i, a.eval x)).toList = parts.toList.map fun (i, x) => (i, a.eval x) := by simp
  have fsize : ∀ (place : Nat → Option (Nat × Nat)) (ps : List (Nat × Value)) (c r : Array Value), Instr.fill place c ps = some r → r.size = c.size := by
    intro place ps
    induction ps with
    | nil => intro c r h; simp [Instr.fill] at h; rw [h]
    | cons q ps ih =>
      obtain ⟨i, v⟩ := q
      intro c r h
      simp only [Instr.fill] at h
      split at h
      · cases h
      · split at h
        · cases h
        · rw [ih _ _ h, foldl_zipIdx]
          have : ∀ (off : Nat) (l : List (Value × Nat)) (c : Array Value), (l.foldl (fun cs (x : Value × Nat) => cs.setIfInBounds (off + x.2) x.1) c).size = c.size := by
            intro off l
            induction l with
            | nil => intro c; rfl
            | cons y l ih2 => intro c; rw [List.foldl_cons, ih2]; simp
          exact this _ _ _
  have hcsz : cs'.size = len * sz := by rw [fsize _ _ _ _ hf', made_one (z := z)]
  have hlen := hr.length
  have hzero : ∀ W : World, ((if len * sz = 0 then pure #[] else do pure (← zeroValue elem).cells) : Sem (Array Value)).run P W = .ok (if len * sz = 0 then #[] else z.cells) W := fun W => by
    by_cases h : len * sz = 0
    · simp only [if_pos h]; rfl
    · simp only [if_neg h]; rw [Sem.run_bind, run_zeroValue' hz]; rfl
  have hmd : (Array.range (len * sz)).map ((if len * sz = 0 then (#[] : Array Value) else z.cells)[· % (if len * sz = 0 then (#[] : Array Value) else z.cells).size]!) = madeCells z.cells (len * sz) := by
    by_cases h : len * sz = 0
    · rw [h]; simp [madeCells]
    · simp only [if_neg h]; rfl
  refine ⟨.slice (some ⟨W.heap.size, 0, none⟩) len len, W.alloc (.cells cs' elem), .inl ?_, post_alloc hp (by have : cs'.toList.length = cs'.size := Array.length_toList; omega) ?_ (.inl rfl) (fun ρ' er => ?_)⟩
  · unfold execOp
    simp only [ho]
    rw [Sem.run_bind]
    have : (Instr.buildSlice t len (parts.map fun (i, x) => (i, a.eval x))).run P W = .ok (.slice (some ⟨W.heap.size, 0, none⟩) len len) (W.alloc (.cells cs' elem)) := by
      unfold Instr.buildSlice
      rw [Sem.run_bind, underlying_of hu]
      simp only [Result.andThen_ok]
      rw [Sem.run_bind, run_sizeOf' hsz]
      simp only [Result.andThen_ok]
      rw [if_neg (by omega)]
      have step : ∀ (k : Array Value → Sem Value), (((if len * sz = 0 then pure #[] else do pure (← zeroValue elem).cells) : Sem (Array Value)) >>= k).run P W = (k (if len * sz = 0 then #[] else z.cells)).run P W := fun k => by
        rw [Sem.run_bind, hzero]; rfl
      by_cases h : len * sz = 0
      · simp only [if_pos h] at step hmd ⊢
        simp only [pure_bind, hmd, hpt, hf']
        rw [Sem.run_bind, run_newRow']; rfl
      · simp only [if_neg h] at step hmd ⊢
        rw [Sem.run_bind, run_zeroValue' hz]
        simp only [Result.andThen_ok, pure_bind, hmd, hpt, hf']
        rw [Sem.run_bind, run_newRow']; rfl
    rw [this]
    rfl
  · rw [List.take_of_length_le (by have : cs'.toList.length = cs'.size := Array.length_toList; omega)]; exact hr
  · have := VR.slice (ρ := ρ') (D := fun id => D id ∨ id = H.next) (b := H.next) (i := 0) (l := len) (c := len) (c' := len) (.inr rfl) (Nat.le_refl _) (Nat.le_refl _) (by rw [er, hcsz]; simp)
    rw [er] at this
    exact this
theorem lenOf_run [Th] {x x' : Value} {m : Nat} (h : alenOf x = some m) (hx : VR ρ D x x') (W : World) : (Builtin.lenOf x').run P W = .ok m W := by
  unfold alenOf at h
  split at h
  · simp only [Option.some.injEq] at h
    subst h
    cases hx with
    | flat hf => rfl
    | empty hD => rfl
    | slice h1 h2 h3 h4 => rfl
  · simp only [Option.some.injEq] at h
    subst h
    rw [VR.flat_eq hx rfl]; rfl
  · cases h
theorem copy_sound [Th] {o : Oper} {d x : Operand} {ats : Array TypeId} (ho : o.op = .call { callee := .builtin .copy, args := #[d, x], argTypes := ats }) {dv xv v : Value} (hd : aeval env d = some dv) (hx : aeval env x = some xv) (h : acopy P H ats dv xv = some (v, H', R, Wr)) (he : VRs ρ D env a.tmps.toList) (hp : Pre ρ D G W T H H' R Wr) : OpOk P o a ρ D G W T H H' Wr v := by
  unfold acopy at h
  simp only [Option.bind_eq_bind, Option.bind_eq_some_iff] at h
  obtain ⟨t, ht, elem, hel, sz, hsz, m, hm, h⟩ := h
  have htu := aelem_some hel
  have hxr := aeval_sound he hx
  have hdr := aeval_sound he hd
  have hrun : ∀ (base : Option Addr) (l c : Nat) (cells : Array Value), a.eval d = .slice base l c → (Builtin.firstCells sz (Nat.min m l) (a.eval x)).run P W = .ok cells W → (execOp a.eval o).run P W = (((match base with | some ad => storeCells ad cells.toList | none => pure ()) : Sem Unit).run P W).andThen fun _ w => .ok (.value (.int .i64 (Nat.min m l : Nat))) w := by
    intro base l c cells hb hc
    unfold execOp
    simp only [ho]
    have : (Builtin.copy_ ats o.type #[a.eval d, a.eval x]).run P W = (((match base with | some ad => storeCells ad cells.toList | none => pure ()) : Sem Unit).run P W).andThen fun _ w => .ok (.int .i64 (Nat.min m l : Nat)) w := by
      unfold Builtin.copy_
      simp only [ht, hb, List.getElem?_toArray, List.getElem?_cons_zero, List.getElem?_cons_succ]
      rw [Sem.run_bind, underlying_of htu]
      simp only [Result.andThen_ok]
      rw [Sem.run_bind, lenOf_run hm hxr W]
      simp only [Result.andThen_ok]
      rw [Sem.run_bind, run_sizeOf' hsz]
      simp only [Result.andThen_ok]
      rw [Sem.run_bind, hc]
      simp only [Result.andThen_ok]
      cases base with
      | none => simp [goInt]
      | some ad => rw [Sem.run_bind]; simp [goInt]
    simp only [resolve, List.map_toArray, List.map_cons, List.map_nil, pure_bind, invoke, builtin]
    rw [Sem.run_bind, this]
    cases base with
    | none => rfl
    | some ad => cases (storeCells ad cells.toList).run P W <;> rfl
  have hmin : ∀ l : Nat, ∃ q, alenOf xv = some q ∧ Nat.min m l ≤ q := fun l => ⟨m, hm, Nat.min_le_left _ _⟩
  split at h
  · rename_i l c
    simp only [Option.bind_eq_some_iff] at h
    obtain ⟨⟨items, rd⟩, hit, h⟩ := h
    simp only [Option.some.injEq, Prod.mk.injEq] at h
    obtain ⟨rfl, rfl, rfl, rfl⟩ := h
    obtain ⟨news, hn1, hn2⟩ := items_sound (P := P) hit hxr (hmin l) hp (fun _ h => h)
    have e1 := VR.flat_eq hdr rfl
    refine ⟨.int .i64 (Nat.min m l : Nat), W, .inl ?_, post_same hp.hr (.flat rfl)⟩
    rw [hrun none l c _ e1 (hn2 W (fun _ => rfl))]
    rfl
  · rename_i b i l c
    simp only [Option.bind_eq_some_iff] at h
    obtain ⟨⟨items, rd⟩, hit, ⟨cs, z, sb⟩, hcs, h⟩ := h
    simp only at h
    split at h
    case isFalse => cases h
    rename_i hc
    obtain ⟨q1, q2, q3⟩ := hc
    simp only [Option.some.injEq, Prod.mk.injEq] at h
    obtain ⟨rfl, rfl, rfl, rfl⟩ := h
    obtain ⟨news, hn1, hn2⟩ := items_sound (P := P) hit hxr (hmin l) hp (fun _ h => h)
    have hnl := hn1.length
    obtain ⟨hB, hG, hT, hDb⟩ := hp.cells (.inr (wr_mem.2 (.inl rfl))) hcs
    have hone : ∀ u ∈ news, u.oneCell' = true := fun u hu => by
      obtain ⟨j, hj⟩ := List.getElem?_of_mem hu
      obtain ⟨q0, hq0, hr⟩ := hn1.get' j u hj
      exact hr.oneCell (List.all_eq_true.1 q3 q0 (List.mem_of_getElem? hq0))
    have hext : i + news.length ≤ (ρ b).ext := by have := hB.2.2.1; omega
    have hth := hB.there i news.length hext
    have store : ∀ j, (j = (ρ b).off + i ∨ news = []) → (storeCells ⟨(ρ b).blk, j, none⟩ news).run P W = .ok () (W.setCells (ρ b).blk ((ρ b).off + i) news) := by
      intro j hj
      rcases hj with rfl | rfl
      · have hst := run_storeCells_cells (P := P) (ρ b).blk ((ρ b).off + i) news 0 W (fun j hj => by simpa using (hth j hj).1) (fun j hj => by simpa using (hth j hj).2) hone
        simpa using hst
      · rfl
    have hform : ∃ j c', a.eval d = .slice (some ⟨(ρ b).blk, j, none⟩) l c' ∧ (j = (ρ b).off + i ∨ news = []) := by
      generalize a.eval d = y at hdr
      cases hdr with
      | flat hf => simp [Ev.flat] at hf
      | empty hD =>
        refine ⟨_, _, rfl, .inr ?_⟩
        have : items.length = 0 := by
          unfold aitems at hit
          have h0 : Nat.min m 0 = 0 := Nat.min_zero _
          rw [h0] at hit
          split at hit
          · simp only [Option.some.injEq, Prod.mk.injEq] at hit; rw [← hit.1]; rfl
          · simp only [Option.bind_eq_bind, Option.bind_eq_some_iff] at hit
            obtain ⟨y, _, hit⟩ := hit
            split at hit
            · simp only [Option.some.injEq, Prod.mk.injEq] at hit; rw [← hit.1]; simp
            · cases hit
          · simp only [Option.some.injEq, Prod.mk.injEq] at hit; rw [← hit.1]; simp
          · cases hit
        exact List.length_eq_zero_iff.1 (by omega)
      | slice h1 h2 h3 h4 => exact ⟨_, _, rfl, .inl rfl⟩
    obtain ⟨j, c', hy, hj⟩ := hform
    refine ⟨.int .i64 (Nat.min m l : Nat), W.setCells (ρ b).blk ((ρ b).off + i) news, .inl ?_, post_write hcs q2 hn1 q1 rfl hp (.flat rfl)⟩
    rw [hrun _ l c' _ hy (hn2 W (fun _ => rfl))]
    simp only
    rw [store j hj]
    rfl
  · cases h
/-! ### comparisons of bytes -/
theorem loadBytes_run (b : Nat) : ∀ (ns : List Int) (o : Nat) (acc : ByteArray) (W : World), (∀ n ∈ ns, 0 ≤ n ∧ n < 256) → W.rangeAt b o (ns.map (Value.int .u8)) → (Extern.Bytes.loadBytes ⟨b, o, none⟩ ns.length acc).run P W = .ok ⟨⟨acc.data.toList ++ ns.map (fun n => UInt8.ofNat n.toNat)⟩⟩ W
  | [], o, acc, W, _, _ => by simp [Extern.Bytes.loadBytes]
  | n :: ns, o, acc, W, hn, hr => by
    have h0 : W.cell? ⟨b, o, none⟩ = some (.int .u8 n) := by
      have := hr 0 (.int .u8 n) (by simp)
      simpa using this
    rw [List.length_cons, Extern.Bytes.loadBytes]
    rw [Sem.run_bind, run_load]
    simp only [h0, Result.andThen_ok]
    have hadd := Addr.add_mid b o 1
    rw [hadd, loadBytes_run b ns (o + 1) _ W (fun m hm => hn m (by simp [hm])) (fun j v hj => by
      have := hr (j + 1) v (by simpa using hj)
      rwa [show o + (j + 1) = o + 1 + j by omega] at this)]
    have : (n.toNat).toUInt8 = UInt8.ofNat n.toNat := rfl
    simp [ByteArray.push, this]
theorem bytesOf_sound [Th] {x x' : Value} {bs : List UInt8} {rd : List Nat} (h : abytesOf H x = some (bs, rd)) (hx : VR ρ D x x') (hp : Pre ρ D G W T H H' R Wr) (hrd : ∀ id ∈ rd, id ∈ R) : (Extern.Bytes.bytesOf x').run P W = .ok ⟨⟨bs⟩⟩ W := by
  unfold abytesOf at h
  split at h
  · simp only [Option.some.injEq, Prod.mk.injEq] at h; rw [VR.flat_eq hx rfl, ← h.1]; rfl
  · rename_i b i n c
    simp only [Option.bind_eq_bind, Option.bind_eq_some_iff] at h
    obtain ⟨⟨l, z, sb⟩, hl, h⟩ := h
    simp only at h
    split at h
    · rename_i hle
      simp only [Option.bind_eq_some_iff, Option.some.injEq, Prod.mk.injEq] at h
      obtain ⟨bs', hbs, rfl, rfl⟩ := h
      obtain ⟨ns, h1, h2, h3⟩ := abytes_some hbs
      obtain ⟨hB, _⟩ := hp.cells (.inl (hrd b (by simp))) hl
      obtain ⟨news, hn1, hn2, hn3⟩ := hB.range i n hle
      rw [h1] at hn1
      have hnews := hn1.ints
      have hnn : ns.length = n := by have := congrArg List.length hnews; simp at this; omega
      cases hx with
      | flat hf => simp [Ev.flat] at hf
      | empty hD =>
        have : ns = [] := List.length_eq_zero_iff.1 hnn
        subst this
        rw [h2]
        rfl
      | slice q1 q2 q3 q4 =>
        show (Extern.Bytes.loadBytes _ n .empty).run P W = _
        rw [← hnn, loadBytes_run (ρ b).blk ns ((ρ b).off + i) _ W h3 (by rw [← hnews]; exact hn3), h2]
        simp
    · cases h
  · rename_i s
    simp only [Option.some.injEq, Prod.mk.injEq] at h
    rw [VR.flat_eq hx rfl, ← h.1]
    rfl
  · cases h
theorem compare_run [Th] {x y x' y' : Value} {v : Value} (h : acompare H [x, y] = some (v, H', R, Wr)) (hx : VR ρ D x x') (hy : VR ρ D y y') (hp : Pre ρ D G W T H H' R Wr) : H' = H ∧ Wr = [] ∧ Ev.flat v = true ∧ (Extern.BytealgCompare.compare #[x', y']).run P W = .ok v W := by
  unfold acompare at h
  simp only [Option.bind_eq_bind, Option.bind_eq_some_iff] at h
  obtain ⟨⟨bx, rx⟩, h1, ⟨by_, ry⟩, h2, h⟩ := h
  simp only [Option.some.injEq, Prod.mk.injEq] at h
  obtain ⟨rfl, rfl, rfl, rfl⟩ := h
  refine ⟨rfl, rfl, rfl, ?_⟩
  have e1 := bytesOf_sound (P := P) h1 hx hp (fun id hid => by simp [hid])
  have e2 := bytesOf_sound (P := P) h2 hy hp (fun id hid => by simp [hid])
  show Sem.run P (do pure (goInt (Extern.BytealgCompare.cmp (← Extern.Bytes.bytesOf x') (← Extern.Bytes.bytesOf y')))) W = _
  rw [Sem.run_bind, e1]
  simp only [Result.andThen_ok]
  rw [Sem.run_bind, e2]
  rfl
end
end Go.Proofs.Ytpjkbjpjhkcofaa.Ev
