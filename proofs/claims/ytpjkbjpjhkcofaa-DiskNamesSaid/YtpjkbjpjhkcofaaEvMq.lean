/- EV, part Mq: what the evaluator says of deletions, runs through maps, entries and likeness is so. No program here. -/
import Derived.Test.YtpjkbjpjhkcofaaEvMp
namespace Go.Proofs.Ytpjkbjpjhkcofaa.Ev
open Go Go.RowKit
set_option linter.unusedVariables false
set_option linter.unusedSimpArgs false
section
variable {P : Program} {ρ : Rho} {D : Nat → Prop} {G G' : Nat → Option Blk} {W W' : World} {T : Nat → Prop} {H H' : AH} {R Wr : List Nat} {env : List Value} {a : Act}
theorem delete_sound [Th] {o : Oper} {ats : Array TypeId} {args : Array Operand} {m k : Operand} (ho : o.op = .call { callee := .builtin .delete, args := args, argTypes := ats }) (hargs : args.toList = [m, k]) {t : TypeId} (ht : ats[0]? = some t) {kv mv v : Value} (hk : aeval env k = some kv) (hm : aeval env m = some mv) (h : adelete P H t kv mv = some (v, H', R, Wr)) (he : VRs ρ D env a.tmps.toList) (hp : Pre ρ D G W T H H' R Wr) : OpOk P o a ρ D G W T H H' Wr v := by
  have rk := aeval_sound he hk
  have rm := aeval_sound he hm
  obtain rfl : args = #[m, k] := Array.toList_inj.1 hargs
  unfold adelete at h
  split at h
  · rename_i n
    simp only [Option.bind_eq_bind, Option.bind_eq_some_iff] at h
    obtain ⟨⟨kt, et, kd⟩, ha, ⟨es, ck⟩, hmp, h⟩ := h
    obtain ⟨hu, hu2, hd⟩ := amap_some ha
    split at h
    · rename_i hisk
      simp only [Option.bind_eq_some_iff] at h
      obtain ⟨r, hf, h⟩ := h
      obtain ⟨rfl, hDn⟩ : v = undef ∧ True := by split at h <;> (simp only [Option.some.injEq, Prod.mk.injEq] at h; exact ⟨h.1.symm, trivial⟩)
      have hwr : Wr = [n] := by split at h <;> (simp only [Option.some.injEq, Prod.mk.injEq] at h; exact h.2.2.2.symm)
      subst hwr
      obtain ⟨hoff, hDn, es', hB, hes⟩ := hp.map (.inr (by simp)) hmp
      have hlt := (Array.getElem?_eq_some_iff.1 hB).1
      obtain ⟨em, _⟩ := map_form rm rfl
      have hki := key_form hisk rk
      obtain ⟨r', hrun, hfd⟩ := find_sound (P := P) (W := W) hu2 hd hisk rk hes hf
      have hex : ∀ (o' : Obj), (Builtin.delete_ ats o.type #[.map (some (ρ n).blk), a.eval k]).run P W = .ok (.tuple #[]) (setO W (ρ n).blk o') → (execOp a.eval o).run P W = .ok (.value (.tuple #[])) (setO W (ρ n).blk o') := fun o' hr => by
        unfold execOp
        simp only [ho, resolve, invoke, builtin, Sem.run_bind, Sem.run_pure, Result.andThen_ok, List.map_toArray, List.map_cons, List.map_nil, em, hr]
      rcases hfd with ⟨rfl, rfl⟩ | ⟨j, w, w', e', rfl, rfl, hvv, hj, hkj⟩
      · simp only [Option.some.injEq, Prod.mk.injEq] at h
        obtain ⟨_, rfl, rfl, _⟩ := h
        refine ⟨undef, setO W (ρ n).blk (.map es' ck), .inl (hex _ ?_), post_obj hp (AH.map_some hmp) ?_ (.tuple .nil)⟩
        · simp [Builtin.delete_, ht, run_underlying hu, MapKept.run_getObj_map hB, run_checkKey' hu2 hki, hrun, run_setObj_o _ hB, Result.andThen]
        · exact ⟨hoff, _, setO_self hlt _, hes⟩
      · simp only [Option.some.injEq, Prod.mk.injEq] at h
        obtain ⟨_, rfl, rfl, _⟩ := h
        refine ⟨undef, setO W (ρ n).blk (.map (es'.eraseIdxIfInBounds j) ck), .inl (hex _ ?_), post_obj hp (AH.map_some hmp) ?_ (.tuple .nil)⟩
        · simp [Builtin.delete_, ht, run_underlying hu, MapKept.run_getObj_map hB, run_checkKey' hu2 hki, hrun, run_setObj_o _ hB, Result.andThen]
        · refine ⟨hoff, _, setO_self hlt _, ?_⟩
          rw [erase_toList]
          exact hes.eraseIdx j
    · cases h
  · cases h
theorem rangeMap_sound [Th] {o : Oper} {t kt et : TypeId} {x : Operand} (ho : o.op = .range t x) (hu : P.underlying t = some (.map kt et)) {xv v : Value} (hx : aeval env x = some xv) (h : arangeMap H xv = some (v, H', R, Wr)) (he : VRs ρ D env a.tmps.toList) (hp : Pre ρ D G W T H H' R Wr) : OpOk P o a ρ D G W T H H' Wr v := by
  have rx := aeval_sound he hx
  unfold arangeMap at h
  split at h
  · rename_i n
    simp only [Option.bind_eq_bind, Option.bind_eq_some_iff] at h
    obtain ⟨⟨es, ck⟩, hmp, h⟩ := h
    simp only [Option.some.injEq, Prod.mk.injEq] at h
    obtain ⟨rfl, rfl, rfl, rfl⟩ := h
    obtain ⟨hoff, hDn, es', hB, hes⟩ := hp.map (.inl (by simp)) hmp
    obtain ⟨em, _⟩ := map_form rx rfl
    refine ⟨.pointer (some ⟨W.heap.size, 0, none⟩), W.alloc (.mapIter (some (ρ n).blk) ck #[] ck), .inl ?_, post_newobj hp (fun ρ' ho' hρ => ?_) (fun ρ' _ hρ => ?_)⟩
    · unfold execOp
      simp only [ho, em]
      rw [Sem.run_bind, run_range_map W t kt et _ es' ck hu hB]
      rfl
    · refine ⟨by rw [hρ], .inl hDn, ?_⟩
      rw [hρ, ho' n hDn]
      exact (MapKept.heap_alloc W _).1
    · have := VR.ptr (ρ := ρ') (D := fun i => D i ∨ i = H.next) (b := H.next) (i := 0) (.inr rfl)
      rw [hρ] at this
      exact this
  · cases h
theorem EntR.left [Th] {seen : List Nat} : ∀ {l : List AEnt} {l' : List MapEntry}, EntR ρ D l l' → EntR ρ D (l.filter (fun e => !seen.contains e.born)) (l'.filter (fun e => !seen.contains e.born))
  | _, _, .nil => .nil
  | _, _, .cons (e := e) (e' := e') hk hv hb t => by
    simp only [List.filter_cons, hb]
    split
    · exact .cons hk hv hb (EntR.left t)
    · exact EntR.left t
theorem EntR.hold [Th] {since : Nat} : ∀ {l : List AEnt} {l' : List MapEntry}, EntR ρ D l l' → (∀ e ∈ l, e.born < since) → ∀ e ∈ l', e.born < since
  | _, _, .nil, _, e, h => by cases h
  | _, _, .cons (e := e) (e' := e') hk hv hb t, h, x, hx => by
    rcases List.mem_cons.1 hx with rfl | hx
    · rw [hb]; exact h e (by simp)
    · exact EntR.hold t (fun y hy => h y (by simp [hy])) x hx
theorem left_toList (es : Array MapEntry) (seen : List Nat) : (leftOf es seen.toArray).toList = es.toList.filter (fun e => !seen.contains e.born) := by
  unfold leftOf
  simp
theorem nextMap_sound [Th] {o : Oper} {x : Operand} (ho : o.op = .next x false) {xv v : Value} (hx : aeval env x = some xv) (h : anextMap H xv = some (v, H', R, Wr)) (he : VRs ρ D env a.tmps.toList) (hp : Pre ρ D G W T H H' R Wr) : OpOk P o a ρ D G W T H H' Wr v := by
  have rx := aeval_sound he hx
  unfold anextMap at h
  split at h
  · rename_i n
    obtain ⟨hy, hDn⟩ := ptr_form rx rfl
    split at h
    · rename_i m since seen last hg
      simp only [Option.bind_eq_bind, Option.bind_eq_some_iff] at h
      obtain ⟨⟨es, ck⟩, hmp, h⟩ := h
      split at h
      · rename_i hc
        rw [Bool.and_eq_true] at hc
        have hold : ∀ e ∈ es, e.born < since := fun e hee => by have := List.all_eq_true.1 hc.1 e hee; rwa [Nat.blt_eq] at this
        have hsl : since ≤ last := Nat.le_of_ble_eq_true hc.2
        have hRW : (n ∈ R ∨ n ∈ Wr) ∧ (m ∈ R ∨ m ∈ Wr) := by
          split at h
          · simp only [Option.some.injEq, Prod.mk.injEq] at h
            obtain ⟨_, _, rfl, rfl⟩ := h
            exact ⟨.inl (by simp), .inl (by simp)⟩
          · simp only [Option.some.injEq, Prod.mk.injEq] at h
            obtain ⟨_, _, rfl, rfl⟩ := h
            exact ⟨.inr (by simp), .inl (by simp)⟩
          · cases h
        obtain ⟨hoff, hDm, es', hB, hes⟩ := hp.map hRW.2 hmp
        have hT := hp.tr n hRW.1
        have hG := (hp.g n hRW.1).trans hg
        have hBI := hp.hr.blk n _ hT hG rfl
        obtain ⟨hoff2, _, hI⟩ := hBI
        have hlt := (Array.getElem?_eq_some_iff.1 hI).1
        have hy' : a.eval x = .pointer (some ⟨(ρ n).blk, 0, none⟩) := by rw [hy, hoff2]
        have hrun := run_next_at (P := P) W o.type (ρ n).blk (ρ m).blk since last seen.toArray es' ck hI hB (hes.hold hold) hsl
        have hl := hes.left (seen := seen)
        rw [← left_toList] at hl
        have hex : ∀ (q : Value) (W2 : World), (Instr.next (.pointer (some ⟨(ρ n).blk, 0, none⟩)) false o.type).run P W = .ok q W2 → (execOp a.eval o).run P W = .ok (.value q) W2 := fun q W2 hr => by
          unfold execOp
          simp only [ho, hy']
          rw [Sem.run_bind, hr]
          rfl
        split at h
        · rename_i hfl
          rw [hfl] at hl
          simp only [Option.some.injEq, Prod.mk.injEq] at h
          obtain ⟨rfl, rfl, rfl, rfl⟩ := h
          rcases hrun with ⟨_, hr⟩ | ⟨e', he', _⟩
          · exact ⟨_, W, .inl (hex _ _ hr), post_same hp.hr (.tuple (l := [.bool false]) (.cons (.flat rfl) .nil))⟩
          · exfalso
            generalize (leftOf es' seen.toArray).toList = L at hl he'
            cases hl
            cases he'
        · rename_i e hfl
          rw [hfl] at hl
          simp only [Option.some.injEq, Prod.mk.injEq] at h
          obtain ⟨rfl, rfl, rfl, rfl⟩ := h
          rcases hrun with ⟨hsz, _⟩ | ⟨e', he', w1, hw1, hr⟩
          · exfalso
            have : (leftOf es' seen.toArray).toList.length = 0 := by simpa using hsz
            rw [hl.length] at this
            simp at this
          · have hform : ∃ hk : VR ρ D e.key e'.key, VR ρ D e.val e'.val ∧ e'.born = e.born := by
              generalize (leftOf es' seen.toArray).toList = L at hl he'
              cases hl with
              | cons hk hv hb t =>
                cases t
                simp at he'
                subst he'
                exact ⟨hk, hv, hb⟩
            obtain ⟨hk, hv, hb⟩ := hform
            have hheap : w1.heap = W.heap := by rcases hw1 with rfl | rfl <;> rfl
            have hbelow : Below 0 W w1 := by rcases hw1 with rfl | rfl <;> exact ⟨rfl, rfl, rfl, Nat.le_refl _, fun k hk => by omega⟩
            have hset : ChangeMaps.setBlock w1 (ρ n).blk (.mapIter (some (ρ m).blk) since (seen.toArray.push e'.born) ck) = setO w1 (ρ n).blk (.mapIter (some (ρ m).blk) since (seen.toArray.push e'.born) ck) := rfl
            rw [hset] at hr
            refine ⟨_, _, .inl (hex _ _ hr), ?_⟩
            have hp1 : Pre ρ D G w1 T H (H.put n ⟨.miter m since (seen ++ [e.born]) ck, true, none⟩) [m] [n] := ⟨hp.hr.heap hheap, hp.tr, hp.g, hp.fresh⟩
            obtain ⟨ρ', q1, q2, q3, q4⟩ := post_obj (o' := .mapIter (some (ρ m).blk) since (seen.toArray.push e'.born) ck) (v := .tuple #[.bool true, e.key, e.val]) (v' := .tuple #[.bool true, e'.key, e'.val]) hp1 hg ⟨hoff2, hDm, by
              rw [setO_self (by rw [hheap]; exact hlt)]
              simp [hb]⟩ (.tuple (l := [.bool true, e.key, e.val]) (l' := [.bool true, e'.key, e'.val]) (.cons (.flat rfl) (.cons hk (.cons hv .nil))))
            exact ⟨ρ', q1, q2, q3, below0_trans hbelow q4⟩
        · cases h
      · cases h
    · cases h
  · cases h
theorem EntR.find [Th] {b : Nat} : ∀ {l : List AEnt} {l' : List MapEntry} {e : AEnt}, EntR ρ D l l' → l.find? (fun e => e.born == b) = some e → ∃ e', l'.find? (fun e => e.born == b) = some e' ∧ VR ρ D e.key e'.key ∧ VR ρ D e.val e'.val
  | _, _, _, .nil, h => by simp at h
  | _, _, e, .cons (e := x) (e' := x') hk hv hb t, h => by
    simp only [List.find?_cons, hb] at h ⊢
    split at h
    · rename_i hq
      simp only [Option.some.injEq] at h
      subst h
      exact ⟨x', rfl, hk, hv⟩
    · exact EntR.find t h
theorem entry_sound [Th] {o : Oper} {x : Operand} (ho : o.op = .entry x) {xv v : Value} (hx : aeval env x = some xv) (h : aentry H xv = some (v, H', R, Wr)) (he : VRs ρ D env a.tmps.toList) (hp : Pre ρ D G W T H H' R Wr) : OpOk P o a ρ D G W T H H' Wr v := by
  have rx := aeval_sound he hx
  unfold aentry at h
  split at h
  · rename_i n
    obtain ⟨hy, hDn⟩ := ptr_form rx rfl
    split at h
    · rename_i m since seen last hg
      simp only [Option.bind_eq_bind, Option.bind_eq_some_iff] at h
      obtain ⟨⟨es, ck⟩, hmp, b, hb, e, hf, h⟩ := h
      split at h
      · rename_i hc
        subst hc
        simp only [Option.some.injEq, Prod.mk.injEq] at h
        obtain ⟨rfl, rfl, rfl, rfl⟩ := h
        obtain ⟨hoff, hDm, es', hB, hes⟩ := hp.map (.inl (by simp)) hmp
        have hT := hp.tr n (.inl (by simp))
        have hG := (hp.g n (.inl (by simp))).trans hg
        obtain ⟨hoff2, _, hI⟩ := hp.hr.blk n _ hT hG rfl
        have hy' : a.eval x = .pointer (some ⟨(ρ n).blk, 0, none⟩) := by rw [hy, hoff2]
        obtain ⟨e', hf', hk, hv⟩ := hes.find hf
        have hback : seen.toArray.back? = some b := by simpa using hb
        have hf2 : es'.find? (fun e => e.born == b) = some e' := by rw [← Array.find?_toList]; exact hf'
        refine ⟨.tuple #[e'.key, e'.val], W, .inl ?_, post_same hp.hr (.tuple (l := [e.key, e.val]) (l' := [e'.key, e'.val]) (.cons hk (.cons hv .nil)))⟩
        unfold execOp
        simp only [ho, hy']
        have : (Instr.entry (.pointer (some ⟨(ρ n).blk, 0, none⟩))).run P W = .ok (.tuple #[e'.key, e'.val]) W := by
          simp only [Instr.entry, getObj, Sem.run_bind, Sem.run, hI, hB, Result.andThen, hback, bne_self_eq_false, Bool.false_eq_true, if_false, hf2]
          rfl
        rw [Sem.run_bind, this]
        rfl
      · cases h
    · cases h
  · cases h
theorem eqRun {o : Oper} {op : BinOp} {t yt : TypeId} {x y : Operand} (ho : o.op = .binOp op t x y yt) {q b : Bool} (hop : op = .eql ∧ b = q ∨ op = .neq ∧ b = !q) {u v : Value} (hu : a.eval x = u) (hv : a.eval y = v) (hg : ((eqGuard op t x y u v).run P W = .ok () W)) (heq : (Op.equal t u v).run P W = .ok q W)
    (hb : binOp .eql t u v = (do let r ← Op.equal t u v; pure (.bool r)) ∧ binOp .neq t u v = (do let r ← Op.equal t u v; pure (.bool (!r)))) : (execOp a.eval o).run P W = .ok (.value (.bool b)) W := by
  unfold execOp
  simp only [ho, hu, hv]
  rw [Sem.run_bind, Sem.run_bind, hg]
  simp only [Result.andThen_ok]
  rcases hop with ⟨rfl, rfl⟩ | ⟨rfl, rfl⟩
  · rw [hb.1, Sem.run_bind]; simp [heq]
  · rw [hb.2, Sem.run_bind]; simp [heq]
theorem eqPtr_sound [Th] {o : Oper} {op : BinOp} {t yt te : TypeId} {x y : Operand} (ho : o.op = .binOp op t x y yt) {b : Bool} (hop : op = .eql ∧ b = true ∨ op = .neq ∧ b = false) {n i : Nat} (hx : aeval env x = some (.pointer (some ⟨n, i, none⟩))) (hy : aeval env y = some (.pointer (some ⟨n, i, none⟩))) (hu : P.underlying t = some (.pointer te)) (hi : (P.info? te).isSome = true) (he : VRs ρ D env a.tmps.toList) (hp : Pre ρ D G W T H H [] []) :
    OpOk P o a ρ D G W T H H [] (.bool b) := by
  obtain ⟨hx', _⟩ := ptr_form (aeval_sound he hx) rfl
  obtain ⟨hy', _⟩ := ptr_form (aeval_sound he hy) rfl
  obtain ⟨j, hj⟩ := Option.isSome_iff_exists.1 hi
  refine ⟨.bool b, W, .inl (eqRun ho (q := true) hop hx' hy' ?_ ?_ ⟨rfl, rfl⟩), post_same hp.hr (.flat rfl)⟩
  · unfold eqGuard; rcases hop with ⟨rfl, _⟩ | ⟨rfl, _⟩ <;> rfl
  · have h : ∀ (p : Addr) (d : Nat), (Op.equalIn (d + 1) t (.pointer (some p)) (.pointer (some p))).run P W = .ok true W := fun p d => by
      simp [Op.equalIn, run_underlying hu, sizeOf, typeInfo, hj, run_sameAddr_same]
    exact h _ 9999
theorem eqMap_sound [Th] {o : Oper} {op : BinOp} {t yt k e : TypeId} {x y : Operand} (ho : o.op = .binOp op t x y yt) {b : Bool} (hop : op = .eql ∧ b = false ∨ op = .neq ∧ b = true) {n : Nat} (hx : aeval env x = some (.map (some n))) (hy : aeval env y = some (.map none)) (hu : P.underlying t = some (.map k e)) (he : VRs ρ D env a.tmps.toList) (hp : Pre ρ D G W T H H [] []) :
    OpOk P o a ρ D G W T H H [] (.bool b) := by
  obtain ⟨hx', _⟩ := map_form (aeval_sound he hx) rfl
  have hy' := VR.flat_eq (aeval_sound he hy) rfl
  refine ⟨.bool b, W, .inl (eqRun ho (q := false) hop hx' hy' ?_ ?_ ⟨rfl, rfl⟩), post_same hp.hr (.flat rfl)⟩
  · unfold eqGuard; rcases hop with ⟨rfl, _⟩ | ⟨rfl, _⟩ <;> rfl
  · exact run_equal_map_nil W t k e (some (ρ n).blk) hu
end
end Go.Proofs.Ytpjkbjpjhkcofaa.Ev
