/- EV, part K: what the evaluator says of an operation is so, whichever it is. No program here. -/
import Derived.Test.YtpjkbjpjhkcofaaEvMq
namespace Go.Proofs.Ytpjkbjpjhkcofaa.Ev
open Go Go.RowKit
set_option linter.unusedVariables false
set_option linter.unusedSimpArgs false
section
variable {P : Program} {ρ : Rho} {D : Nat → Prop} {G G' : Nat → Option Blk} {W W' : World} {T : Nat → Prop} {H H' : AH} {R Wr : List Nat} {env : List Value} {a : Act}
theorem range_sound [Th] {o : Oper} {t : TypeId} {x : Operand} (ho : o.op = .range t x) {s : ByteArray} (hu : P.underlying t = some .string) (hx : aeval env x = some (.string s)) (he : VRs ρ D env a.tmps.toList) (hp : Pre ρ D G W T H (H.new ⟨.iter s 0, true, none⟩) [] []) :
    OpOk P o a ρ D G W T H (H.new ⟨.iter s 0, true, none⟩) [] (.pointer (some ⟨H.next, 0, none⟩)) := by
  have e1 := VR.flat_eq (aeval_sound he hx) rfl
  have hn : ¬ D H.next := hp.fresh _ (Nat.le_refl _) (Nat.lt_succ_self _)
  have hD : ∀ E : Nat → Prop, Dn E H (H.new ⟨.iter s 0, true, none⟩) = fun id => E id ∨ id = H.next := fun E => by
    funext id
    simp only [Dn, AH.new]
    exact propext ⟨fun h => h.imp_right (fun h => by omega), fun h => h.imp_right (fun h => by omega)⟩
  refine ⟨.pointer (some ⟨W.heap.size, 0, none⟩), W.alloc (.stringIter s 0), .inl ?_, fun i => if i = H.next then ⟨W.heap.size, 0, 0, 0⟩ else ρ i, fun id hid => if_neg (fun e : id = H.next => hn (by rw [← e]; exact hid)), ?_, ?_, below0_alloc W _⟩
  · unfold execOp
    simp only [ho, e1]
    have : (Instr.range t (.string s)).run P W = .ok (.pointer (some ⟨W.heap.size, 0, none⟩)) (W.alloc (.stringIter s 0)) := by
      unfold Instr.range
      simp only [Sem.run_bind, underlying_of hu, Result.andThen_ok, Sem.run_pure]
      rfl
    rw [Sem.run_bind, this]
    rfl
  · rw [hD]
    have := VR.ptr (ρ := fun i => if i = H.next then (⟨W.heap.size, 0, 0, 0⟩ : Loca) else ρ i) (D := fun id => D id ∨ id = H.next) (b := H.next) (i := 0) (.inr rfl)
    simpa using this
  · rw [hD, hD]
    refine hp.hr.alloc hn (o := .stringIter s 0) (b := ⟨.iter s 0, true, none⟩) (ob := .iter s 0) rfl ?_ (fun i hi => ?_) ?_
    · unfold Gn; rw [if_pos (.inr ⟨Nat.le_refl _, by simp [AH.new]⟩), AH.get_new, if_pos rfl]
    · unfold Gn
      rw [if_neg]
      rintro (h | ⟨h1, h2⟩)
      · simp at h
      · simp only [AH.new] at h2; omega
    · unfold BlkR
      simp only [if_true]
      refine ⟨trivial, ?_⟩
      show (W.heap.push _)[W.heap.size]? = _
      simp
theorem next_sound [Th] {o : Oper} {x : Operand} (ho : o.op = .next x true) {n : Nat} {s : ByteArray} {pos : Nat} (hx : aeval env x = some (.pointer (some ⟨n, 0, none⟩))) (hg : H.get n = some ⟨.iter s pos, true, none⟩) (he : VRs ρ D env a.tmps.toList) {v : Value}
    (h : (if pos < s.size then some (Value.tuple #[.bool true, .int .i64 pos, .int .i32 (Utf8.decode s pos).1], H.put n ⟨.iter s (pos + (Utf8.decode s pos).2), true, none⟩, ([] : List Nat), [n]) else some (Value.tuple #[.bool false], H, [n], [])) = some (v, H', R, Wr)) (hp : Pre ρ D G W T H H' R Wr) : OpOk P o a ρ D G W T H H' Wr v := by
  obtain ⟨hy, hDn⟩ := ptr_form (aeval_sound he hx) rfl
  have h0 : (ρ n).off = 0 := by
    have key : n ∈ R ∨ n ∈ Wr := by
      split at h <;> (simp only [Option.some.injEq, Prod.mk.injEq] at h; obtain ⟨_, _, rfl, rfl⟩ := h; simp)
    exact (hp.hr.blk n _ (hp.tr n key) ((hp.g n key).trans hg) rfl).1
  · rw [h0] at hy
    split at h
    · rename_i hlt
      simp only [Option.some.injEq, Prod.mk.injEq] at h
      obtain ⟨rfl, rfl, rfl, rfl⟩ := h
      have hT := hp.tr n (.inr (by simp))
      have hG := (hp.g n (.inr (by simp))).trans hg
      have hB : W.heap[(ρ n).blk]? = some (.stringIter s pos) := (hp.hr.blk n _ hT hG rfl).2
      have hlt2 := (Array.getElem?_eq_some_iff.1 hB).1
      refine ⟨.tuple #[.bool true, .int .i64 pos, .int .i32 (Utf8.decode s pos).1], { W with heap := W.heap.setIfInBounds (ρ n).blk (.stringIter s (pos + (Utf8.decode s pos).2)) }, .inl ?_, ρ, fun _ _ => rfl, ?_, ?_, ?_⟩
      · unfold execOp
        simp only [ho, hy, Nat.add_zero]
        have : (Instr.next (.pointer (some ⟨(ρ n).blk, 0, none⟩)) true o.type).run P W = .ok (.tuple #[.bool true, .int .i64 pos, .int .i32 (Utf8.decode s pos).1]) { W with heap := W.heap.setIfInBounds (ρ n).blk (.stringIter s (pos + (Utf8.decode s pos).2)) } := by
          unfold Instr.next
          simp only [Sem.run_bind]
          simp [getObj, Sem.run, hB, hlt, setObj, goInt]
        rw [Sem.run_bind, this]
        rfl
      · exact .tuple (l := [.bool true, .int .i64 pos, .int .i32 (Utf8.decode s pos).1]) (.cons (.flat rfl) (.cons (.flat rfl) (.cons (.flat rfl) .nil)))
      · have hD : ∀ E : Nat → Prop, Dn E H (H.put n ⟨.iter s (pos + (Utf8.decode s pos).2), true, none⟩) = E := fun E => by funext id; simp [Dn, AH.put]; omega
        rw [hD, hD]
        have g1 : Gn G H (H.put n ⟨.iter s (pos + (Utf8.decode s pos).2), true, none⟩) [n] n = some ⟨.iter s (pos + (Utf8.decode s pos).2), true, none⟩ := by
          unfold Gn; rw [if_pos (.inl (by simp)), AH.get_put, if_pos rfl]
        have g2 : ∀ j, j ≠ n → Gn G H (H.put n ⟨.iter s (pos + (Utf8.decode s pos).2), true, none⟩) [n] j = G j := fun j hj => by
          unfold Gn; rw [if_neg]; rintro (h | ⟨h1, h2⟩)
          · simp at h; exact hj h
          · simp [AH.put] at h2; omega
        refine ⟨hp.hr.dom, fun id b hid hb hl => ?_, fun i j b c hi hj hij hbi hcj hl1 hl2 hs => ?_⟩
        · by_cases e : id = n
          · subst e
            rw [g1] at hb
            cases hb
            refine ⟨h0, ?_⟩
            show (W.heap.setIfInBounds (ρ id).blk _)[(ρ id).blk]? = _
            rw [Array.getElem?_setIfInBounds_self_of_lt hlt2]
          · rw [g2 id e] at hb
            have h1 := hp.hr.blk id b hid hb hl
            have hd := hp.hr.dist id n b _ hid hT e hb hG hl rfl (fun hh => by cases hh.2)
            refine h1.same (fun _ _ => rfl) rfl (fun _ h => h) (by simp) ?_
            show (W.heap.setIfInBounds (ρ n).blk _)[(ρ id).blk]? = _
            rw [Array.getElem?_setIfInBounds_ne (fun e => hd e.symm)]
        · by_cases e1 : i = n
          · subst e1
            rw [g2 j (fun e => hij e.symm)] at hcj
            exact hp.hr.dist i j _ c hi hj hij hG hcj rfl hl2 (fun hh => by cases hh.1)
          · rw [g2 i e1] at hbi
            by_cases e2 : j = n
            · subst e2
              exact hp.hr.dist i j b _ hi hj hij hbi hG hl1 rfl (fun hh => by cases hh.2)
            · rw [g2 j e2] at hcj
              exact hp.hr.dist i j b c hi hj hij hbi hcj hl1 hl2 hs
      · exact ⟨rfl, rfl, rfl, by simp, fun k hk => by omega⟩
    · rename_i hlt
      simp only [Option.some.injEq, Prod.mk.injEq] at h
      obtain ⟨rfl, rfl, rfl, rfl⟩ := h
      have hT := hp.tr n (.inl (by simp))
      have hG := (hp.g n (.inl (by simp))).trans hg
      have hB : W.heap[(ρ n).blk]? = some (.stringIter s pos) := (hp.hr.blk n _ hT hG rfl).2
      refine ⟨.tuple #[.bool false], W, .inl ?_, post_same hp.hr (.tuple (l := [.bool false]) (.cons (.flat rfl) .nil))⟩
      unfold execOp
      simp only [ho, hy, Nat.add_zero]
      have : (Instr.next (.pointer (some ⟨(ρ n).blk, 0, none⟩)) true o.type).run P W = .ok (.tuple #[.bool false]) W := by
        unfold Instr.next
        simp only [Sem.run_bind]
        simp [getObj, Sem.run, hB, hlt]
      rw [Sem.run_bind, this]
      rfl
/-- What is said of calls. -/
def CallOk [Th] (P : Program) (call : CallF) : Prop := ∀ (f : FuncId) (args : List Value) (H : AH) (v : Value) (H' : AH) (R Wr : List Nat), call f args H = some (v, H', R, Wr) →
  ∀ (ρ : Rho) (D : Nat → Prop) (G : Nat → Option Blk) (W : World) (T : Nat → Prop) (args' : Array Value), VRs ρ D args args'.toList → Pre ρ D G W T H H' R Wr →
    Calls P f args' W fun e W' => ∃ v', e = .returned v' ∧ Post ρ D G W T H H' Wr v v' W'
/-- What is said of one function that is told, not run. -/
def ToldOk [Th] (P : Program) (f : FuncId) (told : AH → List Value → Option Res) : Prop := ∀ (fn : Func), P.funcs[f]? = some fn → ∀ (args : List Value) (H : AH) (v : Value) (H' : AH) (R Wr : List Nat), told H args = some (v, H', R, Wr) →
  ∀ (ρ : Rho) (D : Nat → Prop) (G : Nat → Option Blk) (W : World) (T : Nat → Prop) (args' : Array Value), VRs ρ D args args'.toList → Pre ρ D G W T H H' R Wr →
    Calls P f args' W fun e W' => ∃ v', e = .returned v' ∧ Post ρ D G W T H H' Wr v v' W'
/-- What a letter stands for. -/
def inst [Th] : Value → Value
  | .chan (some i) => Th.th i
  | v => v
theorem veq_inst [Th] {u v u' : Value} (h : veq u v = true) (hr : VR ρ D v u') : u' = inst u := by
  unfold veq at h
  split at h
  · rename_i i j
    obtain rfl := Nat.eq_of_beq_eq_true h
    cases hr with
    | flat hf => simp [Ev.flat] at hf
    | hole => rfl
  · rename_i k n k' m
    rw [Bool.and_eq_true, decide_eq_true_eq, decide_eq_true_eq] at h
    obtain ⟨rfl, rfl⟩ := h
    rw [VR.flat_eq hr rfl]; rfl
  · cases h
theorem vok_inst [Th] {v : Value} (h : vok v = true) : VR ρ D v (inst v) := by
  unfold vok at h
  split at h
  · exact .hole
  · rename_i hn
    have : inst v = v := by unfold inst; split <;> first | rfl | exact absurd rfl (hn _)
    rw [this]; exact .flat h
theorem orTell_some {r : Option Res} {t : Option Value} {H : AH} {res : Res} (h : orTell r t H = some res) : r = some res ∨ ∃ v, t = some v ∧ res = (v, H, [], []) := by
  unfold orTell at h
  split at h
  · exact .inl h
  · obtain ⟨v, hv, e⟩ := Option.map_eq_some_iff.1 h
    exact .inr ⟨v, hv, e.symm⟩
theorem tellConv_some {src dst : TypeId} {x v : Value} : ∀ {l : List TConv}, tellConv l src dst x = some v → ∃ e ∈ l, e.src = src ∧ e.dst = dst ∧ veq e.x x = true ∧ vok e.v = true ∧ v = e.v
  | [], h => by cases h
  | e :: l, h => by
    unfold tellConv at h
    split at h
    · rename_i hc
      simp only [Bool.and_eq_true] at hc
      simp only [Option.some.injEq] at h
      exact ⟨e, by simp, Nat.eq_of_beq_eq_true hc.1, Nat.eq_of_beq_eq_true hc.2.1, hc.2.2.1, hc.2.2.2, h.symm⟩
    · obtain ⟨e', he', h'⟩ := tellConv_some h
      exact ⟨e', by simp [he'], h'⟩
theorem tellBin_some {op : BinOp} {t : TypeId} {x y v : Value} : ∀ {l : List TBin}, tellBin l op t x y = some v → ∃ e ∈ l, e.op = op ∧ e.t = t ∧ veq e.x x = true ∧ veq e.y y = true ∧ vok e.v = true ∧ v = e.v
  | [], h => by cases h
  | e :: l, h => by
    unfold tellBin at h
    split at h
    · rename_i hc
      simp only [Bool.and_eq_true, decide_eq_true_eq] at hc
      simp only [Option.some.injEq] at h
      exact ⟨e, by simp, hc.1, Nat.eq_of_beq_eq_true hc.2.1, hc.2.2.1, hc.2.2.2.1, hc.2.2.2.2, h.symm⟩
    · obtain ⟨e', he', h'⟩ := tellBin_some h
      exact ⟨e', by simp [he'], h'⟩
/-- The comparison of bytes that has no body; what is told. -/
structure CmpOk [Th] (P : Program) (xc : XC) : Prop where
  ok : ∀ fn, P.funcs[xc.cmp]? = some fn → (fn.name == "runtime.NumGoroutine") = false ∧ fn.body.isNone = true ∧ Extern.findNext fn = none ∧ Extern.find fn = some Extern.BytealgCompare.compare
  sorted : ToldOk P xc.sorted (asorted xc)
  clone : ToldOk P xc.clone aclone
  convs : ∀ e ∈ xc.convs, ∀ W, (convert e.src e.dst (inst e.x)).run P W = .ok (inst e.v) W
  bins : ∀ e ∈ xc.bins, ∀ (x y : Operand) W, (eqGuard e.op e.t x y (inst e.x) (inst e.y)).run P W = .ok () W ∧ (binOp e.op e.t (inst e.x) (inst e.y)).run P W = .ok (inst e.v) W
theorem callee_form [Th] {v v' : Value} {args args' : List Value} {g : FuncId} {l : List Value} (h : acallee v args = some (g, l)) (hv : VR ρ D v v') (ha : VRs ρ D args args') : ∃ p q : List Value, v' = .func (.func g) ⟨p⟩ ⟨q⟩ ∧ VRs ρ D l (p ++ args' ++ q) := by
  unfold acallee at h
  split at h
  · rename_i f first captured
    simp only [Option.some.injEq, Prod.mk.injEq] at h
    obtain ⟨rfl, rfl⟩ := h
    cases hv with
    | flat hf => simp [Ev.flat] at hf
    | func h1 h2 => exact ⟨_, _, rfl, (h1.append ha).append h2⟩
  · cases h
theorem len_slice_sound' [Th] {o : Oper} {x : Operand} {args : Array Operand} {ats : Array TypeId} (ho : o.op = .call { callee := .builtin .len, args := args, argTypes := ats }) (hh : args.toList.head? = some x) {t e : TypeId} {s : Option Addr} {n c : Nat} (ht : ats[0]? = some t) (hu : P.underlying t = some (.slice e)) (hx : aeval env x = some (.slice s n c)) (he : VRs ρ D env a.tmps.toList) (hp : Pre ρ D G W T H H [] []) :
    OpOk P o a ρ D G W T H H [] (.int .i64 n) := by
  have hr := aeval_sound he hx
  have hform : ∃ s' c', a.eval x = .slice s' n c' := by
    generalize a.eval x = y at hr
    cases hr with
    | flat hf => exact ⟨_, _, rfl⟩
    | empty hD => exact ⟨_, _, rfl⟩
    | slice q1 q2 q3 q4 => exact ⟨_, _, rfl⟩
  obtain ⟨s', c', hy⟩ := hform
  refine ⟨.int .i64 n, W, .inl ?_, post_same hp.hr (.flat rfl)⟩
  have h0 : args[0]? = some x := by rw [← hh]; simp [List.head?_eq_getElem?]
  unfold execOp
  simp [ho, resolve, invoke, builtin, Builtin.len_, ht, h0, hy, run_underlying hu, goInt]
theorem len_array_sound' [Th] {o : Oper} {x : Operand} {args : Array Operand} {ats : Array TypeId} (ho : o.op = .call { callee := .builtin .len, args := args, argTypes := ats }) (hh : args.toList.head? = some x) {t e : TypeId} {n : Nat} (ht : ats[0]? = some t) (hu : P.underlying t = some (.array n e)) (hp : Pre ρ D G W T H H [] []) :
    OpOk P o a ρ D G W T H H [] (.int .i64 n) := by
  refine ⟨.int .i64 n, W, .inl ?_, post_same hp.hr (.flat rfl)⟩
  have h0 : args[0]? = some x := by rw [← hh]; simp [List.head?_eq_getElem?]
  unfold execOp
  simp [ho, resolve, invoke, builtin, Builtin.len_, ht, h0, run_underlying hu, goInt]
theorem aop_sound [Th] {xc : XC} {call : CallF} (hcall : CallOk P call) (hcmp : CmpOk P xc) {o : Oper} {v : Value} (h : aop P xc call env o H = some (v, H', R, Wr)) (he : VRs ρ D env a.tmps.toList) (hp : Pre ρ D G W T H H' R Wr) {K : Act → World → Prop} {Q : Exit → Act → World → Prop}
    (hK : ∀ v' W', Post ρ D G W T H H' Wr v v' W' → K (a.put o.dst v') W') : Oper.wp P o a W K Q := by
  have fin : OpOk P o a ρ D G W T H H' Wr v → Oper.wp P o a W K Q := fun ⟨v', W', hr, hpost⟩ => wp_of_runs hr (hK v' W' hpost)
  have ok_eq : ∀ {u : Value}, some (u, H, ([] : List Nat), ([] : List Nat)) = some (v, H', R, Wr) → u = v ∧ H = H' ∧ [] = R ∧ [] = Wr := fun h => by
    simp only [Option.some.injEq, Prod.mk.injEq] at h; exact h
  unfold aop at h
  cases hop : o.op <;> simp only [hop] at h
  case move x =>
    simp only [Option.bind_eq_bind, Option.bind_eq_some_iff] at h
    obtain ⟨u, hu, h⟩ := h
    obtain ⟨rfl, rfl, rfl, rfl⟩ := ok_eq h
    exact fin (move_sound (.inl hop) hu he hp)
  case assign x =>
    simp only [Option.bind_eq_bind, Option.bind_eq_some_iff] at h
    obtain ⟨u, hu, h⟩ := h
    obtain ⟨rfl, rfl, rfl, rfl⟩ := ok_eq h
    exact fin (move_sound (.inr hop) hu he hp)
  case pick c x y =>
    simp only [Option.bind_eq_bind, Option.bind_eq_some_iff] at h
    obtain ⟨u, hu, h⟩ := h
    split at h
    · simp only [Option.bind_eq_some_iff] at h
      obtain ⟨w, hw, h⟩ := h
      obtain ⟨rfl, rfl, rfl, rfl⟩ := ok_eq h
      exact fin (pick_sound hop (b := true) hu hw he hp)
    · simp only [Option.bind_eq_some_iff] at h
      obtain ⟨w, hw, h⟩ := h
      obtain ⟨rfl, rfl, rfl, rfl⟩ := ok_eq h
      exact fin (pick_sound hop (b := false) hu hw he hp)
    · cases h
  case alloc t =>
    simp only [Option.bind_eq_bind, Option.bind_eq_some_iff] at h
    obtain ⟨z, hz, h⟩ := h
    split at h
    · rename_i hc
      simp only [anew, Option.some.injEq, Prod.mk.injEq] at h
      obtain ⟨rfl, rfl, rfl, rfl⟩ := h
      exact fin (alloc_sound hop hz hc hp)
    · cases h
  case box t x =>
    simp only [Option.bind_eq_bind, Option.bind_eq_some_iff] at h
    obtain ⟨u, hu, h⟩ := h
    split at h
    · rename_i hc
      simp only [anew, Option.some.injEq, Prod.mk.injEq] at h
      obtain ⟨rfl, rfl, rfl, rfl⟩ := h
      exact fin (box_sound hop hu hc he hp)
    · cases h
  case build t parts =>
    simp only [Option.bind_eq_bind, Option.bind_eq_some_iff] at h
    obtain ⟨z, hz, ps, hps, h⟩ := h
    split at h
    · rename_i hc
      split at h
      · rename_i fs hu
        simp only [Option.bind_eq_some_iff] at h
        obtain ⟨ns, hns, cs, hcs, h⟩ := h
        obtain ⟨rfl, rfl, rfl, rfl⟩ := ok_eq h
        exact fin (build_struct_sound hop hz hc hu hps hns hcs he hp)
      · rename_i n e hu
        simp only [Option.bind_eq_some_iff] at h
        obtain ⟨sz, hsz, cs, hcs, h⟩ := h
        obtain ⟨rfl, rfl, rfl, rfl⟩ := ok_eq h
        exact fin (build_array_sound hop hz hc hu hps hsz hcs he hp)
      · cases h
    · cases h
  case buildSlice t len parts =>
    simp only [Option.bind_eq_bind, Option.bind_eq_some_iff] at h
    obtain ⟨e, hel, sz, hsz, z, hz, ps, hps, h⟩ := h
    split at h
    · rename_i hc
      simp only [Option.bind_eq_some_iff] at h
      obtain ⟨cs, hcs, h⟩ := h
      split at h
      · simp only [Option.some.injEq, Prod.mk.injEq] at h
        obtain ⟨rfl, rfl, rfl, rfl⟩ := h
        exact fin (buildSlice_sound hop (aelem_some hel) hsz hz hps hc.1 hc.2.1 hc.2.2 hcs he hp)
      · cases h
    · cases h
  case load t x =>
    simp only [Option.bind_eq_bind, Option.bind_eq_some_iff] at h
    obtain ⟨u, hu, h⟩ := h
    exact fin (load_op_sound hop hu h he hp)
  case store t x y =>
    simp only [Option.bind_eq_bind, Option.bind_eq_some_iff] at h
    obtain ⟨u, hu, w, hw, h⟩ := h
    exact fin (store_sound hop hu hw h he hp)
  case nilCheck x =>
    simp only [Option.bind_eq_bind, Option.bind_eq_some_iff] at h
    obtain ⟨u, hu, h⟩ := h
    split at h
    · obtain ⟨rfl, rfl, rfl, rfl⟩ := ok_eq h
      exact fin (nilCheck_sound hop hu (.inl ⟨_, rfl⟩) he hp)
    · obtain ⟨rfl, rfl, rfl, rfl⟩ := ok_eq h
      exact fin (nilCheck_sound hop hu (.inr ⟨_, _, _, rfl⟩) he hp)
    · cases h
  case extract x i =>
    simp only [Option.bind_eq_bind, Option.bind_eq_some_iff] at h
    obtain ⟨u, hu, h⟩ := h
    split at h
    · simp only [Option.bind_eq_some_iff] at h
      obtain ⟨w, hw, h⟩ := h
      obtain ⟨rfl, rfl, rfl, rfl⟩ := ok_eq h
      exact fin (extract_sound hop hu hw he hp)
    · cases h
  case makeFunc fn first captured =>
    cases fn
    case func f =>
      simp only [Option.bind_eq_bind, Option.bind_eq_some_iff] at h
      obtain ⟨p, hpp, q, hq, h⟩ := h
      obtain ⟨rfl, rfl, rfl, rfl⟩ := ok_eq h
      exact fin (makeFunc_sound hop hpp hq he hp)
    all_goals cases h
  case fieldAddr s x f =>
    simp only [Option.bind_eq_bind, Option.bind_eq_some_iff] at h
    obtain ⟨fs, hfs, fd, hfd, sz, hsz, u, hu, h⟩ := h
    split at h
    · split at h
      · rename_i h0
        obtain ⟨rfl, rfl, rfl, rfl⟩ := ok_eq h
        exact fin (fieldAddr_sound hop (afields_some hfs) hfd hsz hu h0 he hp)
      · cases h
    · cases h
  case indexAddr t x ix =>
    simp only [Option.bind_eq_bind, Option.bind_eq_some_iff] at h
    obtain ⟨iv, hiv, i, hi, u, hu, h⟩ := h
    split at h
    · rename_i hut
      simp only [Option.bind_eq_some_iff] at h
      obtain ⟨sz, hsz, h⟩ := h
      split at h
      · rename_i hlt
        obtain ⟨rfl, rfl, rfl, rfl⟩ := ok_eq h
        exact fin (indexAddr_slice_sound hop hut hiv hi hu hsz hlt he hp)
      · cases h
    · rename_i hut
      simp only [Option.bind_eq_some_iff] at h
      obtain ⟨sz, hsz, h⟩ := h
      split at h
      · rename_i hlt
        obtain ⟨rfl, rfl, rfl, rfl⟩ := ok_eq h
        exact fin (indexAddr_array_sound hop hut hiv hi hu hsz hlt he hp)
      · cases h
    · cases h
  case index t x ix =>
    simp only [Option.bind_eq_bind, Option.bind_eq_some_iff] at h
    obtain ⟨u, hu, h⟩ := h
    split at h
    · rename_i hut
      simp only [Option.bind_eq_some_iff] at h
      obtain ⟨iv, hiv, i, hi, sz, hsz, h⟩ := h
      split at h
      · rename_i hlt
        simp only [Option.bind_eq_some_iff] at h
        obtain ⟨b, hb, h⟩ := h
        cases b with
        | true =>
          simp only [if_true] at h
          obtain ⟨rfl, rfl, rfl, rfl⟩ := ok_eq h
          exact fin (index_array_sound hop hut hiv hi hu hsz hb hlt rfl he hp)
        | false =>
          simp only [Bool.false_eq_true, if_false, Option.bind_eq_some_iff] at h
          obtain ⟨w, hw, h⟩ := h
          obtain ⟨rfl, rfl, rfl, rfl⟩ := ok_eq h
          exact fin (index_array_sound hop hut hiv hi hu hsz hb hlt hw he hp)
      · cases h
    · exact fin (agen_sound h he hp)
  case field t x f =>
    simp only [Option.bind_eq_bind, Option.bind_eq_some_iff] at h
    obtain ⟨fs, hfs, fd, hfd, sz, hsz, u, hu, h⟩ := h
    split at h
    · simp only [Option.bind_eq_some_iff] at h
      obtain ⟨b, hb, h⟩ := h
      cases b with
      | true =>
        simp only [if_true] at h
        obtain ⟨rfl, rfl, rfl, rfl⟩ := ok_eq h
        exact fin (field_sound hop (afields_some hfs) hfd hsz hb hu rfl he hp)
      | false =>
        simp only [Bool.false_eq_true, if_false, Option.bind_eq_some_iff] at h
        obtain ⟨w, hw, h⟩ := h
        obtain ⟨rfl, rfl, rfl, rfl⟩ := ok_eq h
        exact fin (field_sound hop (afields_some hfs) hfd hsz hb hu hw he hp)
    · cases h
  case slice t x lo hi mx =>
    simp only [Option.bind_eq_bind, Option.bind_eq_some_iff] at h
    obtain ⟨l, hl, hh, hhh, m, hm, u, hu, h⟩ := h
    split at h
    · rename_i hut
      simp only [Option.bind_eq_some_iff] at h
      obtain ⟨sz, hsz, ⟨p, q, r⟩, hb, ⟨cs, z, sb⟩, hcs, h⟩ := h
      simp only at h
      split at h
      · rename_i hz
        simp only [Option.some.injEq, Prod.mk.injEq] at h
        obtain ⟨rfl, rfl, rfl, rfl⟩ := h
        exact fin (slice_slice_sound hop hut hl hhh hm hu hsz hb hcs hz he hp)
      · cases h
    · rename_i hut
      simp only [Option.bind_eq_some_iff] at h
      obtain ⟨sz, hsz, ⟨p, q, r⟩, hb, ⟨cs, z, sb⟩, hcs, h⟩ := h
      simp only at h
      split at h
      · rename_i hz
        simp only [Option.some.injEq, Prod.mk.injEq] at h
        obtain ⟨rfl, rfl, rfl, rfl⟩ := h
        exact fin (slice_array_sound hop hut hl hhh hm hu hsz hb hcs hz.1 hz.2 he hp)
      · cases h
    · exact fin (agen_sound h he hp)
  case makeSlice t x y =>
    simp only [Option.bind_eq_bind, Option.bind_eq_some_iff] at h
    obtain ⟨e, hel, i, hi, z, hz, xv, hx, l, hl, yv, hy, c, hc, h⟩ := h
    split at h
    · rename_i hcc
      simp only [Option.some.injEq, Prod.mk.injEq] at h
      obtain ⟨rfl, rfl, rfl, rfl⟩ := h
      exact fin (makeSlice_sound hop (aelem_some hel) hi hz hx hy hl hc hcc.1 hcc.2.1 hcc.2.2.1 hcc.2.2.2.1 hcc.2.2.2.2.1 hcc.2.2.2.2.2 he hp)
    · cases h
  case convert src dst x =>
    simp only [Option.bind_eq_bind, Option.bind_eq_some_iff] at h
    obtain ⟨u, hu, h⟩ := h
    split at h
    · rename_i h1 h2
      split at h
      · rename_i h3
        simp only [Option.bind_eq_some_iff] at h
        obtain ⟨⟨l, z, sb⟩, hl, h⟩ := h
        simp only at h
        split at h
        · rename_i hle
          simp only [Option.bind_eq_some_iff, Option.some.injEq, Prod.mk.injEq] at h
          obtain ⟨bs, hbs, rfl, rfl, rfl, rfl⟩ := h
          exact fin (bytesString_sound hop h1 h2 h3 hu hl hle hbs he hp)
        · cases h
      · cases h
    · rename_i h1 h2
      split at h
      · rename_i h3
        simp only [Option.some.injEq, Prod.mk.injEq] at h
        obtain ⟨rfl, rfl, rfl, rfl⟩ := h
        exact fin (stringBytes_sound hop h1 h2 h3 hu he hp)
      · cases h
    · rename_i h1 h2
      split at h
      · rename_i h3
        simp only [Option.bind_eq_some_iff] at h
        obtain ⟨⟨l, z, sb⟩, hl, h⟩ := h
        simp only at h
        split at h
        · rename_i hc
          obtain ⟨rfl, rfl⟩ := hc
          simp only [Option.some.injEq, Prod.mk.injEq] at h
          obtain ⟨rfl, rfl, rfl, rfl⟩ := h
          exact fin (convSame_sound hop h2 h3 hu hl he hp)
        · cases h
      · cases h
    · rcases orTell_some h with h | ⟨w, hw, hres⟩
      · exact fin (agen_sound h he hp)
      · simp only [Prod.mk.injEq] at hres
        obtain ⟨rfl, rfl, rfl, rfl⟩ := hres
        obtain ⟨e, hel, rfl, rfl, hx, hv, rfl⟩ := tellConv_some hw
        refine fin ⟨inst e.v, W, .inl ?_, post_same hp.hr (vok_inst hv)⟩
        unfold execOp
        simp only [hop, veq_inst hx (aeval_sound he hu)]
        rw [Sem.run_bind, hcmp.convs e hel W]
        rfl
  case binOp op t x y yt =>
    simp only [Option.bind_eq_bind, Option.bind_eq_some_iff] at h
    obtain ⟨u, hu, w, hw, h⟩ := h
    split at h
    · rename_i h1
      obtain ⟨rfl, rfl, rfl, rfl⟩ := ok_eq h
      exact fin (eqNil_sound hop (.inl ⟨rfl, rfl⟩) hu hw (.inl ⟨_, _, _, _, _, _, rfl, rfl, h1⟩) he hp)
    · rename_i h1
      obtain ⟨rfl, rfl, rfl, rfl⟩ := ok_eq h
      exact fin (eqNil_sound hop (.inr ⟨rfl, rfl⟩) hu hw (.inl ⟨_, _, _, _, _, _, rfl, rfl, h1⟩) he hp)
    · rename_i h1
      obtain ⟨rfl, rfl, rfl, rfl⟩ := ok_eq h
      exact fin (eqNil_sound hop (.inl ⟨rfl, rfl⟩) hu hw (.inr (.inl ⟨_, _, rfl, rfl, h1⟩)) he hp)
    · rename_i h1
      obtain ⟨rfl, rfl, rfl, rfl⟩ := ok_eq h
      exact fin (eqNil_sound hop (.inr ⟨rfl, rfl⟩) hu hw (.inr (.inl ⟨_, _, rfl, rfl, h1⟩)) he hp)
    · rename_i h1
      obtain ⟨rfl, rfl, rfl, rfl⟩ := ok_eq h
      exact fin (eqNil_sound hop (.inl ⟨rfl, rfl⟩) hu hw (.inr (.inr ⟨_, _, _, _, _, _, rfl, rfl, h1⟩)) he hp)
    · rename_i h1
      obtain ⟨rfl, rfl, rfl, rfl⟩ := ok_eq h
      exact fin (eqNil_sound hop (.inr ⟨rfl, rfl⟩) hu hw (.inr (.inr ⟨_, _, _, _, _, _, rfl, rfl, h1⟩)) he hp)
    · rename_i h1
      split at h
      · rename_i hc
        obtain ⟨⟨rfl, rfl⟩, hi⟩ : (_ ∧ _) ∧ _ := ⟨⟨hc.1, hc.2.1⟩, hc.2.2⟩
        obtain ⟨rfl, rfl, rfl, rfl⟩ := ok_eq h
        exact fin (eqPtr_sound hop (.inl ⟨rfl, rfl⟩) hu hw h1 hi he hp)
      · cases h
    · rename_i h1
      split at h
      · rename_i hc
        obtain ⟨⟨rfl, rfl⟩, hi⟩ : (_ ∧ _) ∧ _ := ⟨⟨hc.1, hc.2.1⟩, hc.2.2⟩
        obtain ⟨rfl, rfl, rfl, rfl⟩ := ok_eq h
        exact fin (eqPtr_sound hop (.inr ⟨rfl, rfl⟩) hu hw h1 hi he hp)
      · cases h
    · rename_i h1
      obtain ⟨rfl, rfl, rfl, rfl⟩ := ok_eq h
      exact fin (eqMap_sound hop (.inl ⟨rfl, rfl⟩) hu hw h1 he hp)
    · rename_i h1
      obtain ⟨rfl, rfl, rfl, rfl⟩ := ok_eq h
      exact fin (eqMap_sound hop (.inr ⟨rfl, rfl⟩) hu hw h1 he hp)
    · rcases orTell_some h with h | ⟨z, hz, hres⟩
      · exact fin (agen_sound h he hp)
      · simp only [Prod.mk.injEq] at hres
        obtain ⟨rfl, rfl, rfl, rfl⟩ := hres
        obtain ⟨e, hel, rfl, rfl, hx, hy, hv, rfl⟩ := tellBin_some hz
        refine fin ⟨inst e.v, W, .inl ?_, post_same hp.hr (vok_inst hv)⟩
        obtain ⟨hg, hb⟩ := hcmp.bins e hel x y W
        unfold execOp
        simp only [hop, veq_inst hx (aeval_sound he hu), veq_inst hy (aeval_sound he hw)]
        rw [Sem.run_bind, Sem.run_bind, hg]
        simp only [Result.andThen_ok]
        rw [hb]
        rfl
  case range t x =>
    simp only [Option.bind_eq_bind, Option.bind_eq_some_iff] at h
    obtain ⟨u, hu, h⟩ := h
    split at h
    · rename_i h1
      simp only [Option.some.injEq, Prod.mk.injEq] at h
      obtain ⟨rfl, rfl, rfl, rfl⟩ := h
      exact fin (range_sound hop h1 hu he hp)
    · rename_i h1
      exact fin (rangeMap_sound hop h1 hu h he hp)
    · cases h
  case makeMap t r =>
    cases r
    · simp only [Option.some.injEq, Prod.mk.injEq] at h
      obtain ⟨rfl, rfl, rfl, rfl⟩ := h
      exact fin (makeMap_sound hop hp)
    · cases h
  case mapUpdate t m k x =>
    simp only [Option.bind_eq_bind, Option.bind_eq_some_iff] at h
    obtain ⟨kv, hk, xv, hx, mv, hm, h⟩ := h
    exact fin (mapUpdate_sound hop hk hx hm h he hp)
  case lookup t m k b =>
    simp only [Option.bind_eq_bind, Option.bind_eq_some_iff] at h
    obtain ⟨kv, hk, mv, hm, h⟩ := h
    exact fin (lookup_sound hop hk hm h he hp)
  case entry x =>
    simp only [Option.bind_eq_bind, Option.bind_eq_some_iff] at h
    obtain ⟨xv, hx, h⟩ := h
    exact fin (entry_sound hop hx h he hp)
  case next x isS =>
    cases isS
    · simp only [Option.bind_eq_bind, Option.bind_eq_some_iff] at h
      obtain ⟨xv, hx, h⟩ := h
      exact fin (nextMap_sound hop hx h he hp)
    · simp only [Option.bind_eq_bind, Option.bind_eq_some_iff] at h
      obtain ⟨u, hu, h⟩ := h
      split at h
      · split at h
        · rename_i hg
          exact fin (next_sound hop hu hg he h hp)
        · cases h
      · cases h
  case call c =>
    cases c with
    | mk callee args ats =>
      cases callee
      case builtin b =>
        simp only at h
        have args1 : ∀ {x : Value}, (args.toList.head?.bind (aeval env)) = some x → ∃ y, args.toList.head? = some y ∧ aeval env y = some x := fun h => Option.bind_eq_some_iff.1 h
        cases b
        case len =>
          simp only [Option.bind_eq_bind, Option.bind_eq_some_iff] at h
          obtain ⟨u, ⟨x, hx, hu⟩, h⟩ := h
          split at h
          · rename_i ht
            obtain ⟨rfl, rfl, rfl, rfl⟩ := ok_eq h
            obtain ⟨t, ht1, ht2⟩ := Option.bind_eq_some_iff.1 ht
            exact fin (len_slice_sound' hop hx ht1 ht2 hu he hp)
          · rename_i ht
            obtain ⟨rfl, rfl, rfl, rfl⟩ := ok_eq h
            obtain ⟨t, ht1, ht2⟩ := Option.bind_eq_some_iff.1 ht
            exact fin (len_array_sound' hop hx ht1 ht2 hp)
          · exact fin (agen_sound h he hp)
        case append =>
          simp only at h
          split at h
          · rename_i s x hargs
            have hargs' : args = #[s, x] := Array.toList_inj.1 (by simpa using hargs)
            subst hargs'
            simp only [Option.bind_eq_bind, Option.bind_eq_some_iff] at h
            obtain ⟨u, hu, w, hw, h⟩ := h
            exact fin (append_sound hop hu hw h he hp)
          · cases h
        case copy =>
          simp only at h
          split at h
          · rename_i s x hargs
            have hargs' : args = #[s, x] := Array.toList_inj.1 (by simpa using hargs)
            subst hargs'
            simp only [Option.bind_eq_bind, Option.bind_eq_some_iff] at h
            obtain ⟨u, hu, w, hw, h⟩ := h
            exact fin (copy_sound hop hu hw h he hp)
          · cases h
        case delete =>
          simp only at h
          split at h
          · rename_i m k hargs
            simp only [Option.bind_eq_bind, Option.bind_eq_some_iff] at h
            obtain ⟨t, ht, kv, hk, mv, hm, h⟩ := h
            exact fin (delete_sound hop hargs ht hk hm h he hp)
          · cases h
        case min => simp only at h; exact fin (agen_sound h he hp)
        case max => simp only at h; exact fin (agen_sound h he hp)
        all_goals simp at h
      case value f =>
        simp only [Option.bind_eq_bind, Option.bind_eq_some_iff] at h
        obtain ⟨fv, hf, xs, hxs, ⟨g, l⟩, hgl, h⟩ := h
        simp only [Option.bind_eq_some_iff] at h
        obtain ⟨fn, hfn, h⟩ := h
        obtain ⟨p, q, hfe, hl⟩ := callee_form hgl (aeval_sound he hf) (mapM_sound he hxs)
        have hargs : (args.map a.eval) = ⟨args.toList.map a.eval⟩ := by cases args; simp
        have hexec : execOp a.eval o = callFunc g ⟨p ++ args.toList.map a.eval ++ q⟩ := by
          unfold execOp
          simp only [hop, resolve, hfe, Deferred.ofValue, pure_bind, invoke, hargs]
          congr 1
          simp
        split at h
        · rename_i hg
          subst hg
          have h1 := hfn
          obtain ⟨h2, h3, h4, h5⟩ := hcmp.ok fn hfn
          have hrun := fun args => run_callFunc_extern (P := P) h1 h2 h3 h4 h5 args W
          generalize hL : p ++ args.toList.map a.eval ++ q = L at hl hexec
          match l, L, hl, h with
          | [x, y], [x', y'], .cons hx (.cons hy .nil), h =>
            obtain ⟨rfl, rfl, hfv, hcr⟩ := compare_run (P := P) h hx hy hp
            refine fin ⟨v, W, .inl ?_, post_same hp.hr (.flat hfv)⟩
            rw [hexec, hrun, hcr]; rfl
          | [], _, _, h => cases h
          | [_], _, _, h => cases h
          | _ :: _ :: _ :: _, _, _, h => cases h
        · split at h
          · cases h
          · rename_i hnb
            simp only [Bool.or_eq_true, not_or, Bool.not_eq_true] at hnb
            have hc := hcall g l H v H' R Wr h ρ D G W T ⟨p ++ args.toList.map a.eval ++ q⟩ hl hp
            unfold Oper.wp
            have : (execOp a.eval o).run P W = .ok (.enter g ⟨p ++ args.toList.map a.eval ++ q⟩) W := by
              rw [hexec]
              have hn1 : fn.name ≠ "runtime.NumGoroutine" := by simpa using hnb.1
              have hn2 : fn.body ≠ none := fun e => by rw [e] at hnb; simp at hnb
              simp [callFunc, hfn, hn1, hn2]
            rw [this]
            show Calls P g _ W _
            refine hc.mono fun e W' ⟨v', he', hpost⟩ => ?_
            subst he'
            exact hK v' W' hpost
      all_goals cases h
  case unOp => exact fin (agen_sound h he hp)
  all_goals cases h
end
end Go.Proofs.Ytpjkbjpjhkcofaa.Ev
