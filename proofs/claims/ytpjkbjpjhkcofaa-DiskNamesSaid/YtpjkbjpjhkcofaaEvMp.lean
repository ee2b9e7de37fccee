/- EV, part Mp: what the evaluator says of maps is so. No program here. -/
import Derived.Test.YtpjkbjpjhkcofaaEvJ
import Derived.MapKept
import Derived.LaidEqlPtr
import Derived.Laws.Cover3
import Derived.Carry
import Derived.Maps.RangeRun
namespace Go.Proofs.Ytpjkbjpjhkcofaa.Ev
open Go Go.RowKit
set_option linter.unusedVariables false
set_option linter.unusedSimpArgs false
/-- An object is laid into a block. -/
def setO (W : World) (b : Nat) (o : Obj) : World := { W with heap := W.heap.setIfInBounds b o }
section
variable {P : Program} {ρ : Rho} {D : Nat → Prop} {G G' : Nat → Option Blk} {W W' : World} {T : Nat → Prop} {H H' : AH} {R Wr : List Nat} {env : List Value} {a : Act}
theorem setO_self {b : Nat} (h : b < W.heap.size) (o : Obj) : (setO W b o).heap[b]? = some o := by
  show (W.heap.setIfInBounds b o)[b]? = _
  rw [Array.getElem?_setIfInBounds_self_of_lt h]
theorem post_obj [Th] {n : Nat} {ob ob' : AObj} (hp : Pre ρ D G W T H (H.put n ⟨ob', true, none⟩) R [n]) (hg : H.get n = some ⟨ob, true, none⟩) {o' : Obj} (hB : BlkR ρ D n (setO W (ρ n).blk o') ob') {v v' : Value} (hv : VR ρ D v v') :
    Post ρ D G W T H (H.put n ⟨ob', true, none⟩) [n] v v' (setO W (ρ n).blk o') := by
  have hT := hp.tr n (.inr (by simp))
  have hG := (hp.g n (.inr (by simp))).trans hg
  have hD : ∀ E : Nat → Prop, Dn E H (H.put n ⟨ob', true, none⟩) = E := fun E => by funext id; simp [Dn, AH.put]; omega
  refine ⟨ρ, fun _ _ => rfl, by rw [hD]; exact hv, ?_, rfl, rfl, rfl, by simp [setO], fun k hk => by omega⟩
  rw [hD, hD]
  have g1 : Gn G H (H.put n ⟨ob', true, none⟩) [n] n = some ⟨ob', true, none⟩ := by
    unfold Gn; rw [if_pos (.inl (by simp)), AH.get_put, if_pos rfl]
  have g2 : ∀ j, j ≠ n → Gn G H (H.put n ⟨ob', true, none⟩) [n] j = G j := fun j hj => by
    unfold Gn; rw [if_neg]; rintro (h | ⟨h1, h2⟩)
    · simp at h; exact hj h
    · simp [AH.put] at h2; omega
  refine ⟨hp.hr.dom, fun id b hid hb hl => ?_, fun i j b c hi hj hij hbi hcj hl1 hl2 hs => ?_⟩
  · by_cases e : id = n
    · subst e
      rw [g1] at hb
      cases hb
      exact hB
    · rw [g2 id e] at hb
      have h1 := hp.hr.blk id b hid hb hl
      have hd := hp.hr.dist id n b _ hid hT e hb hG hl rfl (fun hh => by cases hh.2)
      refine h1.same (fun _ _ => rfl) rfl (fun _ h => h) (by simp [setO]) ?_
      show (W.heap.setIfInBounds (ρ n).blk _)[(ρ id).blk]? = _
      rw [Array.getElem?_setIfInBounds_ne (fun e => hd e.symm)]
  · by_cases e1 : i = n
    · subst e1
      rw [g2 j (fun e => hij e.symm)] at hcj
      exact hp.hr.dist i j _ c hi hj hij hG hcj rfl hl2 (fun hh => by cases hh.1)
    · rw [g2 i e1] at hbi
      by_cases e2 : j = n
      · subst e2
        exact hp.hr.dist i j b _ hi hj hij hbi hG hl1 rfl (fun hh => by cases hh.2)
      · rw [g2 j e2] at hcj
        exact hp.hr.dist i j b c hi hj hij hbi hcj hl1 hl2 hs
/-- A new object. -/
theorem post_newobj [Th] {ob : AObj} {R : List Nat} (hp : Pre ρ D G W T H (H.new ⟨ob, true, none⟩) R []) {o : Obj} (hB : ∀ ρ' : Rho, (∀ i, D i → ρ' i = ρ i) → ρ' H.next = ⟨W.heap.size, 0, 0, 0⟩ → BlkR ρ' (fun i => D i ∨ i = H.next) H.next (W.alloc o) ob) {v v' : Value}
    (hv : ∀ ρ' : Rho, (∀ i, D i → ρ' i = ρ i) → ρ' H.next = ⟨W.heap.size, 0, 0, 0⟩ → VR ρ' (fun i => D i ∨ i = H.next) v v') : Post ρ D G W T H (H.new ⟨ob, true, none⟩) [] v v' (W.alloc o) := by
  have hn : ¬ D H.next := hp.fresh _ (Nat.le_refl _) (Nat.lt_succ_self _)
  have hD : ∀ E : Nat → Prop, Dn E H (H.new ⟨ob, true, none⟩) = fun id => E id ∨ id = H.next := fun E => by
    funext id
    simp only [Dn, AH.new]
    exact propext ⟨fun h => h.imp_right (fun h => by omega), fun h => h.imp_right (fun h => by omega)⟩
  have hold : ∀ id, D id → (fun i => if i = H.next then (⟨W.heap.size, 0, 0, 0⟩ : Loca) else ρ i) id = ρ id := fun id hid => if_neg (fun e : id = H.next => hn (by rw [← e]; exact hid))
  refine ⟨fun i => if i = H.next then ⟨W.heap.size, 0, 0, 0⟩ else ρ i, hold, ?_, ?_, below0_alloc W _⟩
  · rw [hD]; exact hv _ hold (if_pos rfl)
  · rw [hD, hD]
    refine hp.hr.alloc hn (o := o) (b := ⟨ob, true, none⟩) (ob := ob) rfl ?_ (fun i hi => ?_) (hB _ hold (if_pos rfl))
    · unfold Gn; rw [if_pos (.inr ⟨Nat.le_refl _, by simp [AH.new]⟩), AH.get_new, if_pos rfl]
    · unfold Gn
      rw [if_neg]
      rintro (h | ⟨h1, h2⟩)
      · simp at h
      · simp only [AH.new] at h2; omega
theorem AH.map_some {H : AH} {n ck : Nat} {es : List AEnt} (h : H.map n = some (es, ck)) : H.get n = some ⟨.map es ck, true, none⟩ := by
  unfold AH.map at h
  split at h
  · rename_i es' ck' he
    simp only [Option.some.injEq, Prod.mk.injEq] at h
    obtain ⟨rfl, rfl⟩ := h
    exact he
  · cases h
theorem Pre.map [Th] {n ck : Nat} {es : List AEnt} (hp : Pre ρ D G W T H H' R Wr) (hn : n ∈ R ∨ n ∈ Wr) (h : H.map n = some (es, ck)) : (ρ n).off = 0 ∧ D n ∧ ∃ es' : Array MapEntry, W.heap[(ρ n).blk]? = some (.map es' ck) ∧ EntR ρ D es es'.toList := by
  have hT := hp.tr n hn
  have hB := hp.hr.blk n _ hT ((hp.g n hn).trans (AH.map_some h)) rfl
  exact ⟨hB.1, hp.hr.dom n hT, hB.2⟩
theorem amap_some {t kt et : TypeId} {kd : TypeDesc} (h : amap P t = some (kt, et, kd)) : P.underlying t = some (.map kt et) ∧ P.underlying kt = some kd ∧ (kd = .string ∨ ∃ te j, kd = .pointer te ∧ P.info? te = some j) := by
  unfold amap at h
  split at h
  · rename_i kt' et' h1
    split at h
    · rename_i h2
      simp only [Option.some.injEq, Prod.mk.injEq] at h
      obtain ⟨rfl, rfl, rfl⟩ := h
      exact ⟨h1, h2, .inl rfl⟩
    · rename_i te h2
      split at h
      · rename_i h3
        simp only [Option.some.injEq, Prod.mk.injEq] at h
        obtain ⟨rfl, rfl, rfl⟩ := h
        obtain ⟨j, hj⟩ := Option.isSome_iff_exists.1 h3
        exact ⟨h1, h2, .inr ⟨te, j, rfl, hj⟩⟩
      · cases h
    · cases h
  · cases h
theorem bytesEq (s b : ByteArray) : (s.data.toList == b.data.toList) = true ↔ s = b := by
  obtain ⟨⟨s⟩⟩ := s
  obtain ⟨⟨b⟩⟩ := b
  simp
theorem map_form [Th] {m m' : Value} {n : Nat} (h : VR ρ D m m') (hm : m = .map (some n)) : m' = .map (some (ρ n).blk) ∧ D n := by
  cases h with
  | map hD => cases hm; exact ⟨rfl, hD⟩
  | flat hf => rw [hm] at hf; simp [Ev.flat] at hf
  | _ => cases hm
/-- A key and what it is. -/
def KeyIs (kd : TypeDesc) (k' : Value) : Prop := (kd = .string ∧ ∃ s, k' = .string s) ∨ (∃ te p, kd = .pointer te ∧ k' = .pointer (some p))
theorem key_form [Th] {kd : TypeDesc} {k k' : Value} (hk : aisKey kd k = true) (h : VR ρ D k k') : KeyIs kd k' := by
  unfold aisKey at hk
  split at hk
  · rename_i s
    exact .inl ⟨rfl, s, VR.flat_eq h rfl⟩
  · exact .inr ⟨_, _, rfl, (ptr_form h rfl).1⟩
  · cases hk
theorem run_checkKey' {kt : TypeId} {kd : TypeDesc} {k' : Value} (hu : P.underlying kt = some kd) (hk : KeyIs kd k') (e : Bool) (n : Nat) : (Instr.checkKey e (n + 1) kt k').run P W = .ok () W := by
  unfold Instr.checkKey
  rcases hk with ⟨rfl, s, rfl⟩ | ⟨te, p, rfl, rfl⟩ <;> simp [Sem.run_bind, run_underlying hu, Result.andThen]
theorem run_stays {kd : TypeDesc} {k' : Value} (hk : KeyIs kd k') : (Instr.keyThatStays k' k').run P W = .ok k' W := by
  rcases hk with ⟨rfl, s, rfl⟩ | ⟨te, p, rfl, rfl⟩
  · have : Instr.sameBits 10000 (.string s) (.string s) = true := MapKept.sameBits_self (d := .string) (by simp [MapKept.IsKey]) _
    simp [Instr.keyThatStays, this]
  · simp [Instr.keyThatStays, Instr.sameBits]
/-- What a look for a key comes to. -/
def Found [Th] (ρ : Rho) (D : Nat → Prop) (l' : List MapEntry) (k' : Value) (r : Option (Nat × Value)) (r' : Option (Nat × Value)) : Prop :=
  (r = none ∧ r' = none) ∨ ∃ j v v' e', r = some (j, v) ∧ r' = some (j, v') ∧ VR ρ D v v' ∧ l'[j]? = some e' ∧ e'.key = k'
theorem findNow_str [Th] {s : ByteArray} : ∀ {es : List AEnt} {l' : List MapEntry} (i : Nat) {r : Option (Nat × Value)}, EntR ρ D es l' → afind .string (.string s) es i = some r →
    ∃ r', Instr.findNow .string (.string s) l' i = some r' ∧ ((r = none ∧ r' = none) ∨ ∃ j v v' e', r = some (i + j, v) ∧ r' = some (i + j, v') ∧ VR ρ D v v' ∧ l'[j]? = some e' ∧ e'.key = .string s)
  | _, _, i, r, .nil, h => by
    simp only [afind, Option.some.injEq] at h
    exact ⟨none, rfl, .inl ⟨h.symm, rfl⟩⟩
  | _, _, i, r, .cons (e := e) (e' := e') (l := l) (l' := l') hk hv hb t, h => by
    unfold afind at h
    have hkey : ∃ b, e.key = .string b := by
      cases he : akeyEq .string (.string s) e.key with
      | none => rw [he] at h; cases h
      | some q =>
        unfold akeyEq at he
        split at he
        · rename_i a b h1 h2 h3; exact ⟨_, h3⟩
        · rename_i h1 _ _; cases h1
        · cases he
    obtain ⟨b, hb'⟩ := hkey
    have hk' : e'.key = .string b := by rw [hb'] at hk; exact VR.flat_eq hk rfl
    rw [hb'] at h
    simp only [akeyEq] at h
    by_cases c : s = b
    · subst c
      rw [(bytesEq s s).2 rfl] at h
      simp only [Option.some.injEq] at h
      refine ⟨some (i, e'.val), ?_, .inr ⟨0, e.val, e'.val, e', by rw [← h]; rfl, rfl, hv, rfl, hk'⟩⟩
      simp [Instr.findNow, hk', Instr.sameNow, (MapKept.bytes_beq s s).2 rfl]
    · have c1 : (s.data.toList == b.data.toList) = false := by
        cases hc : (s.data.toList == b.data.toList) with
        | false => rfl
        | true => exact absurd ((bytesEq s b).1 hc) c
      have c2 : (s == b) = false := by
        cases hc : (s == b) with
        | false => rfl
        | true => exact absurd ((MapKept.bytes_beq s b).1 hc) c
      rw [c1] at h
      obtain ⟨r', h1, h2⟩ := findNow_str (i + 1) t h
      refine ⟨r', ?_, ?_⟩
      · simp [Instr.findNow, hk', Instr.sameNow, c2, h1]
      · rcases h2 with h2 | ⟨j, v, v', e2, g1, g2, g3, g4, g5⟩
        · exact .inl h2
        · exact .inr ⟨j + 1, v, v', e2, by rw [g1]; congr 2; omega, by rw [g2]; congr 2; omega, g3, by simpa using g4, g5⟩
theorem find_sound [Th] {kt : TypeId} {kd : TypeDesc} {k k' : Value} {es : List AEnt} {l' : List MapEntry} {r : Option (Nat × Value)} (hu : P.underlying kt = some kd) (hd : kd = .string ∨ ∃ te j, kd = .pointer te ∧ P.info? te = some j) (hk : aisKey kd k = true) (hkr : VR ρ D k k') (hes : EntR ρ D es l') (h : afind kd k es 0 = some r) :
    ∃ r', (Instr.findKey kt k' l').run P W = .ok r' W ∧ Found ρ D l' k' r r' := by
  rcases hd with rfl | ⟨te, j, rfl, hj⟩
  · obtain ⟨s, rfl⟩ : ∃ s, k = .string s := by
      cases k <;> first | exact ⟨_, rfl⟩ | simp [aisKey] at hk
    obtain rfl := VR.flat_eq hkr rfl
    obtain ⟨r', h1, h2⟩ := findNow_str 0 hes h
    refine ⟨r', MapKept.run_findKey hu h1, ?_⟩
    rcases h2 with h2 | ⟨j, v, v', e', g1, g2, g3, g4, g5⟩
    · exact .inl h2
    · exact .inr ⟨j, v, v', e', by rw [g1, Nat.zero_add], by rw [g2, Nat.zero_add], g3, g4, g5⟩
  · obtain ⟨n, i, rfl⟩ : ∃ n i, k = .pointer (some ⟨n, i, none⟩) := by
      unfold aisKey at hk
      split at hk
      · exact absurd (by assumption : TypeDesc.pointer te = TypeDesc.string) (by simp)
      · exact ⟨_, _, rfl⟩
      · cases hk
    obtain ⟨rfl, hDn⟩ := ptr_form hkr rfl
    cases hes with
    | nil =>
      simp only [afind, Option.some.injEq] at h
      exact ⟨none, MapKept.run_findKey hu rfl, .inl ⟨h.symm, rfl⟩⟩
    | @cons e e' l l'' he hv hb t =>
      unfold afind at h
      have hkey : e.key = .pointer (some ⟨n, i, none⟩) ∧ r = some (0, e.val) := by
        cases hq : akeyEq (.pointer te) (.pointer (some ⟨n, i, none⟩)) e.key with
        | none => rw [hq] at h; cases h
        | some q =>
          rw [hq] at h
          unfold akeyEq at hq
          split at hq
          · rename_i h1 _ _; cases h1
          · rename_i n' i' m' j' h1 h2 h3
            cases h2
            split at hq
            · rename_i h4
              cases hq
              simp only [Option.some.injEq] at h
              exact ⟨by rw [h3, h4.1, h4.2], h.symm⟩
            · cases hq
          · cases hq
      obtain ⟨hkey, rfl⟩ := hkey
      rw [hkey] at he
      have he' := (ptr_form he rfl).1
      refine ⟨some (0, e'.val), ?_, .inr ⟨0, _, _, e', rfl, rfl, hv, rfl, he'⟩⟩
      have hn : Instr.findNow (.pointer te) (.pointer (some ⟨(ρ n).blk, (ρ n).off + i, none⟩)) (e' :: l'') 0 = none := by
        simp [Instr.findNow, Instr.sameNow]
      have heq : ∀ p : Addr, (Op.equal kt (.pointer (some p)) (.pointer (some p))).run P W = .ok true W := fun p => by
        have : ∀ d : Nat, (Op.equalIn (d + 1) kt (.pointer (some p)) (.pointer (some p))).run P W = .ok true W := fun d => by
          simp [Op.equalIn, run_underlying hu, sizeOf, typeInfo, hj, run_sameAddr_same]
        exact this 9999
      simp [Instr.findKey, run_underlying hu, Result.andThen, hn, Instr.findAsking, he', heq]
theorem EntR.get' [Th] : ∀ {l : List AEnt} {l' : List MapEntry}, EntR ρ D l l' → ∀ (i : Nat) (e' : MapEntry), l'[i]? = some e' → ∃ e, l[i]? = some e ∧ VR ρ D e.key e'.key ∧ VR ρ D e.val e'.val ∧ e'.born = e.born
  | _, _, .nil, i, e', h => by simp at h
  | _, _, .cons hk hv hb t, 0, e', h => by simp at h; subst h; exact ⟨_, rfl, hk, hv, hb⟩
  | _, _, .cons hk hv hb t, i + 1, e', h => by simpa using EntR.get' t i e' (by simpa using h)
theorem EntR.append [Th] : ∀ {l r : List AEnt} {l' r' : List MapEntry}, EntR ρ D l l' → EntR ρ D r r' → EntR ρ D (l ++ r) (l' ++ r')
  | _, _, _, _, .nil, h => h
  | _, _, _, _, .cons hk hv hb t, h => .cons hk hv hb (EntR.append t h)
theorem EntR.length [Th] : ∀ {l : List AEnt} {l' : List MapEntry}, EntR ρ D l l' → l'.length = l.length
  | _, _, .nil => rfl
  | _, _, .cons hk hv hb t => by simp [EntR.length t]
theorem EntR.set [Th] {k k' v v' : Value} (hk : VR ρ D k k') (hv : VR ρ D v v') : ∀ {l : List AEnt} {l' : List MapEntry} (i : Nat), EntR ρ D l l' → EntR ρ D (aset l i k v) (l'.modify i fun e => { e with key := k', val := v' })
  | _, _, i, .nil => by cases i <;> exact .nil
  | _, _, 0, .cons h1 h2 h3 t => by
    simp only [aset, List.modify_zero_cons]
    exact .cons hk hv h3 t
  | _, _, i + 1, .cons h1 h2 h3 t => by
    simp only [aset, List.modify_succ_cons]
    exact .cons h1 h2 h3 (EntR.set hk hv i t)
theorem EntR.eraseIdx [Th] : ∀ {l : List AEnt} {l' : List MapEntry} (i : Nat), EntR ρ D l l' → EntR ρ D (l.eraseIdx i) (l'.eraseIdx i)
  | _, _, i, .nil => by cases i <;> exact .nil
  | _, _, 0, .cons h1 h2 h3 t => by simpa using t
  | _, _, i + 1, .cons h1 h2 h3 t => by
    simp only [List.eraseIdx_cons_succ]
    exact .cons h1 h2 h3 (EntR.eraseIdx i t)
theorem erase_toList (es : Array MapEntry) (i : Nat) : (es.eraseIdxIfInBounds i).toList = es.toList.eraseIdx i := by
  unfold Array.eraseIdxIfInBounds
  split
  · simp
  · rw [List.eraseIdx_of_length_le (by simp; omega)]
theorem run_setObj_o {b : Nat} {es : Array MapEntry} {ck : Nat} (o : Obj) (hb : W.heap[b]? = some (.map es ck)) : (setObj b o).run P W = .ok () (setO W b o) := MapKept.run_setObj_map o hb
theorem makeMap_sound [Th] {o : Oper} {t : TypeId} (ho : o.op = .makeMap t none) (hp : Pre ρ D G W T H (H.new ⟨.map [] 0, true, none⟩) [] []) : OpOk P o a ρ D G W T H (H.new ⟨.map [] 0, true, none⟩) [] (.map (some H.next)) := by
  refine ⟨.map (some W.heap.size), W.alloc (.map #[] 0), .inl ?_, post_newobj hp (fun ρ' _ hρ => ?_) (fun ρ' _ hρ => ?_)⟩
  · unfold execOp
    simp only [ho, Option.map_none]
    rw [Sem.run_bind, run_makeMap]
    rfl
  · unfold BlkR
    rw [hρ]
    exact ⟨rfl, #[], (MapKept.heap_alloc W _).1, .nil⟩
  · have := VR.map (ρ := ρ') (D := fun i => D i ∨ i = H.next) (b := H.next) (.inr rfl)
    rw [hρ] at this
    exact this
theorem mapUpdate_sound [Th] {o : Oper} {t : TypeId} {m k x : Operand} (ho : o.op = .mapUpdate t m k x) {kv xv mv v : Value} (hk : aeval env k = some kv) (hx : aeval env x = some xv) (hm : aeval env m = some mv) (h : amapUpdate P H t kv xv mv = some (v, H', R, Wr)) (he : VRs ρ D env a.tmps.toList) (hp : Pre ρ D G W T H H' R Wr) : OpOk P o a ρ D G W T H H' Wr v := by
  have rk := aeval_sound he hk
  have rx := aeval_sound he hx
  have rm := aeval_sound he hm
  unfold amapUpdate at h
  split at h
  · rename_i n
    simp only [Option.bind_eq_bind, Option.bind_eq_some_iff] at h
    obtain ⟨⟨kt, et, kd⟩, ha, ⟨es, ck⟩, hmp, h⟩ := h
    obtain ⟨hu, hu2, hd⟩ := amap_some ha
    split at h
    · rename_i hisk
      simp only [Option.bind_eq_some_iff] at h
      obtain ⟨r, hf, h⟩ := h
      obtain ⟨rfl, hDn⟩ : v = undef ∧ True := by split at h <;> (simp only [Option.some.injEq, Prod.mk.injEq] at h; exact ⟨h.1.symm, trivial⟩)
      have hwr : Wr = [n] := by split at h <;> (simp only [Option.some.injEq, Prod.mk.injEq] at h; exact h.2.2.2.symm)
      subst hwr
      obtain ⟨hoff, hDn, es', hB, hes⟩ := hp.map (.inr (by simp)) hmp
      have hlt := (Array.getElem?_eq_some_iff.1 hB).1
      obtain ⟨em, _⟩ := map_form rm rfl
      have hki := key_form hisk rk
      obtain ⟨r', hrun, hfd⟩ := find_sound (P := P) (W := W) hu2 hd hisk rk hes hf
      rcases hfd with ⟨rfl, rfl⟩ | ⟨j, w, w', e', rfl, rfl, hvv, hj, hkj⟩
      · simp only [Option.some.injEq, Prod.mk.injEq] at h
        obtain ⟨_, rfl, rfl, _⟩ := h
        refine ⟨undef, setO W (ρ n).blk (.map (es'.push { key := a.eval k, val := a.eval x, born := ck }) (ck + 1)), .inr ⟨?_, rfl⟩, post_obj hp (AH.map_some hmp) ?_ (.tuple .nil)⟩
        · unfold execOp
          simp only [ho, em]
          have : (Instr.mapUpdate t (.map (some (ρ n).blk)) (a.eval k) (a.eval x)).run P W = .ok () (setO W (ρ n).blk (.map (es'.push { key := a.eval k, val := a.eval x, born := ck }) (ck + 1))) := by
            simp [Instr.mapUpdate, run_underlying hu, MapKept.run_getObj_map hB, run_checkKey' hu2 hki, hrun, run_setObj_o _ hB, Result.andThen]
          rw [Sem.run_bind, this]
          rfl
        · refine ⟨hoff, _, setO_self hlt _, ?_⟩
          rw [Array.toList_push]
          exact hes.append (.cons rk rx rfl .nil)
      · simp only [Option.some.injEq, Prod.mk.injEq] at h
        obtain ⟨_, rfl, rfl, _⟩ := h
        have hj' : es'[j]? = some e' := by simpa using hj
        refine ⟨undef, setO W (ρ n).blk (.map (es'.modify j fun e => { e with key := a.eval k, val := a.eval x }) ck), .inr ⟨?_, rfl⟩, post_obj hp (AH.map_some hmp) ?_ (.tuple .nil)⟩
        · unfold execOp
          simp only [ho, em]
          have : (Instr.mapUpdate t (.map (some (ρ n).blk)) (a.eval k) (a.eval x)).run P W = .ok () (setO W (ρ n).blk (.map (es'.modify j fun e => { e with key := a.eval k, val := a.eval x }) ck)) := by
            simp [Instr.mapUpdate, run_underlying hu, MapKept.run_getObj_map hB, run_checkKey' hu2 hki, hrun, run_setObj_o _ hB, Result.andThen, hj', hkj, run_stays hki]
          rw [Sem.run_bind, this]
          rfl
        · refine ⟨hoff, _, setO_self hlt _, ?_⟩
          rw [Array.toList_modify]
          exact hes.set rk rx j
    · cases h
  · cases h
theorem lookup_sound [Th] {o : Oper} {t : TypeId} {m k : Operand} {b : Bool} (ho : o.op = .lookup t m k b) {kv mv v : Value} (hk : aeval env k = some kv) (hm : aeval env m = some mv) (h : alookup P H t kv b mv = some (v, H', R, Wr)) (he : VRs ρ D env a.tmps.toList) (hp : Pre ρ D G W T H H' R Wr) : OpOk P o a ρ D G W T H H' Wr v := by
  have rk := aeval_sound he hk
  have rm := aeval_sound he hm
  have hout : ∀ (u u' : Value) (q : Bool), VR ρ D u u' → VR ρ D (if b then .tuple #[u, .bool q] else u) (if b then .tuple #[u', .bool q] else u') := fun u u' q hu => by
    cases b
    · exact hu
    · exact .tuple (l := [u, .bool q]) (l' := [u', .bool q]) (.cons hu (.cons (.flat rfl) .nil))
  unfold alookup at h
  simp only [Option.bind_eq_bind, Option.bind_eq_some_iff] at h
  obtain ⟨⟨kt, et, kd⟩, ha, z, hz, h⟩ := h
  obtain ⟨hu, hu2, hd⟩ := amap_some ha
  split at h
  · rename_i hisk
    have hki := key_form hisk.1 rk
    have hzr : VR ρ D z z := VR.of_clean hisk.2
    have hrz := run_zeroValue' (P := P) hz W
    split at h
    · simp only [Option.some.injEq, Prod.mk.injEq] at h
      obtain ⟨rfl, rfl, rfl, rfl⟩ := h
      have em := VR.flat_eq rm rfl
      refine ⟨_, W, .inl ?_, post_same hp.hr (hout z z false hzr)⟩
      unfold execOp
      simp only [ho, em]
      have : (Instr.lookup t (.map none) (a.eval k) b).run P W = .ok (if b then .tuple #[z, .bool false] else z) W := by
        have hfk : (Instr.findKey kt (a.eval k) []).run P W = .ok none W := MapKept.run_findKey hu2 rfl
        simp [Instr.lookup, run_underlying hu, run_checkKey' hu2 hki, hfk, hrz, Result.andThen]
      rw [Sem.run_bind, this]
      rfl
    · rename_i n
      simp only [Option.bind_eq_some_iff] at h
      obtain ⟨⟨es, ck⟩, hmp, r, hf, h⟩ := h
      have hR : R = [n] ∧ Wr = [] ∧ H' = H := by split at h <;> (simp only [Option.some.injEq, Prod.mk.injEq] at h; exact ⟨h.2.2.1.symm, h.2.2.2.symm, h.2.1.symm⟩)
      obtain ⟨rfl, rfl, rfl⟩ := hR
      obtain ⟨hoff, hDn, es', hB, hes⟩ := hp.map (.inl (by simp)) hmp
      obtain ⟨em, _⟩ := map_form rm rfl
      obtain ⟨r', hrun, hfd⟩ := find_sound (P := P) (W := W) hu2 hd hisk.1 rk hes hf
      rcases hfd with ⟨rfl, rfl⟩ | ⟨j, w, w', e', rfl, rfl, hvv, hj, hkj⟩
      · simp only [Option.some.injEq, Prod.mk.injEq] at h
        obtain ⟨rfl, _⟩ := h
        refine ⟨_, W, .inl ?_, post_same hp.hr (hout z z false hzr)⟩
        unfold execOp
        simp only [ho, em]
        have : (Instr.lookup t (.map (some (ρ n).blk)) (a.eval k) b).run P W = .ok (if b then .tuple #[z, .bool false] else z) W := by
          simp [Instr.lookup, run_underlying hu, MapKept.run_getObj_map hB, run_checkKey' hu2 hki, hrun, hrz, Result.andThen]
        rw [Sem.run_bind, this]
        rfl
      · simp only [Option.some.injEq, Prod.mk.injEq] at h
        obtain ⟨rfl, _⟩ := h
        refine ⟨_, W, .inl ?_, post_same hp.hr (hout w w' true hvv)⟩
        unfold execOp
        simp only [ho, em]
        have : (Instr.lookup t (.map (some (ρ n).blk)) (a.eval k) b).run P W = .ok (if b then .tuple #[w', .bool true] else w') W := by
          simp [Instr.lookup, run_underlying hu, MapKept.run_getObj_map hB, run_checkKey' hu2 hki, hrun, Result.andThen]
        rw [Sem.run_bind, this]
        rfl
    · cases h
  · cases h
end
end Go.Proofs.Ytpjkbjpjhkcofaa.Ev
