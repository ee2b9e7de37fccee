/- EV, with arguments: a function that the evaluator finds true of these arguments returns true; a run in pieces whose arguments are letters. No program here. -/
import Derived.Test.YtpjkbjpjhkcofaaEvW
import Derived.Test.YtpjkbjpjhkcofaaEvSt
namespace Go.Proofs.Ytpjkbjpjhkcofaa.Ev
open Go Go.RowKit
set_option linter.unusedVariables false
set_option linter.unusedSimpArgs false
theorem closed_true_args [Th] {P : Program} {xc : XC} {d : Nat} {f : FuncId} (hcmp : CmpOk P xc) (hdr : DrawnOk P xc) {l : List Value} (hl : ∀ v ∈ l, Ev.flat v = true) (h : isTrue (acall P xc d f l AH.empty) = true) (w : World) :
    Calls P f ⟨l⟩ w fun e w' => e = .returned (.bool true) ∧ Below w.heap.size w w' := by
  unfold isTrue at h
  split at h
  · rename_i b H' e
    subst h
    let D : Nat → Prop := fun id => H'.next ≤ id ∧ id < H'.next + w.heap.size
    let ρ : Rho := fun id => ⟨id - H'.next, 0, 0, 0⟩
    let G : Nat → Option Blk := fun id => if H'.next ≤ id then (w.heap[id - H'.next]?).map fun o => ⟨.opq o, true, none⟩ else none
    have hD : ∀ id, D id ↔ (H'.next ≤ id ∧ id < H'.next + w.heap.size) := fun _ => Iff.rfl
    have hr : HR ρ D G w D := by
      refine ⟨fun _ h => h, fun id b hT hg hl => ?_, fun i j b c hi hj hij _ _ _ _ _ => ?_⟩
      · have h1 := (hD id).1 hT
        have hlt : id - H'.next < w.heap.size := by omega
        simp only [G] at hg
        rw [if_pos h1.1, Array.getElem?_eq_getElem hlt] at hg
        simp only [Option.map_some, Option.some.injEq] at hg
        subst hg
        show w.heap[id - H'.next]? = some _
        exact Array.getElem?_eq_getElem hlt
      · have h1 := (hD i).1 hi
        have h2 := (hD j).1 hj
        show i - H'.next ≠ j - H'.next
        omega
    have hp : Pre ρ D G w D AH.empty H' [] [] := ⟨hr, fun id h => h.elim (fun h => (by cases h)) fun h => (by cases h), fun id h => h.elim (fun h => (by cases h)) fun h => (by cases h), fun id _ h2 h3 => by have := (hD id).1 h3; omega⟩
    refine ((acall_ok hcmp hdr d).1 f l AH.empty _ H' [] [] e ρ D G w D ⟨l⟩ (VRs.flat hl) hp).mono fun en w' ⟨v', hen, ρ', hag, hv, hhr, hb⟩ => ⟨?_, hb.os, hb.tape, hb.output, hb.size, fun k hk => ?_⟩
    · rw [hen, VR.flat_eq hv rfl]
    · have hT : Dn D AH.empty H' (H'.next + k) := .inl ((hD _).2 (by omega))
      have hsub : H'.next + k - H'.next = k := by omega
      have hg : Gn G AH.empty H' [] (H'.next + k) = some ⟨.opq (w.heap[k]'hk), true, none⟩ := by
        unfold Gn
        rw [if_neg (by rintro (h | h); cases h; omega)]
        simp only [G]
        rw [if_pos (by omega), hsub, Array.getElem?_eq_getElem hk]
        rfl
      have hB := hhr.blk _ _ hT hg rfl
      have hρ := hag (H'.next + k) ((hD _).2 (by omega))
      unfold BlkR at hB
      simp only [hρ] at hB
      have e1 : (ρ (H'.next + k)).blk = k := hsub
      rw [e1] at hB
      rw [hB, Array.getElem?_eq_getElem hk]
  · cases h
theorem closed_true_letters [Th] {P : Program} {xc : XC} {d : Nat} {f : FuncId} (hcmp : CmpOk P xc) (hdr : DrawnOk P xc) {l l' : List Value} (hl : ∀ (ρ : Rho) (D : Nat → Prop), VRs ρ D l l') (h : isTrue (acall P xc d f l AH.empty) = true) (w : World) :
    Calls P f ⟨l'⟩ w fun e w' => e = .returned (.bool true) ∧ Below w.heap.size w w' := by
  unfold isTrue at h
  split at h
  · rename_i b H' e
    subst h
    let D : Nat → Prop := fun id => H'.next ≤ id ∧ id < H'.next + w.heap.size
    let ρ : Rho := fun id => ⟨id - H'.next, 0, 0, 0⟩
    let G : Nat → Option Blk := fun id => if H'.next ≤ id then (w.heap[id - H'.next]?).map fun o => ⟨.opq o, true, none⟩ else none
    have hD : ∀ id, D id ↔ (H'.next ≤ id ∧ id < H'.next + w.heap.size) := fun _ => Iff.rfl
    have hr : HR ρ D G w D := by
      refine ⟨fun _ h => h, fun id b hT hg hl => ?_, fun i j b c hi hj hij _ _ _ _ _ => ?_⟩
      · have h1 := (hD id).1 hT
        have hlt : id - H'.next < w.heap.size := by omega
        simp only [G] at hg
        rw [if_pos h1.1, Array.getElem?_eq_getElem hlt] at hg
        simp only [Option.map_some, Option.some.injEq] at hg
        subst hg
        show w.heap[id - H'.next]? = some _
        exact Array.getElem?_eq_getElem hlt
      · have h1 := (hD i).1 hi
        have h2 := (hD j).1 hj
        show i - H'.next ≠ j - H'.next
        omega
    have hp : Pre ρ D G w D AH.empty H' [] [] := ⟨hr, fun id h => h.elim (fun h => (by cases h)) fun h => (by cases h), fun id h => h.elim (fun h => (by cases h)) fun h => (by cases h), fun id _ h2 h3 => by have := (hD id).1 h3; omega⟩
    refine ((acall_ok hcmp hdr d).1 f l AH.empty _ H' [] [] e ρ D G w D ⟨l'⟩ (hl ρ D) hp).mono fun en w' ⟨v', hen, ρ', hag, hv, hhr, hb⟩ => ⟨?_, hb.os, hb.tape, hb.output, hb.size, fun k hk => ?_⟩
    · rw [hen, VR.flat_eq hv rfl]
    · have hT : Dn D AH.empty H' (H'.next + k) := .inl ((hD _).2 (by omega))
      have hsub : H'.next + k - H'.next = k := by omega
      have hg : Gn G AH.empty H' [] (H'.next + k) = some ⟨.opq (w.heap[k]'hk), true, none⟩ := by
        unfold Gn
        rw [if_neg (by rintro (h | h); cases h; omega)]
        simp only [G]
        rw [if_pos (by omega), hsub, Array.getElem?_eq_getElem hk]
        rfl
      have hB := hhr.blk _ _ hT hg rfl
      have hρ := hag (H'.next + k) ((hD _).2 (by omega))
      unfold BlkR at hB
      simp only [hρ] at hB
      have e1 : (ρ (H'.next + k)).blk = k := hsub
      rw [e1] at hB
      rw [hB, Array.getElem?_eq_getElem hk]
  · cases h
theorem closed_letters [Th] {P : Program} {xc : XC} {d : Nat} {f : FuncId} (hm : P.follows .mixedOrders = true) (hcmp : CmpOk P xc) {l l' : List Value} (hl : ∀ (ρ : Rho) (D : Nat → Prop), VRs ρ D l l') (h : isTrue (acall P xc d f l AH.empty) = true) (w : World) :
    Calls P f ⟨l'⟩ w fun e w' => e = .returned (.bool true) ∧ Below w.heap.size w w' := closed_true_letters hcmp (drawn_ok hm hcmp) hl h w
theorem closed_args [Th] {P : Program} {xc : XC} {d : Nat} {f : FuncId} (hm : P.follows .mixedOrders = true) (hcmp : CmpOk P xc) {l : List Value} (hl : ∀ v ∈ l, Ev.flat v = true) (h : isTrue (acall P xc d f l AH.empty) = true) (w : World) :
    Calls P f ⟨l⟩ w fun e w' => e = .returned (.bool true) ∧ Below w.heap.size w w' := closed_true_args hcmp (drawn_ok hm hcmp) hl h w
/-- It returns true. -/
noncomputable def retTrue (P : Program) (fn : Func) : Option CRes → Bool
  | some (.ret, e, H, [], []) => match aresults P e H fn.results.toList with
    | some ([.bool true], _) => true
    | _ => false
  | _ => false
section
variable {P : Program} {xc : XC} {call : CallF} {n : Nat} {a b : Code} {env e1 e2 : List Value} {H H1 H2 : AH} {x : AX}
theorem seq_on {q : Code} (hq : q = .seq (cl q) (cr q)) (h1 : acode P xc call 0 n (cl q) env H = some (.normal, e1, H1, KO, KO)) : acode P xc call 0 (n + 1) q env H = acode P xc call 0 n (cr q) e1 H1 := by
  generalize cl q = qa at h1 hq
  generalize cr q = qb at hq ⊢
  subst hq
  simp only [acode, h1, Option.bind_eq_bind, Option.bind_some]
  cases h : acode P xc call 0 n qb e1 H1 with
  | none => rfl
  | some r => obtain ⟨x, e2, H2, r2, w2⟩ := r; rfl
theorem whole_args {f d : Nat} {fn : Func} {c : Code} {l : List Value} (hf : P.funcs[f]? = some fn) (hc : fn.body = some c) (hn : (fn.name == "runtime.NumGoroutine") = false) (hs : f ≠ xc.sorted) (hcl : f ≠ xc.clone)
    (h : retTrue P fn (acode P xc (acall P xc d) 0 100000 c (l ++ List.replicate (fn.ntmps - l.length) undef) AH.empty) = true) : isTrue (acall P xc (d + 1) f l AH.empty) = true := by
  have hi : ∀ l : List Nat, insAll 0 l [] = [] := fun l => by
    induction l with
    | nil => rfl
    | cons y l ih => show ins 0 y (insAll 0 l []) = []; rw [ih]; rfl
  unfold retTrue at h
  split at h
  · rename_i e H1 he
    have he' : acode P xc (acall P xc d) AH.empty.next 100000 c (l ++ List.replicate (fn.ntmps - l.length) undef) AH.empty = some (.ret, e, H1, KO, KO) := he
    split at h
    · rename_i rs hr
      simp only [acall, hf, hc, hn, hs, hcl, he', hr, Option.bind_eq_bind, Option.bind_some, Bool.false_eq_true, if_false]
      rw [show insAll AH.empty.next rs KO = [] from hi rs]
      rfl
    · cases h
  · cases h
end
end Go.Proofs.Ytpjkbjpjhkcofaa.Ev
