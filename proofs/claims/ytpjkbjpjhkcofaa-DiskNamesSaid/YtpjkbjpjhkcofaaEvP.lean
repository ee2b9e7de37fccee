/- What is told of seat 3's program: slices.Sorted at what maps.Keys gave, maps.Clone; and what the evaluator asks. No condition. -/
import Derived.Test.YtpjkbjpjhkcofaaEvTo
import Derived.Test.YtpjkbjpjhkcofaaEvW
import Derived.Test.YtpjkbjpjhkcofaaIter
namespace Go.Proofs.Ytpjkbjpjhkcofaa.Ev
open Go Go.RowKit Go.Proofs Go.Maps Go.Shelf Go.Sort
set_option linter.unusedVariables false
abbrev xcWith (bs : List TBin) (cs : List TConv) : XC := ⟨99999, 57, 71, 55, bs, cs⟩
abbrev xcHere : XC := xcWith [] []
theorem sorts_here (m : Nat) : AnyZ.SortsIn Try.prog Try.sorted57_ren Fence.wide m :=
  ⟨fun blk off cap ss W hH hblk hsz => callsIn_wide.2 (AnyM.slices_Sort_string Try.sort70 blk off cap ss W hH hblk hsz),
   fun p cap W => callsIn_wide.2 (AnyM.slices_Sort_string_none Try.sort70 p cap W)⟩
set_option maxHeartbeats 1000000 in
theorem sorted_here [Th] (bx b nn : Nat) (D0 : DataW Nat) (w : World) (hbx : bx < w.heap.size) (hm : w.cell? ⟨bx, 0, none⟩ = some (.map (some b))) (hown : w.ownsMap Try.prog 9 R0 b nn D0) (hmax : Maps.size D0 ≤ 1000) :
    Calls Try.prog 57 #[.func (.func 71) #[] #[.pointer (some ⟨bx, 0, none⟩)]] w fun e w' => ∃ (v : Value) (ss : List (List UInt8)), e = .returned v ∧ ss.Perm (strKeys D0) ∧
      w'.ownsRow w.heap.size 9 1 v ss.length ((ss.mergeSort (fun x y => decide (x ≤ y))).map encStr) ∧ (v = .slice none 0 0 ↔ ss = []) ∧ Below w.heap.size w w' := by
  have hseq : SeqGives Fence.wide 2 Try.prog 71 #[.pointer (some ⟨bx, 0, none⟩)] encStr (fun ss => ss.Perm (strKeys D0)) (Maps.size D0) w :=
    AnyZ.keys_gives (ρ := Try.keys58_ren) { Try.keys58 with } Fence.wide _ trivial rfl (by omega) bx b nn D0 w hbx hm hown
  exact (callsIn_wide (n := 5)).1 (AnyZ.sorted_in Try.sorted57 Fence.wide 5 trivial trivial trivial trivial rfl (by omega) (sorts_here _) (enters_of Try.func70 (by kernel_rfl) rfl) 71 #[.pointer (some ⟨bx, 0, none⟩)] trivial (enters_of Try.func71 (by kernel_rfl) rfl) _ _ (by have : maxLen = 9223372036854775807 := rfl; omega) (by omega) _ hseq)
theorem sorted_told [Th] (bs : List TBin) (cs : List TConv) : ToldOk Try.prog 57 (asorted (xcWith bs cs)) := by
  intro fn hfn args H v H' R Wr h ρ D G W T args' ha hp
  unfold asorted at h
  split at h
  · rename_i g b i
    simp only [Option.bind_eq_bind, Option.bind_eq_some_iff] at h
    obtain ⟨⟨l, z, s⟩, hl, h⟩ := h
    simp only at h
    split at h
    · rename_i m hm
      simp only [Option.bind_eq_some_iff] at h
      obtain ⟨⟨es, ck⟩, hmp, ks, hks, h⟩ := h
      simp only at h
      split at h
      · rename_i hc
        obtain ⟨⟨rfl, rfl, hz6⟩, h1, h2, h3, h4⟩ := hc
        have hRW : b ∈ R ∧ m ∈ R ∧ Wr = [] := by
          split at h <;> (simp only [Option.some.injEq, Prod.mk.injEq] at h; obtain ⟨_, _, rfl, rfl⟩ := h; exact ⟨by simp, by simp, rfl⟩)
        obtain ⟨hRb, hRm, rfl⟩ := hRW
        obtain ⟨hB, _, _, _⟩ := hp.cells (.inl hRb) hl
        obtain ⟨hoff, hDm, es', hbm, hes⟩ := hp.map (.inl hRm) hmp
        have hbo := hB.1.2 hz6
        obtain ⟨v', hcell, hv'⟩ := hB.2.2.2 0 _ hm
        obtain ⟨rfl, _⟩ := map_form hv' rfl
        rw [hbo] at hcell
        have hblt := hB.2.1.lt
        obtain ⟨hfit, hstr⟩ := fit_of (P := Try.prog) (k := 9) Try.underlying9 hes hks h1 h2 h3 h4
        have hperm := keys_perm hstr
        have hown : W.ownsMap Try.prog 9 R0 (ρ m).blk 1000 (.map ((es'.toList.map (WideElems.rg Try.prog 9 R0)).foldr DataW.insert [])) := ⟨es', ck, hbm, hfit, by have := hes.length; simp at this; omega, rfl⟩
        have hargs : args' = #[.func (.func 71) #[] #[.pointer (some ⟨(ρ b).blk, 0, none⟩)]] := by
          obtain ⟨l'⟩ := args'
          cases ha with
          | cons hf ht =>
            cases ht
            cases hf with
            | flat hf => simp [Ev.flat] at hf
            | func q1 q2 =>
              cases q1
              cases q2 with
              | cons hq ht =>
                cases ht
                obtain ⟨rfl, _⟩ := ptr_form hq rfl
                simp [hbo]
        rw [hargs]
        have hlen : ks.length ≤ 1000 := by
          have h6 := congrArg List.length hstr
          have h5 := hes.length
          simp only [List.length_map] at h6
          omega
        refine (sorted_here (ρ b).blk (ρ m).blk 1000 _ W hblt hcell hown (by
          have := (WideShapes.sorted_perm (es'.toList.map (WideElems.rg Try.prog 9 R0))).length_eq
          have h5 := hes.length
          simp only [Maps.size, this, List.length_map]
          omega)).mono fun e w' he => ?_
        obtain ⟨u, ss, rfl, hss, hrow, hnil, hbel⟩ := he
        have hms := asort_merge (hss.trans hperm)
        rw [hms, List.map_map] at hrow
        have hrow' : w'.ownsRow W.heap.size 9 1 u ss.length ((asort ks).map Value.string) := by
          have : (encStr ∘ fun (x : ByteArray) => x.data.toList) = Value.string := by funext x; exact encStr_of x
          rwa [this] at hrow
        have hsl : ss.length = (asort ks).length := by
          have := (hss.trans hperm).length_eq
          rw [this, List.length_map, (asort_perm ks).length_eq]
        refine ⟨u, rfl, ?_⟩
        split at h
        · rename_i hk0
          simp only [Option.some.injEq, Prod.mk.injEq] at h
          obtain ⟨rfl, rfl, _, _⟩ := h
          have : ss = [] := List.length_eq_zero_iff.1 (by rw [hsl, hk0]; rfl)
          have := hnil.2 this
          subst this
          exact post_keep hp.hr hbel (.flat rfl)
        · rename_i hk0
          simp only [Option.some.injEq, Prod.mk.injEq] at h
          obtain ⟨rfl, rfl, _, _⟩ := h
          exact post_strings (fun e => hk0 e) hp hsl hrow' hbel
      · cases h
    · cases h
  · cases h
theorem clone_told [Th] : ToldOk Try.prog 55 aclone := by
  intro fn hfn args H v H' R Wr h ρ D G W T args' ha hp
  unfold aclone at h
  split at h
  · simp only [Option.some.injEq, Prod.mk.injEq] at h
    obtain ⟨rfl, rfl, rfl, rfl⟩ := h
    have : args' = #[.map none] := by
      obtain ⟨l'⟩ := args'
      cases ha with
      | cons hf ht => cases ht; rw [VR.flat_eq hf rfl]
    rw [this]
    exact (AnyW.maps_Clone_nil Try.clone55 W).mono fun e w' ⟨he, hw⟩ => by
      subst he
      subst hw
      exact ⟨_, rfl, post_same hp.hr (.flat rfl)⟩
  · rename_i n
    simp only [Option.bind_eq_bind, Option.bind_eq_some_iff] at h
    obtain ⟨⟨es, ck⟩, hmp, h⟩ := h
    simp only [Option.some.injEq, Prod.mk.injEq] at h
    obtain ⟨rfl, rfl, rfl, rfl⟩ := h
    obtain ⟨hoff, hDn, es', hB, hes⟩ := hp.map (.inl (by simp)) hmp
    have : args' = #[.map (some (ρ n).blk)] := by
      obtain ⟨l'⟩ := args'
      cases ha with
      | cons hf ht => cases ht; rw [(map_form hf rfl).1]
    rw [this]
    refine (AnyW.maps_Clone Try.clone55 (ρ n).blk es' ck W hB).mono fun e w' ⟨he, hw⟩ => ?_
    subst he
    subst hw
    refine ⟨_, rfl, post_newobj hp (fun ρ' ho' hρ => ?_) (fun ρ' _ hρ => ?_)⟩
    · unfold BlkR
      rw [hρ]
      exact ⟨rfl, es', (MapKept.heap_alloc W _).1, hes.mono ho' (fun _ => .inl)⟩
    · have := VR.map (ρ := ρ') (D := fun i => D i ∨ i = H.next) (b := H.next) (.inr rfl)
      rw [hρ] at this
      exact this
  · cases h
theorem cmp_with [Th] {bs : List TBin} {cs : List TConv} (hc : ∀ e ∈ cs, ∀ W, (convert e.src e.dst (inst e.x)).run Try.prog W = .ok (inst e.v) W)
    (hb : ∀ e ∈ bs, ∀ (x y : Operand) W, (eqGuard e.op e.t x y (inst e.x) (inst e.y)).run Try.prog W = .ok () W ∧ (binOp e.op e.t (inst e.x) (inst e.y)).run Try.prog W = .ok (inst e.v) W) : CmpOk Try.prog (xcWith bs cs) :=
  ⟨fun fn h => (by rw [show Try.prog.funcs[99999]? = none from by kernel_rfl] at h; cases h), sorted_told bs cs, clone_told, hc, hb⟩
theorem cmp_here [Th] : CmpOk Try.prog xcHere := cmp_with (fun e h => by cases h) (fun e h => by cases h)
theorem mixed_here : Try.prog.follows .mixedOrders = true := by kernel_rfl
end Go.Proofs.Ytpjkbjpjhkcofaa.Ev
