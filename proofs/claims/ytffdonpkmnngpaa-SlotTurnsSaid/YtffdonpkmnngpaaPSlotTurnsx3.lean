/- Written by a program of this workplace. -/
import Derived.Test.YtffdonpkmnngpaaPSlotTurnsx0
import Derived.Test.YtffdonpkmnngpaaPSlotTurnsx1
import Derived.Test.YtffdonpkmnngpaaPSlotTurnsx2
import Derived.Test.YtffdonpkmnngpaaShort
namespace Go.Proofs.Ytffdonpkmnngpaa.PSlotTurns
open Go.RowKit Go.Proofs.YtffdonpkmnngpaaW.PrintWords Go.Proofs.YtffdonpkmnngpaaW.PrintLast Go.Proofs.YtffdonpkmnngpaaW.PrintMore Go.Proofs.Ytffdonpkmnngpaa.Own Go.Proofs.Ytffdonpkmnngpaa.Short
attribute [local go_sem] max2_int min2_int max_two min_two max_three min_three max_four min_four   -- for this text's walks alone
set_option linter.unusedVariables false
set_option linter.unusedSimpArgs false

/-! ### pandectlaw4_SlotTurns: function 14 -/
abbrev T : Bool := true
abbrev F : Bool := false
mutual
def pandectlaw4_SlotTurns.j0 : Nat → Int → List (List Int) → Int → Int → Bool → Option (Bool)
 | 0, _, _, _, _, _ => none
 | k + 1, x0, x1, x2, x3, x29 => if x29 = true then (some true) else (if 128 ≤ 281474976710656 then (pandectlaw4_SlotTurns.l0 k x0 x1 x2 x3 (([(List.replicate 128 0), (List.replicate 128 0)] : List (List Int))) 0) else (none))
def pandectlaw4_SlotTurns.l0 : Nat → Int → List (List Int) → Int → Int → List (List Int) → Int → Option (Bool)
 | 0, _, _, _, _, _, _ => none
 | k + 1, x0, x1, x2, x3, x9, x10 => if x10 < (x1.length : Int) then (if 0 ≤ x10 then (if ((rd_L1 x1 x10).length : Int) > 100 then (some true) else ((slot_Put.f k (IntKind.u64.wrap ((IntKind.u64.wrap (x0)) + (IntKind.u64.wrap (x10)))) (rd_L1 x1 x10)).bind fun bt192 => (if bt192.2 = 0 then (pandectlaw4_SlotTurns.j2 k x0 x1 x2 x3 x9 x10 (IntKind.u64.wrap ((IntKind.u64.wrap (x0)) + (IntKind.u64.wrap (x10)))) bt192.1 ((bt192.1.length : Int) != 128)) else (pandectlaw4_SlotTurns.j2 k x0 x1 x2 x3 x9 x10 (IntKind.u64.wrap ((IntKind.u64.wrap (x0)) + (IntKind.u64.wrap (x10)))) bt192.1 true)))) else (none)) else (some true)
def pandectlaw4_SlotTurns.j2 : Nat → Int → List (List Int) → Int → Int → List (List Int) → Int → Int → List Int → Bool → Option (Bool)
 | 0, _, _, _, _, _, _, _, _, _ => none
 | k + 1, x0, x1, x2, x3, x9, x10, x11, x12, x65 => if x65 = true then (none) else ((some (([] : List Int) : List Int)).bind fun y214 => (if y214.length + x12.length < 140737488355328 then ((some (y214 ++ x12 : List Int)).bind fun y217 => (if 0 ≤ (Int.tmod x2 128) then (if (Int.tmod x2 128) < (y217.length : Int) then (if 0 ≤ (Int.tmod x11 2) then (if (Int.tmod x11 2) < (x9.length : Int) then ((some (x9.set ((Int.tmod x11 2) : Int).toNat (y217.set ((Int.tmod x2 128) : Int).toNat (Go.bits .xor .u8 (rd y217 (Int.tmod x2 128)) x3)) : List (List Int))).bind fun y223 => (if 0 < (x9.length : Int) then (if 1 < (x9.length : Int) then ((slot_Better.f k (rd_L1 y223 0) (rd_L1 y223 1)).bind fun bt226 => (if x3 = 0 then (if x10 = 0 then (if bt226.2.2.2 = 0 then (if bt226.1 = (wrap64 (Int.tmod x11 2)) then (if bt226.2.1 = x11 then (if 0 ≤ x10 then (if x10 < (x1.length : Int) then (if (strOfNums bt226.2.2.1).toList = (strOfNums (rd_L1 x1 x10)).toList then (if ((rd_L1 x9 (Int.tmod x11 2)).length : Int) = 128 then (pandectlaw4_SlotTurns.l0 k x0 x1 x2 x3 (y223.set ((Int.tmod x11 2) : Int).toNat x12) (wrap64 (x10 + 1))) else (none)) else (none)) else (none)) else (none)) else (none)) else (none)) else (none)) else (if bt226.2.2.2 = 0 then (if bt226.1 = (wrap64 (Int.tmod x11 2)) then (if bt226.2.1 = x11 then (if 0 ≤ x10 then (if x10 < (x1.length : Int) then (if (strOfNums bt226.2.2.1).toList = (strOfNums (rd_L1 x1 x10)).toList then (if ((rd_L1 x9 (Int.tmod x11 2)).length : Int) = 128 then (pandectlaw4_SlotTurns.l0 k x0 x1 x2 x3 (y223.set ((Int.tmod x11 2) : Int).toNat x12) (wrap64 (x10 + 1))) else (none)) else (none)) else (none)) else (none)) else (none)) else (none)) else (none))) else (if x10 = 0 then (if bt226.2.2.2 = 2 then (if ((rd_L1 x9 (Int.tmod x11 2)).length : Int) = 128 then (pandectlaw4_SlotTurns.l0 k x0 x1 x2 x3 (y223.set ((Int.tmod x11 2) : Int).toNat x12) (wrap64 (x10 + 1))) else (none)) else (none)) else (if bt226.2.2.2 = 0 then (if bt226.1 = (wrap64 (Int.tmod (IntKind.u64.wrap (x11 + 1)) 2)) then (if bt226.2.1 = (IntKind.u64.wrap (x11 - 1)) then (if 0 ≤ (wrap64 (x10 - 1)) then (if (wrap64 (x10 - 1)) < (x1.length : Int) then (if (strOfNums bt226.2.2.1).toList = (strOfNums (rd_L1 x1 (wrap64 (x10 - 1)))).toList then (if ((rd_L1 x9 (Int.tmod x11 2)).length : Int) = 128 then (pandectlaw4_SlotTurns.l0 k x0 x1 x2 x3 (y223.set ((Int.tmod x11 2) : Int).toNat x12) (wrap64 (x10 + 1))) else (none)) else (none)) else (none)) else (none)) else (none)) else (none)) else (none))))) else (none)) else (none))) else (none)) else (none)) else (none)) else (none))) else (none)))
end
def pandectlaw4_SlotTurns.f (k : Nat) (a0 : Int) (l1 : List (List Int)) (a2 : Int) (a3 : Int) : Option (Bool) := (pandectlaw4_begun.f k).bind fun t165 => (if t165 = true then (if (l1.length : Int) < 1 then (pandectlaw4_SlotTurns.j0 k a0 l1 a2 a3 true) else (pandectlaw4_SlotTurns.j0 k a0 l1 a2 a3 (decide ((l1.length : Int) > 10)))) else (none))
theorem pandectlaw4_SlotTurns.mono_l : ∀ k, (∀ y0 y1 y2 y3 y4, LeO (pandectlaw4_SlotTurns.j0 k y0 y1 y2 y3 y4) (pandectlaw4_SlotTurns.j0 (k + 1) y0 y1 y2 y3 y4)) ∧ (∀ y0 y1 y2 y3 y4 y5, LeO (pandectlaw4_SlotTurns.l0 k y0 y1 y2 y3 y4 y5) (pandectlaw4_SlotTurns.l0 (k + 1) y0 y1 y2 y3 y4 y5)) ∧ (∀ y0 y1 y2 y3 y4 y5 y6 y7 y8, LeO (pandectlaw4_SlotTurns.j2 k y0 y1 y2 y3 y4 y5 y6 y7 y8) (pandectlaw4_SlotTurns.j2 (k + 1) y0 y1 y2 y3 y4 y5 y6 y7 y8))
 | 0 => ⟨fun _ _ _ _ _ r h => by simp [pandectlaw4_SlotTurns.j0] at h, fun _ _ _ _ _ _ r h => by simp [pandectlaw4_SlotTurns.l0] at h, fun _ _ _ _ _ _ _ _ _ r h => by simp [pandectlaw4_SlotTurns.j2] at h⟩
 | k + 1 => by
  obtain ⟨ih0, ih1, ih2⟩ := pandectlaw4_SlotTurns.mono_l k
  refine ⟨?_, ?_, ?_⟩
  ·
   intro y0 y1 y2 y3 y4
   unfold pandectlaw4_SlotTurns.j0
   repeat' first
   | (with_reducible exact ih0 _ _ _ _ _)
   | (with_reducible exact ih1 _ _ _ _ _ _)
   | (with_reducible exact ih2 _ _ _ _ _ _ _ _ _)
   | (with_reducible exact pandectlaw4_begun.mono _)
   | (with_reducible exact slot_Better.mono _ _ _)
   | (with_reducible exact slot_Put.mono _ _ _)
   | (with_reducible exact LeO.refl _)
   | (with_reducible exact LeO.none _)
   | (with_reducible refine LeO.ite ?_ ?_)
   | (with_reducible refine LeO.bind ?_ (fun _ => ?_))
   | exact ih0 _ _ _ _ _
   | exact ih1 _ _ _ _ _ _
   | exact ih2 _ _ _ _ _ _ _ _ _
   | exact pandectlaw4_begun.mono _
   | exact slot_Better.mono _ _ _
   | exact slot_Put.mono _ _ _
   | exact LeO.none _
   | refine LeO.ite ?_ ?_
   | refine LeO.bind ?_ (fun _ => ?_)
  ·
   intro y0 y1 y2 y3 y4 y5
   unfold pandectlaw4_SlotTurns.l0
   repeat' first
   | (with_reducible exact ih0 _ _ _ _ _)
   | (with_reducible exact ih1 _ _ _ _ _ _)
   | (with_reducible exact ih2 _ _ _ _ _ _ _ _ _)
   | (with_reducible exact pandectlaw4_begun.mono _)
   | (with_reducible exact slot_Better.mono _ _ _)
   | (with_reducible exact slot_Put.mono _ _ _)
   | (with_reducible exact LeO.refl _)
   | (with_reducible exact LeO.none _)
   | (with_reducible refine LeO.ite ?_ ?_)
   | (with_reducible refine LeO.bind ?_ (fun _ => ?_))
   | exact ih0 _ _ _ _ _
   | exact ih1 _ _ _ _ _ _
   | exact ih2 _ _ _ _ _ _ _ _ _
   | exact pandectlaw4_begun.mono _
   | exact slot_Better.mono _ _ _
   | exact slot_Put.mono _ _ _
   | exact LeO.none _
   | refine LeO.ite ?_ ?_
   | refine LeO.bind ?_ (fun _ => ?_)
  ·
   intro y0 y1 y2 y3 y4 y5 y6 y7 y8
   unfold pandectlaw4_SlotTurns.j2
   repeat' first
   | (with_reducible exact ih0 _ _ _ _ _)
   | (with_reducible exact ih1 _ _ _ _ _ _)
   | (with_reducible exact ih2 _ _ _ _ _ _ _ _ _)
   | (with_reducible exact pandectlaw4_begun.mono _)
   | (with_reducible exact slot_Better.mono _ _ _)
   | (with_reducible exact slot_Put.mono _ _ _)
   | (with_reducible exact LeO.refl _)
   | (with_reducible exact LeO.none _)
   | (with_reducible refine LeO.ite ?_ ?_)
   | (with_reducible refine LeO.bind ?_ (fun _ => ?_))
   | exact ih0 _ _ _ _ _
   | exact ih1 _ _ _ _ _ _
   | exact ih2 _ _ _ _ _ _ _ _ _
   | exact pandectlaw4_begun.mono _
   | exact slot_Better.mono _ _ _
   | exact slot_Put.mono _ _ _
   | exact LeO.none _
   | refine LeO.ite ?_ ?_
   | refine LeO.bind ?_ (fun _ => ?_)
theorem pandectlaw4_SlotTurns.mono : ∀ a0 a1 a2 a3 k, LeO (pandectlaw4_SlotTurns.f k a0 a1 a2 a3) (pandectlaw4_SlotTurns.f (k + 1) a0 a1 a2 a3) := by
 intro a0 a1 a2 a3 k
 obtain ⟨ih0, ih1, ih2⟩ := pandectlaw4_SlotTurns.mono_l k
 unfold pandectlaw4_SlotTurns.f
 repeat' first
   | (with_reducible exact ih0 _ _ _ _ _)
   | (with_reducible exact ih1 _ _ _ _ _ _)
   | (with_reducible exact ih2 _ _ _ _ _ _ _ _ _)
   | (with_reducible exact pandectlaw4_begun.mono _)
   | (with_reducible exact slot_Better.mono _ _ _)
   | (with_reducible exact slot_Put.mono _ _ _)
   | (with_reducible exact LeO.refl _)
   | (with_reducible exact LeO.none _)
   | (with_reducible refine LeO.ite ?_ ?_)
   | (with_reducible refine LeO.bind ?_ (fun _ => ?_))
   | exact ih0 _ _ _ _ _
   | exact ih1 _ _ _ _ _ _
   | exact ih2 _ _ _ _ _ _ _ _ _
   | exact pandectlaw4_begun.mono _
   | exact slot_Better.mono _ _ _
   | exact slot_Put.mono _ _ _
   | exact LeO.none _
   | refine LeO.ite ?_ ?_
   | refine LeO.bind ?_ (fun _ => ?_)
end Go.Proofs.Ytffdonpkmnngpaa.PSlotTurns
