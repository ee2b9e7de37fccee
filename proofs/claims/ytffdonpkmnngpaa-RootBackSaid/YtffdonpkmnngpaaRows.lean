/-
  No cell of these rows narrows 'for every input' (looked for: loops, veiled, ifaces, maps, wideKeys, modest, calm, conditions, laid).
  DERIVED. THE GIVEN ROWS OF THIS SEAT. 15 by the template 'for every input the law returns true; each argument reads behind the call as it read before'; 0 by the template 'total and deterministic' (their statements: YtffdonpkmnngpaaTotals.lean).
  GIVEN WITH THE SEED: the statements are not yours to turn. If you find one false, say at which input.
  Laid BY PROGRAM, IN A SANDBOX (cutbox-rows.mjs): the forced cells as the released guide's own fill.sh prints them over the translation c9d36c50369a4807… (all of the seat's roots in one cut). By AI agents, Wed Nov 11 2026. No macro, syntax, notation, axiom, sorry.
-/
import Derived.Test.YtffdonpkmnngpaaChecked
import GoSem.Claim
import GoSem.ClaimJoined
import GoSem.ClaimMapViews
import Derived.JoinedTies
import Derived.KernelRfl
namespace Go.Proofs.Ytffdonpkmnngpaa
/- THE CELL 'sum', in the pinned program and in every row, IS THE sha256 OF THE DUMP (.gsa) THAT YtffdonpkmnngpaaProg.lean LOADS. Nothing in Lean hashes anything: it is a label: what it is worth is what the hold of that sum in a sandbox is worth. -/
noncomputable def Try.pinned : Pinned := { name := "ytffdonpkmnngpaa", sum := "c9d36c50369a4807752c7d3a3f1fb7decbe67b735bab9a6f38f04371ee741c33", checked := Try.checked }
namespace Rows
def none {H : Type} : Left H := { results := [], args := [] }

/-- 'pandectlaw2.SumAll': WHATEVER THE INPUT: true; the input reads as it did. -/
def sumAllSpec : ChangeSpec := { name := "sumAll", fn := fun _ => fun
  | [d] => { results := [.lit (.bool true)], args := [d] }
  | _ => none }
def sumAllRow : OpenClaim := { program := "ytffdonpkmnngpaa", sum := "c9d36c50369a4807752c7d3a3f1fb7decbe67b735bab9a6f38f04371ee741c33", func := "pandect/pandectlaw2.SumAll", spec := "sumAll", apart := false }
def SumAllSaid : Prop := sumAllRow.holds Try.pinned (OpenSpec.ofChange sumAllSpec)

/-- ITS FALSE NEIGHBOUR: 'it returns false'. Refute it at one input. -/
def sumAllWrong : ChangeSpec := { name := "sumAll", fn := fun _ => fun
  | [d] => { results := [.lit (.bool false)], args := [d] }
  | _ => none }
def SumAllWrongFalsely : Prop := sumAllRow.holds Try.pinned (OpenSpec.ofChange sumAllWrong)

/-- 'pandectlaw2.SumTurned': WHATEVER THE INPUT: true; the input reads as it did. -/
def sumTurnedSpec : ChangeSpec := { name := "sumTurned", fn := fun _ => fun
  | [d1, d2, d3] => { results := [.lit (.bool true)], args := [d1, d2, d3] }
  | _ => none }
def sumTurnedRow : OpenClaim := { program := "ytffdonpkmnngpaa", sum := "c9d36c50369a4807752c7d3a3f1fb7decbe67b735bab9a6f38f04371ee741c33", func := "pandect/pandectlaw2.SumTurned", spec := "sumTurned", apart := false }
def SumTurnedSaid : Prop := sumTurnedRow.holds Try.pinned (OpenSpec.ofChange sumTurnedSpec)

/-- ITS FALSE NEIGHBOUR: 'it returns false'. Refute it at one input. -/
def sumTurnedWrong : ChangeSpec := { name := "sumTurned", fn := fun _ => fun
  | [d1, d2, d3] => { results := [.lit (.bool false)], args := [d1, d2, d3] }
  | _ => none }
def SumTurnedWrongFalsely : Prop := sumTurnedRow.holds Try.pinned (OpenSpec.ofChange sumTurnedWrong)

/-- 'pandectlaw2.SumSums': WHATEVER THE INPUT: true; the input reads as it did. -/
def sumSumsSpec : ChangeSpec := { name := "sumSums", fn := fun _ => fun
  | [d1, d2, d3] => { results := [.lit (.bool true)], args := [d1, d2, d3] }
  | _ => none }
def sumSumsRow : OpenClaim := { program := "ytffdonpkmnngpaa", sum := "c9d36c50369a4807752c7d3a3f1fb7decbe67b735bab9a6f38f04371ee741c33", func := "pandect/pandectlaw2.SumSums", spec := "sumSums", apart := false }
def SumSumsSaid : Prop := sumSumsRow.holds Try.pinned (OpenSpec.ofChange sumSumsSpec)

/-- ITS FALSE NEIGHBOUR: 'it returns false'. Refute it at one input. -/
def sumSumsWrong : ChangeSpec := { name := "sumSums", fn := fun _ => fun
  | [d1, d2, d3] => { results := [.lit (.bool false)], args := [d1, d2, d3] }
  | _ => none }
def SumSumsWrongFalsely : Prop := sumSumsRow.holds Try.pinned (OpenSpec.ofChange sumSumsWrong)

/-- 'pandectlaw2.SumForms': WHATEVER THE INPUT: true; the input reads as it did. -/
def sumFormsSpec : ChangeSpec := { name := "sumForms", fn := fun _ => fun
  | [] => { results := [.lit (.bool true)], args := [] }
  | _ => none }
def sumFormsRow : OpenClaim := { program := "ytffdonpkmnngpaa", sum := "c9d36c50369a4807752c7d3a3f1fb7decbe67b735bab9a6f38f04371ee741c33", func := "pandect/pandectlaw2.SumForms", spec := "sumForms", apart := false }
def SumFormsSaid : Prop := sumFormsRow.holds Try.pinned (OpenSpec.ofChange sumFormsSpec)

/-- ITS FALSE NEIGHBOUR: 'it returns false'. Refute it at one input. -/
def sumFormsWrong : ChangeSpec := { name := "sumForms", fn := fun _ => fun
  | [] => { results := [.lit (.bool false)], args := [] }
  | _ => none }
def SumFormsWrongFalsely : Prop := sumFormsRow.holds Try.pinned (OpenSpec.ofChange sumFormsWrong)

/-- 'pandectlaw3.RecAll': WHATEVER THE INPUT: true; the input reads as it did. -/
def recAllSpec : ChangeSpec := { name := "recAll", fn := fun _ => fun
  | [d1, d2, d3, d4] => { results := [.lit (.bool true)], args := [d1, d2, d3, d4] }
  | _ => none }
def recAllRow : OpenClaim := { program := "ytffdonpkmnngpaa", sum := "c9d36c50369a4807752c7d3a3f1fb7decbe67b735bab9a6f38f04371ee741c33", func := "pandect/pandectlaw3.RecAll", spec := "recAll", apart := false }
def RecAllSaid : Prop := recAllRow.holds Try.pinned (OpenSpec.ofChange recAllSpec)

/-- ITS FALSE NEIGHBOUR: 'it returns false'. Refute it at one input. -/
def recAllWrong : ChangeSpec := { name := "recAll", fn := fun _ => fun
  | [d1, d2, d3, d4] => { results := [.lit (.bool false)], args := [d1, d2, d3, d4] }
  | _ => none }
def RecAllWrongFalsely : Prop := recAllRow.holds Try.pinned (OpenSpec.ofChange recAllWrong)

/-- 'pandectlaw3.RecBack': WHATEVER THE INPUT: true; the input reads as it did. -/
def recBackSpec : ChangeSpec := { name := "recBack", fn := fun _ => fun
  | [d1, d2, d3, d4, d5] => { results := [.lit (.bool true)], args := [d1, d2, d3, d4, d5] }
  | _ => none }
def recBackRow : OpenClaim := { program := "ytffdonpkmnngpaa", sum := "c9d36c50369a4807752c7d3a3f1fb7decbe67b735bab9a6f38f04371ee741c33", func := "pandect/pandectlaw3.RecBack", spec := "recBack", apart := false }
def RecBackSaid : Prop := recBackRow.holds Try.pinned (OpenSpec.ofChange recBackSpec)

/-- ITS FALSE NEIGHBOUR: 'it returns false'. Refute it at one input. -/
def recBackWrong : ChangeSpec := { name := "recBack", fn := fun _ => fun
  | [d1, d2, d3, d4, d5] => { results := [.lit (.bool false)], args := [d1, d2, d3, d4, d5] }
  | _ => none }
def RecBackWrongFalsely : Prop := recBackRow.holds Try.pinned (OpenSpec.ofChange recBackWrong)

/-- 'pandectlaw3.RecForms': WHATEVER THE INPUT: true; the input reads as it did. -/
def recFormsSpec : ChangeSpec := { name := "recForms", fn := fun _ => fun
  | [] => { results := [.lit (.bool true)], args := [] }
  | _ => none }
def recFormsRow : OpenClaim := { program := "ytffdonpkmnngpaa", sum := "c9d36c50369a4807752c7d3a3f1fb7decbe67b735bab9a6f38f04371ee741c33", func := "pandect/pandectlaw3.RecForms", spec := "recForms", apart := false }
def RecFormsSaid : Prop := recFormsRow.holds Try.pinned (OpenSpec.ofChange recFormsSpec)

/-- ITS FALSE NEIGHBOUR: 'it returns false'. Refute it at one input. -/
def recFormsWrong : ChangeSpec := { name := "recForms", fn := fun _ => fun
  | [] => { results := [.lit (.bool false)], args := [] }
  | _ => none }
def RecFormsWrongFalsely : Prop := recFormsRow.holds Try.pinned (OpenSpec.ofChange recFormsWrong)

/-- 'pandectlaw10.RootAll': WHATEVER THE INPUT: true; the input reads as it did. -/
def rootAllSpec : ChangeSpec := { name := "rootAll", fn := fun _ => fun
  | [d1, d2, d3] => { results := [.lit (.bool true)], args := [d1, d2, d3] }
  | _ => none }
def rootAllRow : OpenClaim := { program := "ytffdonpkmnngpaa", sum := "c9d36c50369a4807752c7d3a3f1fb7decbe67b735bab9a6f38f04371ee741c33", func := "pandect/pandectlaw10.RootAll", spec := "rootAll", unfollowed := true, recurses := true, apart := false }
def RootAllSaid : Prop := rootAllRow.holds Try.pinned (OpenSpec.ofChange rootAllSpec)

/-- ITS FALSE NEIGHBOUR: 'it returns false'. Refute it at one input. -/
def rootAllWrong : ChangeSpec := { name := "rootAll", fn := fun _ => fun
  | [d1, d2, d3] => { results := [.lit (.bool false)], args := [d1, d2, d3] }
  | _ => none }
def RootAllWrongFalsely : Prop := rootAllRow.holds Try.pinned (OpenSpec.ofChange rootAllWrong)

/-- 'pandectlaw10.RootBack': WHATEVER THE INPUT: true; the input reads as it did. -/
def rootBackSpec : ChangeSpec := { name := "rootBack", fn := fun _ => fun
  | [d1, d2] => { results := [.lit (.bool true)], args := [d1, d2] }
  | _ => none }
def rootBackRow : OpenClaim := { program := "ytffdonpkmnngpaa", sum := "c9d36c50369a4807752c7d3a3f1fb7decbe67b735bab9a6f38f04371ee741c33", func := "pandect/pandectlaw10.RootBack", spec := "rootBack", unfollowed := true, recurses := true, apart := false }
def RootBackSaid : Prop := rootBackRow.holds Try.pinned (OpenSpec.ofChange rootBackSpec)

/-- ITS FALSE NEIGHBOUR: 'it returns false'. Refute it at one input. -/
def rootBackWrong : ChangeSpec := { name := "rootBack", fn := fun _ => fun
  | [d1, d2] => { results := [.lit (.bool false)], args := [d1, d2] }
  | _ => none }
def RootBackWrongFalsely : Prop := rootBackRow.holds Try.pinned (OpenSpec.ofChange rootBackWrong)

/-- 'pandectlaw10.RootForms': WHATEVER THE INPUT: true; the input reads as it did. -/
def rootFormsSpec : ChangeSpec := { name := "rootForms", fn := fun _ => fun
  | [] => { results := [.lit (.bool true)], args := [] }
  | _ => none }
def rootFormsRow : OpenClaim := { program := "ytffdonpkmnngpaa", sum := "c9d36c50369a4807752c7d3a3f1fb7decbe67b735bab9a6f38f04371ee741c33", func := "pandect/pandectlaw10.RootForms", spec := "rootForms", unfollowed := true, recurses := true, apart := false }
def RootFormsSaid : Prop := rootFormsRow.holds Try.pinned (OpenSpec.ofChange rootFormsSpec)

/-- ITS FALSE NEIGHBOUR: 'it returns false'. Refute it at one input. -/
def rootFormsWrong : ChangeSpec := { name := "rootForms", fn := fun _ => fun
  | [] => { results := [.lit (.bool false)], args := [] }
  | _ => none }
def RootFormsWrongFalsely : Prop := rootFormsRow.holds Try.pinned (OpenSpec.ofChange rootFormsWrong)

/-- 'pandectlaw4.SlotAll': WHATEVER THE INPUT: true; the input reads as it did. -/
def slotAllSpec : ChangeSpec := { name := "slotAll", fn := fun _ => fun
  | [d1, d2, d3, d4] => { results := [.lit (.bool true)], args := [d1, d2, d3, d4] }
  | _ => none }
def slotAllRow : OpenClaim := { program := "ytffdonpkmnngpaa", sum := "c9d36c50369a4807752c7d3a3f1fb7decbe67b735bab9a6f38f04371ee741c33", func := "pandect/pandectlaw4.SlotAll", spec := "slotAll", apart := false }
def SlotAllSaid : Prop := slotAllRow.holds Try.pinned (OpenSpec.ofChange slotAllSpec)

/-- ITS FALSE NEIGHBOUR: 'it returns false'. Refute it at one input. -/
def slotAllWrong : ChangeSpec := { name := "slotAll", fn := fun _ => fun
  | [d1, d2, d3, d4] => { results := [.lit (.bool false)], args := [d1, d2, d3, d4] }
  | _ => none }
def SlotAllWrongFalsely : Prop := slotAllRow.holds Try.pinned (OpenSpec.ofChange slotAllWrong)

/-- 'pandectlaw4.SlotTurns': WHATEVER THE INPUT: true; the input reads as it did. -/
def slotTurnsSpec : ChangeSpec := { name := "slotTurns", fn := fun _ => fun
  | [d1, d2, d3, d4] => { results := [.lit (.bool true)], args := [d1, d2, d3, d4] }
  | _ => none }
def slotTurnsRow : OpenClaim := { program := "ytffdonpkmnngpaa", sum := "c9d36c50369a4807752c7d3a3f1fb7decbe67b735bab9a6f38f04371ee741c33", func := "pandect/pandectlaw4.SlotTurns", spec := "slotTurns", apart := false }
def SlotTurnsSaid : Prop := slotTurnsRow.holds Try.pinned (OpenSpec.ofChange slotTurnsSpec)

/-- ITS FALSE NEIGHBOUR: 'it returns false'. Refute it at one input. -/
def slotTurnsWrong : ChangeSpec := { name := "slotTurns", fn := fun _ => fun
  | [d1, d2, d3, d4] => { results := [.lit (.bool false)], args := [d1, d2, d3, d4] }
  | _ => none }
def SlotTurnsWrongFalsely : Prop := slotTurnsRow.holds Try.pinned (OpenSpec.ofChange slotTurnsWrong)

/-- 'pandectlaw4.SlotForms': WHATEVER THE INPUT: true; the input reads as it did. -/
def slotFormsSpec : ChangeSpec := { name := "slotForms", fn := fun _ => fun
  | [] => { results := [.lit (.bool true)], args := [] }
  | _ => none }
def slotFormsRow : OpenClaim := { program := "ytffdonpkmnngpaa", sum := "c9d36c50369a4807752c7d3a3f1fb7decbe67b735bab9a6f38f04371ee741c33", func := "pandect/pandectlaw4.SlotForms", spec := "slotForms", apart := false }
def SlotFormsSaid : Prop := slotFormsRow.holds Try.pinned (OpenSpec.ofChange slotFormsSpec)

/-- ITS FALSE NEIGHBOUR: 'it returns false'. Refute it at one input. -/
def slotFormsWrong : ChangeSpec := { name := "slotForms", fn := fun _ => fun
  | [] => { results := [.lit (.bool false)], args := [] }
  | _ => none }
def SlotFormsWrongFalsely : Prop := slotFormsRow.holds Try.pinned (OpenSpec.ofChange slotFormsWrong)

/-- 'pandectlaw21.PageBack': WHATEVER THE INPUT: true; the input reads as it did. -/
def pageBackSpec : ChangeSpec := { name := "pageBack", fn := fun _ => fun
  | [d1, d2, d3, d4, d5, d6, d7, d8] => { results := [.lit (.bool true)], args := [d1, d2, d3, d4, d5, d6, d7, d8] }
  | _ => none }
def pageBackRow : OpenClaim := { program := "ytffdonpkmnngpaa", sum := "c9d36c50369a4807752c7d3a3f1fb7decbe67b735bab9a6f38f04371ee741c33", func := "pandect/pandectlaw21.PageBack", spec := "pageBack", apart := false }
def PageBackSaid : Prop := pageBackRow.holds Try.pinned (OpenSpec.ofChange pageBackSpec)

/-- ITS FALSE NEIGHBOUR: 'it returns false'. Refute it at one input. -/
def pageBackWrong : ChangeSpec := { name := "pageBack", fn := fun _ => fun
  | [d1, d2, d3, d4, d5, d6, d7, d8] => { results := [.lit (.bool false)], args := [d1, d2, d3, d4, d5, d6, d7, d8] }
  | _ => none }
def PageBackWrongFalsely : Prop := pageBackRow.holds Try.pinned (OpenSpec.ofChange pageBackWrong)

/-- 'pandectlaw21.PageForms': WHATEVER THE INPUT: true; the input reads as it did. -/
def pageFormsSpec : ChangeSpec := { name := "pageForms", fn := fun _ => fun
  | [] => { results := [.lit (.bool true)], args := [] }
  | _ => none }
def pageFormsRow : OpenClaim := { program := "ytffdonpkmnngpaa", sum := "c9d36c50369a4807752c7d3a3f1fb7decbe67b735bab9a6f38f04371ee741c33", func := "pandect/pandectlaw21.PageForms", spec := "pageForms", apart := false }
def PageFormsSaid : Prop := pageFormsRow.holds Try.pinned (OpenSpec.ofChange pageFormsSpec)

/-- ITS FALSE NEIGHBOUR: 'it returns false'. Refute it at one input. -/
def pageFormsWrong : ChangeSpec := { name := "pageForms", fn := fun _ => fun
  | [] => { results := [.lit (.bool false)], args := [] }
  | _ => none }
def PageFormsWrongFalsely : Prop := pageFormsRow.holds Try.pinned (OpenSpec.ofChange pageFormsWrong)

/- THE SECOND FORM. 'bulk': how many values and letters a reading holds, each counted each time it is reached (what is shared counts as often as it is met; a slice's spare places count too). A statement '..UptoSaid' is the law's where the arguments, and the package variables that the reading takes, are together of bulk at most 1048576: NARROWER than '..Said'. Prove '..Said' where nothing that the law and all that it calls make is longer than what came in: it says more and counts as full. Else prove '..UptoSaid'. A law counts once. -/
mutual
def uptoBulk {H : Type} : DataW H → Nat
  | .lit (.string bytes) => bytes.length + 1
  | .lit _ => 1
  | .nil => 1
  | .ptr d => uptoBulk d + 1
  | .slice elems spare => uptoBulkAll elems + uptoBulkAll spare + 1
  | .agg parts => uptoBulkAll parts + 1
  | .iface _ d => uptoBulk d + 1
  | .map entries => uptoBulkEntries entries + 1
  | .held _ => 1
def uptoBulkAll {H : Type} : List (DataW H) → Nat
  | [] => 0
  | d :: r => uptoBulk d + uptoBulkAll r
def uptoBulkEntries {H : Type} : List (Lit × DataW H) → Nat
  | [] => 0
  | x :: r => uptoBulkEntry x + uptoBulkEntries r
def uptoBulkEntry {H : Type} : Lit × DataW H → Nat
  | (.string bytes, d) => bytes.length + uptoBulk d + 1
  | (_, d) => uptoBulk d + 1
 end
def uptoSmall : (H : Type) → List (DataW H) → Bool := fun _ ds => decide (uptoBulkAll ds ≤ 1048576)
def OpenSpec.upto (s : _root_.Go.ChangeSpec) : _root_.Go.OpenSpec := { _root_.Go.OpenSpec.ofChange s with cond := some uptoSmall }

/-- 'pandectlaw2.SumAll', WHERE WHAT IT READS IS OF BULK AT MOST 1048576: true; the input reads as it did. -/
def sumAllUptoRow : OpenClaim := { program := "ytffdonpkmnngpaa", sum := "c9d36c50369a4807752c7d3a3f1fb7decbe67b735bab9a6f38f04371ee741c33", func := "pandect/pandectlaw2.SumAll", spec := "sumAll", apart := false, narrowed := true }
def SumAllUptoSaid : Prop := sumAllUptoRow.holds Try.pinned (OpenSpec.upto sumAllSpec)

/-- 'pandectlaw2.SumTurned', WHERE WHAT IT READS IS OF BULK AT MOST 1048576: true; the input reads as it did. -/
def sumTurnedUptoRow : OpenClaim := { program := "ytffdonpkmnngpaa", sum := "c9d36c50369a4807752c7d3a3f1fb7decbe67b735bab9a6f38f04371ee741c33", func := "pandect/pandectlaw2.SumTurned", spec := "sumTurned", apart := false, narrowed := true }
def SumTurnedUptoSaid : Prop := sumTurnedUptoRow.holds Try.pinned (OpenSpec.upto sumTurnedSpec)

/-- 'pandectlaw2.SumSums', WHERE WHAT IT READS IS OF BULK AT MOST 1048576: true; the input reads as it did. -/
def sumSumsUptoRow : OpenClaim := { program := "ytffdonpkmnngpaa", sum := "c9d36c50369a4807752c7d3a3f1fb7decbe67b735bab9a6f38f04371ee741c33", func := "pandect/pandectlaw2.SumSums", spec := "sumSums", apart := false, narrowed := true }
def SumSumsUptoSaid : Prop := sumSumsUptoRow.holds Try.pinned (OpenSpec.upto sumSumsSpec)

/-- 'pandectlaw2.SumForms', WHERE WHAT IT READS IS OF BULK AT MOST 1048576: true; the input reads as it did. -/
def sumFormsUptoRow : OpenClaim := { program := "ytffdonpkmnngpaa", sum := "c9d36c50369a4807752c7d3a3f1fb7decbe67b735bab9a6f38f04371ee741c33", func := "pandect/pandectlaw2.SumForms", spec := "sumForms", apart := false, narrowed := true }
def SumFormsUptoSaid : Prop := sumFormsUptoRow.holds Try.pinned (OpenSpec.upto sumFormsSpec)

/-- 'pandectlaw3.RecAll', WHERE WHAT IT READS IS OF BULK AT MOST 1048576: true; the input reads as it did. -/
def recAllUptoRow : OpenClaim := { program := "ytffdonpkmnngpaa", sum := "c9d36c50369a4807752c7d3a3f1fb7decbe67b735bab9a6f38f04371ee741c33", func := "pandect/pandectlaw3.RecAll", spec := "recAll", apart := false, narrowed := true }
def RecAllUptoSaid : Prop := recAllUptoRow.holds Try.pinned (OpenSpec.upto recAllSpec)

/-- 'pandectlaw3.RecBack', WHERE WHAT IT READS IS OF BULK AT MOST 1048576: true; the input reads as it did. -/
def recBackUptoRow : OpenClaim := { program := "ytffdonpkmnngpaa", sum := "c9d36c50369a4807752c7d3a3f1fb7decbe67b735bab9a6f38f04371ee741c33", func := "pandect/pandectlaw3.RecBack", spec := "recBack", apart := false, narrowed := true }
def RecBackUptoSaid : Prop := recBackUptoRow.holds Try.pinned (OpenSpec.upto recBackSpec)

/-- 'pandectlaw3.RecForms', WHERE WHAT IT READS IS OF BULK AT MOST 1048576: true; the input reads as it did. -/
def recFormsUptoRow : OpenClaim := { program := "ytffdonpkmnngpaa", sum := "c9d36c50369a4807752c7d3a3f1fb7decbe67b735bab9a6f38f04371ee741c33", func := "pandect/pandectlaw3.RecForms", spec := "recForms", apart := false, narrowed := true }
def RecFormsUptoSaid : Prop := recFormsUptoRow.holds Try.pinned (OpenSpec.upto recFormsSpec)

/-- 'pandectlaw10.RootAll', WHERE WHAT IT READS IS OF BULK AT MOST 1048576: true; the input reads as it did. -/
def rootAllUptoRow : OpenClaim := { program := "ytffdonpkmnngpaa", sum := "c9d36c50369a4807752c7d3a3f1fb7decbe67b735bab9a6f38f04371ee741c33", func := "pandect/pandectlaw10.RootAll", spec := "rootAll", unfollowed := true, recurses := true, apart := false, narrowed := true }
def RootAllUptoSaid : Prop := rootAllUptoRow.holds Try.pinned (OpenSpec.upto rootAllSpec)

/-- 'pandectlaw10.RootBack', WHERE WHAT IT READS IS OF BULK AT MOST 1048576: true; the input reads as it did. -/
def rootBackUptoRow : OpenClaim := { program := "ytffdonpkmnngpaa", sum := "c9d36c50369a4807752c7d3a3f1fb7decbe67b735bab9a6f38f04371ee741c33", func := "pandect/pandectlaw10.RootBack", spec := "rootBack", unfollowed := true, recurses := true, apart := false, narrowed := true }
def RootBackUptoSaid : Prop := rootBackUptoRow.holds Try.pinned (OpenSpec.upto rootBackSpec)

/-- 'pandectlaw10.RootForms', WHERE WHAT IT READS IS OF BULK AT MOST 1048576: true; the input reads as it did. -/
def rootFormsUptoRow : OpenClaim := { program := "ytffdonpkmnngpaa", sum := "c9d36c50369a4807752c7d3a3f1fb7decbe67b735bab9a6f38f04371ee741c33", func := "pandect/pandectlaw10.RootForms", spec := "rootForms", unfollowed := true, recurses := true, apart := false, narrowed := true }
def RootFormsUptoSaid : Prop := rootFormsUptoRow.holds Try.pinned (OpenSpec.upto rootFormsSpec)

/-- 'pandectlaw4.SlotAll', WHERE WHAT IT READS IS OF BULK AT MOST 1048576: true; the input reads as it did. -/
def slotAllUptoRow : OpenClaim := { program := "ytffdonpkmnngpaa", sum := "c9d36c50369a4807752c7d3a3f1fb7decbe67b735bab9a6f38f04371ee741c33", func := "pandect/pandectlaw4.SlotAll", spec := "slotAll", apart := false, narrowed := true }
def SlotAllUptoSaid : Prop := slotAllUptoRow.holds Try.pinned (OpenSpec.upto slotAllSpec)

/-- 'pandectlaw4.SlotTurns', WHERE WHAT IT READS IS OF BULK AT MOST 1048576: true; the input reads as it did. -/
def slotTurnsUptoRow : OpenClaim := { program := "ytffdonpkmnngpaa", sum := "c9d36c50369a4807752c7d3a3f1fb7decbe67b735bab9a6f38f04371ee741c33", func := "pandect/pandectlaw4.SlotTurns", spec := "slotTurns", apart := false, narrowed := true }
def SlotTurnsUptoSaid : Prop := slotTurnsUptoRow.holds Try.pinned (OpenSpec.upto slotTurnsSpec)

/-- 'pandectlaw4.SlotForms', WHERE WHAT IT READS IS OF BULK AT MOST 1048576: true; the input reads as it did. -/
def slotFormsUptoRow : OpenClaim := { program := "ytffdonpkmnngpaa", sum := "c9d36c50369a4807752c7d3a3f1fb7decbe67b735bab9a6f38f04371ee741c33", func := "pandect/pandectlaw4.SlotForms", spec := "slotForms", apart := false, narrowed := true }
def SlotFormsUptoSaid : Prop := slotFormsUptoRow.holds Try.pinned (OpenSpec.upto slotFormsSpec)

/-- 'pandectlaw21.PageBack', WHERE WHAT IT READS IS OF BULK AT MOST 1048576: true; the input reads as it did. -/
def pageBackUptoRow : OpenClaim := { program := "ytffdonpkmnngpaa", sum := "c9d36c50369a4807752c7d3a3f1fb7decbe67b735bab9a6f38f04371ee741c33", func := "pandect/pandectlaw21.PageBack", spec := "pageBack", apart := false, narrowed := true }
def PageBackUptoSaid : Prop := pageBackUptoRow.holds Try.pinned (OpenSpec.upto pageBackSpec)

/-- 'pandectlaw21.PageForms', WHERE WHAT IT READS IS OF BULK AT MOST 1048576: true; the input reads as it did. -/
def pageFormsUptoRow : OpenClaim := { program := "ytffdonpkmnngpaa", sum := "c9d36c50369a4807752c7d3a3f1fb7decbe67b735bab9a6f38f04371ee741c33", func := "pandect/pandectlaw21.PageForms", spec := "pageForms", apart := false, narrowed := true }
def PageFormsUptoSaid : Prop := pageFormsUptoRow.holds Try.pinned (OpenSpec.upto pageFormsSpec)

end Rows
end Go.Proofs.Ytffdonpkmnngpaa
