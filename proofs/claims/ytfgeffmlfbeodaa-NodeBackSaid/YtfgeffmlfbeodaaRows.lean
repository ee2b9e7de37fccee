/-
  No cell of these rows narrows 'for every input' (looked for: loops, veiled, ifaces, maps, wideKeys, modest, calm, conditions, laid).
  DERIVED. THE GIVEN ROWS OF THIS SEAT. 15 by the template 'for every input the law returns true; each argument reads behind the call as it read before'; 0 by the template 'total and deterministic' (their statements: YtfgeffmlfbeodaaTotals.lean).
  GIVEN WITH THE SEED: the statements are not yours to turn. If you find one false, say at which input.
  Laid BY PROGRAM, IN A SANDBOX (cutbox-rows.mjs): the forced cells as the released guide's own fill.sh prints them over the translation e3d84c46e3b814af… (all of the seat's roots in one cut). By AI agents, Wed Nov 11 2026. No macro, syntax, notation, axiom, sorry.
-/
import Derived.Test.YtfgeffmlfbeodaaChecked
import GoSem.Claim
import GoSem.ClaimJoined
import GoSem.ClaimMapViews
import Derived.JoinedTies
import Derived.KernelRfl
namespace Go.Proofs.Ytfgeffmlfbeodaa
/- THE CELL 'sum', in the pinned program and in every row, IS THE sha256 OF THE DUMP (.gsa) THAT YtfgeffmlfbeodaaProg.lean LOADS. Nothing in Lean hashes anything: it is a label: what it is worth is what the hold of that sum in a sandbox is worth. -/
noncomputable def Try.pinned : Pinned := { name := "ytfgeffmlfbeodaa", sum := "e3d84c46e3b814af89eae25d18c529a14f534ac821a79fa975e993ee65460d72", checked := Try.checked }
namespace Rows
def none {H : Type} : Left H := { results := [], args := [] }

/-- 'pandectlaw7.EventAll': WHATEVER THE INPUT: true; the input reads as it did. -/
def eventAllSpec : ChangeSpec := { name := "eventAll", fn := fun _ => fun
  | [d1, d2, d3] => { results := [.lit (.bool true)], args := [d1, d2, d3] }
  | _ => none }
def eventAllRow : OpenClaim := { program := "ytfgeffmlfbeodaa", sum := "e3d84c46e3b814af89eae25d18c529a14f534ac821a79fa975e993ee65460d72", func := "pandect/pandectlaw7.EventAll", spec := "eventAll", unfollowed := true, recurses := true, apart := false }
def EventAllSaid : Prop := eventAllRow.holds Try.pinned (OpenSpec.ofChange eventAllSpec)

/-- ITS FALSE NEIGHBOUR: 'it returns false'. Refute it at one input. -/
def eventAllWrong : ChangeSpec := { name := "eventAll", fn := fun _ => fun
  | [d1, d2, d3] => { results := [.lit (.bool false)], args := [d1, d2, d3] }
  | _ => none }
def EventAllWrongFalsely : Prop := eventAllRow.holds Try.pinned (OpenSpec.ofChange eventAllWrong)

/-- 'pandectlaw7.EventBack': WHATEVER THE INPUT: true; the input reads as it did. -/
def eventBackSpec : ChangeSpec := { name := "eventBack", fn := fun _ => fun
  | [d1, d2, d3] => { results := [.lit (.bool true)], args := [d1, d2, d3] }
  | _ => none }
def eventBackRow : OpenClaim := { program := "ytfgeffmlfbeodaa", sum := "e3d84c46e3b814af89eae25d18c529a14f534ac821a79fa975e993ee65460d72", func := "pandect/pandectlaw7.EventBack", spec := "eventBack", unfollowed := true, recurses := true, apart := false }
def EventBackSaid : Prop := eventBackRow.holds Try.pinned (OpenSpec.ofChange eventBackSpec)

/-- ITS FALSE NEIGHBOUR: 'it returns false'. Refute it at one input. -/
def eventBackWrong : ChangeSpec := { name := "eventBack", fn := fun _ => fun
  | [d1, d2, d3] => { results := [.lit (.bool false)], args := [d1, d2, d3] }
  | _ => none }
def EventBackWrongFalsely : Prop := eventBackRow.holds Try.pinned (OpenSpec.ofChange eventBackWrong)

/-- 'pandectlaw7.EventForms': WHATEVER THE INPUT: true; the input reads as it did. -/
def eventFormsSpec : ChangeSpec := { name := "eventForms", fn := fun _ => fun
  | [] => { results := [.lit (.bool true)], args := [] }
  | _ => none }
def eventFormsRow : OpenClaim := { program := "ytfgeffmlfbeodaa", sum := "e3d84c46e3b814af89eae25d18c529a14f534ac821a79fa975e993ee65460d72", func := "pandect/pandectlaw7.EventForms", spec := "eventForms", unfollowed := true, recurses := true, apart := false }
def EventFormsSaid : Prop := eventFormsRow.holds Try.pinned (OpenSpec.ofChange eventFormsSpec)

/-- ITS FALSE NEIGHBOUR: 'it returns false'. Refute it at one input. -/
def eventFormsWrong : ChangeSpec := { name := "eventForms", fn := fun _ => fun
  | [] => { results := [.lit (.bool false)], args := [] }
  | _ => none }
def EventFormsWrongFalsely : Prop := eventFormsRow.holds Try.pinned (OpenSpec.ofChange eventFormsWrong)

/-- 'pandectlaw8.HeadAll': WHATEVER THE INPUT: true; the input reads as it did. -/
def headAllSpec : ChangeSpec := { name := "headAll", fn := fun _ => fun
  | [d1, d2, d3, d4, d5] => { results := [.lit (.bool true)], args := [d1, d2, d3, d4, d5] }
  | _ => none }
def headAllRow : OpenClaim := { program := "ytfgeffmlfbeodaa", sum := "e3d84c46e3b814af89eae25d18c529a14f534ac821a79fa975e993ee65460d72", func := "pandect/pandectlaw8.HeadAll", spec := "headAll", apart := false }
def HeadAllSaid : Prop := headAllRow.holds Try.pinned (OpenSpec.ofChange headAllSpec)

/-- ITS FALSE NEIGHBOUR: 'it returns false'. Refute it at one input. -/
def headAllWrong : ChangeSpec := { name := "headAll", fn := fun _ => fun
  | [d1, d2, d3, d4, d5] => { results := [.lit (.bool false)], args := [d1, d2, d3, d4, d5] }
  | _ => none }
def HeadAllWrongFalsely : Prop := headAllRow.holds Try.pinned (OpenSpec.ofChange headAllWrong)

/-- 'pandectlaw8.HeadBack': WHATEVER THE INPUT: true; the input reads as it did. -/
def headBackSpec : ChangeSpec := { name := "headBack", fn := fun _ => fun
  | [d1, d2, d3, d4] => { results := [.lit (.bool true)], args := [d1, d2, d3, d4] }
  | _ => none }
def headBackRow : OpenClaim := { program := "ytfgeffmlfbeodaa", sum := "e3d84c46e3b814af89eae25d18c529a14f534ac821a79fa975e993ee65460d72", func := "pandect/pandectlaw8.HeadBack", spec := "headBack", apart := false }
def HeadBackSaid : Prop := headBackRow.holds Try.pinned (OpenSpec.ofChange headBackSpec)

/-- ITS FALSE NEIGHBOUR: 'it returns false'. Refute it at one input. -/
def headBackWrong : ChangeSpec := { name := "headBack", fn := fun _ => fun
  | [d1, d2, d3, d4] => { results := [.lit (.bool false)], args := [d1, d2, d3, d4] }
  | _ => none }
def HeadBackWrongFalsely : Prop := headBackRow.holds Try.pinned (OpenSpec.ofChange headBackWrong)

/-- 'pandectlaw8.HeadForms': WHATEVER THE INPUT: true; the input reads as it did. -/
def headFormsSpec : ChangeSpec := { name := "headForms", fn := fun _ => fun
  | [] => { results := [.lit (.bool true)], args := [] }
  | _ => none }
def headFormsRow : OpenClaim := { program := "ytfgeffmlfbeodaa", sum := "e3d84c46e3b814af89eae25d18c529a14f534ac821a79fa975e993ee65460d72", func := "pandect/pandectlaw8.HeadForms", spec := "headForms", apart := false }
def HeadFormsSaid : Prop := headFormsRow.holds Try.pinned (OpenSpec.ofChange headFormsSpec)

/-- ITS FALSE NEIGHBOUR: 'it returns false'. Refute it at one input. -/
def headFormsWrong : ChangeSpec := { name := "headForms", fn := fun _ => fun
  | [] => { results := [.lit (.bool false)], args := [] }
  | _ => none }
def HeadFormsWrongFalsely : Prop := headFormsRow.holds Try.pinned (OpenSpec.ofChange headFormsWrong)

/-- 'pandectlaw11.LeafGroups': WHATEVER THE INPUT: true; the input reads as it did. -/
def leafGroupsSpec : ChangeSpec := { name := "leafGroups", fn := fun _ => fun
  | [d] => { results := [.lit (.bool true)], args := [d] }
  | _ => none }
def leafGroupsRow : OpenClaim := { program := "ytfgeffmlfbeodaa", sum := "e3d84c46e3b814af89eae25d18c529a14f534ac821a79fa975e993ee65460d72", func := "pandect/pandectlaw11.LeafGroups", spec := "leafGroups", inPlace := ["internal/bytealg.Compare"], unfollowed := true, recurses := true, apart := false }
def LeafGroupsSaid : Prop := leafGroupsRow.holds Try.pinned (OpenSpec.ofChange leafGroupsSpec)

/-- ITS FALSE NEIGHBOUR: 'it returns false'. Refute it at one input. -/
def leafGroupsWrong : ChangeSpec := { name := "leafGroups", fn := fun _ => fun
  | [d] => { results := [.lit (.bool false)], args := [d] }
  | _ => none }
def LeafGroupsWrongFalsely : Prop := leafGroupsRow.holds Try.pinned (OpenSpec.ofChange leafGroupsWrong)

/-- 'pandectlaw11.LeafForms': WHATEVER THE INPUT: true; the input reads as it did. -/
def leafFormsSpec : ChangeSpec := { name := "leafForms", fn := fun _ => fun
  | [] => { results := [.lit (.bool true)], args := [] }
  | _ => none }
def leafFormsRow : OpenClaim := { program := "ytfgeffmlfbeodaa", sum := "e3d84c46e3b814af89eae25d18c529a14f534ac821a79fa975e993ee65460d72", func := "pandect/pandectlaw11.LeafForms", spec := "leafForms", inPlace := ["internal/bytealg.Compare"], unfollowed := true, recurses := true, apart := false }
def LeafFormsSaid : Prop := leafFormsRow.holds Try.pinned (OpenSpec.ofChange leafFormsSpec)

/-- ITS FALSE NEIGHBOUR: 'it returns false'. Refute it at one input. -/
def leafFormsWrong : ChangeSpec := { name := "leafForms", fn := fun _ => fun
  | [] => { results := [.lit (.bool false)], args := [] }
  | _ => none }
def LeafFormsWrongFalsely : Prop := leafFormsRow.holds Try.pinned (OpenSpec.ofChange leafFormsWrong)

/-- 'pandectlaw6.KeyAll': WHATEVER THE INPUT: true; the input reads as it did. -/
def keyAllSpec : ChangeSpec := { name := "keyAll", fn := fun _ => fun
  | [d1, d2, d3] => { results := [.lit (.bool true)], args := [d1, d2, d3] }
  | _ => none }
def keyAllRow : OpenClaim := { program := "ytfgeffmlfbeodaa", sum := "e3d84c46e3b814af89eae25d18c529a14f534ac821a79fa975e993ee65460d72", func := "pandect/pandectlaw6.KeyAll", spec := "keyAll", unfollowed := true, recurses := true, apart := false }
def KeyAllSaid : Prop := keyAllRow.holds Try.pinned (OpenSpec.ofChange keyAllSpec)

/-- ITS FALSE NEIGHBOUR: 'it returns false'. Refute it at one input. -/
def keyAllWrong : ChangeSpec := { name := "keyAll", fn := fun _ => fun
  | [d1, d2, d3] => { results := [.lit (.bool false)], args := [d1, d2, d3] }
  | _ => none }
def KeyAllWrongFalsely : Prop := keyAllRow.holds Try.pinned (OpenSpec.ofChange keyAllWrong)

/-- 'pandectlaw6.KeyOrder': WHATEVER THE INPUT: true; the input reads as it did. -/
def keyOrderSpec : ChangeSpec := { name := "keyOrder", fn := fun _ => fun
  | [d1, d2, d3, d4] => { results := [.lit (.bool true)], args := [d1, d2, d3, d4] }
  | _ => none }
def keyOrderRow : OpenClaim := { program := "ytfgeffmlfbeodaa", sum := "e3d84c46e3b814af89eae25d18c529a14f534ac821a79fa975e993ee65460d72", func := "pandect/pandectlaw6.KeyOrder", spec := "keyOrder", unfollowed := true, recurses := true, apart := false }
def KeyOrderSaid : Prop := keyOrderRow.holds Try.pinned (OpenSpec.ofChange keyOrderSpec)

/-- ITS FALSE NEIGHBOUR: 'it returns false'. Refute it at one input. -/
def keyOrderWrong : ChangeSpec := { name := "keyOrder", fn := fun _ => fun
  | [d1, d2, d3, d4] => { results := [.lit (.bool false)], args := [d1, d2, d3, d4] }
  | _ => none }
def KeyOrderWrongFalsely : Prop := keyOrderRow.holds Try.pinned (OpenSpec.ofChange keyOrderWrong)

/-- 'pandectlaw6.KeyAfter': WHATEVER THE INPUT: true; the input reads as it did. -/
def keyAfterSpec : ChangeSpec := { name := "keyAfter", fn := fun _ => fun
  | [d1, d2] => { results := [.lit (.bool true)], args := [d1, d2] }
  | _ => none }
def keyAfterRow : OpenClaim := { program := "ytfgeffmlfbeodaa", sum := "e3d84c46e3b814af89eae25d18c529a14f534ac821a79fa975e993ee65460d72", func := "pandect/pandectlaw6.KeyAfter", spec := "keyAfter", unfollowed := true, recurses := true, apart := false }
def KeyAfterSaid : Prop := keyAfterRow.holds Try.pinned (OpenSpec.ofChange keyAfterSpec)

/-- ITS FALSE NEIGHBOUR: 'it returns false'. Refute it at one input. -/
def keyAfterWrong : ChangeSpec := { name := "keyAfter", fn := fun _ => fun
  | [d1, d2] => { results := [.lit (.bool false)], args := [d1, d2] }
  | _ => none }
def KeyAfterWrongFalsely : Prop := keyAfterRow.holds Try.pinned (OpenSpec.ofChange keyAfterWrong)

/-- 'pandectlaw6.KeyApart': WHATEVER THE INPUT: true; the input reads as it did. -/
def keyApartSpec : ChangeSpec := { name := "keyApart", fn := fun _ => fun
  | [d1, d2] => { results := [.lit (.bool true)], args := [d1, d2] }
  | _ => none }
def keyApartRow : OpenClaim := { program := "ytfgeffmlfbeodaa", sum := "e3d84c46e3b814af89eae25d18c529a14f534ac821a79fa975e993ee65460d72", func := "pandect/pandectlaw6.KeyApart", spec := "keyApart", unfollowed := true, recurses := true, apart := false }
def KeyApartSaid : Prop := keyApartRow.holds Try.pinned (OpenSpec.ofChange keyApartSpec)

/-- ITS FALSE NEIGHBOUR: 'it returns false'. Refute it at one input. -/
def keyApartWrong : ChangeSpec := { name := "keyApart", fn := fun _ => fun
  | [d1, d2] => { results := [.lit (.bool false)], args := [d1, d2] }
  | _ => none }
def KeyApartWrongFalsely : Prop := keyApartRow.holds Try.pinned (OpenSpec.ofChange keyApartWrong)

/-- 'pandectlaw6.KeyForms': WHATEVER THE INPUT: true; the input reads as it did. -/
def keyFormsSpec : ChangeSpec := { name := "keyForms", fn := fun _ => fun
  | [] => { results := [.lit (.bool true)], args := [] }
  | _ => none }
def keyFormsRow : OpenClaim := { program := "ytfgeffmlfbeodaa", sum := "e3d84c46e3b814af89eae25d18c529a14f534ac821a79fa975e993ee65460d72", func := "pandect/pandectlaw6.KeyForms", spec := "keyForms", unfollowed := true, recurses := true, apart := false }
def KeyFormsSaid : Prop := keyFormsRow.holds Try.pinned (OpenSpec.ofChange keyFormsSpec)

/-- ITS FALSE NEIGHBOUR: 'it returns false'. Refute it at one input. -/
def keyFormsWrong : ChangeSpec := { name := "keyForms", fn := fun _ => fun
  | [] => { results := [.lit (.bool false)], args := [] }
  | _ => none }
def KeyFormsWrongFalsely : Prop := keyFormsRow.holds Try.pinned (OpenSpec.ofChange keyFormsWrong)

/-- 'pandectlaw9.NodeBack': WHATEVER THE INPUT: true; the input reads as it did. -/
def nodeBackSpec : ChangeSpec := { name := "nodeBack", fn := fun _ => fun
  | [d1, d2, d3] => { results := [.lit (.bool true)], args := [d1, d2, d3] }
  | _ => none }
def nodeBackRow : OpenClaim := { program := "ytfgeffmlfbeodaa", sum := "e3d84c46e3b814af89eae25d18c529a14f534ac821a79fa975e993ee65460d72", func := "pandect/pandectlaw9.NodeBack", spec := "nodeBack", inPlace := ["internal/bytealg.Compare"], unfollowed := true, recurses := true, apart := false }
def NodeBackSaid : Prop := nodeBackRow.holds Try.pinned (OpenSpec.ofChange nodeBackSpec)

/-- ITS FALSE NEIGHBOUR: 'it returns false'. Refute it at one input. -/
def nodeBackWrong : ChangeSpec := { name := "nodeBack", fn := fun _ => fun
  | [d1, d2, d3] => { results := [.lit (.bool false)], args := [d1, d2, d3] }
  | _ => none }
def NodeBackWrongFalsely : Prop := nodeBackRow.holds Try.pinned (OpenSpec.ofChange nodeBackWrong)

/-- 'pandectlaw9.NodeForms': WHATEVER THE INPUT: true; the input reads as it did. -/
def nodeFormsSpec : ChangeSpec := { name := "nodeForms", fn := fun _ => fun
  | [] => { results := [.lit (.bool true)], args := [] }
  | _ => none }
def nodeFormsRow : OpenClaim := { program := "ytfgeffmlfbeodaa", sum := "e3d84c46e3b814af89eae25d18c529a14f534ac821a79fa975e993ee65460d72", func := "pandect/pandectlaw9.NodeForms", spec := "nodeForms", inPlace := ["internal/bytealg.Compare"], unfollowed := true, recurses := true, apart := false }
def NodeFormsSaid : Prop := nodeFormsRow.holds Try.pinned (OpenSpec.ofChange nodeFormsSpec)

/-- ITS FALSE NEIGHBOUR: 'it returns false'. Refute it at one input. -/
def nodeFormsWrong : ChangeSpec := { name := "nodeForms", fn := fun _ => fun
  | [] => { results := [.lit (.bool false)], args := [] }
  | _ => none }
def NodeFormsWrongFalsely : Prop := nodeFormsRow.holds Try.pinned (OpenSpec.ofChange nodeFormsWrong)

/- THE SECOND FORM. 'bulk': how many values and letters a reading holds, each counted each time it is reached (what is shared counts as often as it is met; a slice's spare places count too). A statement '..UptoSaid' is the law's where the arguments, and the package variables that the reading takes, are together of bulk at most 1048576: NARROWER than '..Said'. Prove '..Said' where nothing that the law and all that it calls make is longer than what came in: it says more and counts as full. Else prove '..UptoSaid'. A law counts once. -/
mutual
def uptoBulk {H : Type} : DataW H → Nat
  | .lit (.string bytes) => bytes.length + 1
  | .lit _ => 1
  | .nil => 1
  | .ptr d => uptoBulk d + 1
  | .slice elems spare => uptoBulkAll elems + uptoBulkAll spare + 1
  | .agg parts => uptoBulkAll parts + 1
  | .iface _ d => uptoBulk d + 1
  | .map entries => uptoBulkEntries entries + 1
  | .held _ => 1
def uptoBulkAll {H : Type} : List (DataW H) → Nat
  | [] => 0
  | d :: r => uptoBulk d + uptoBulkAll r
def uptoBulkEntries {H : Type} : List (Lit × DataW H) → Nat
  | [] => 0
  | x :: r => uptoBulkEntry x + uptoBulkEntries r
def uptoBulkEntry {H : Type} : Lit × DataW H → Nat
  | (.string bytes, d) => bytes.length + uptoBulk d + 1
  | (_, d) => uptoBulk d + 1
 end
def uptoSmall : (H : Type) → List (DataW H) → Bool := fun _ ds => decide (uptoBulkAll ds ≤ 1048576)
def OpenSpec.upto (s : _root_.Go.ChangeSpec) : _root_.Go.OpenSpec := { _root_.Go.OpenSpec.ofChange s with cond := some uptoSmall }

/-- 'pandectlaw7.EventAll', WHERE WHAT IT READS IS OF BULK AT MOST 1048576: true; the input reads as it did. -/
def eventAllUptoRow : OpenClaim := { program := "ytfgeffmlfbeodaa", sum := "e3d84c46e3b814af89eae25d18c529a14f534ac821a79fa975e993ee65460d72", func := "pandect/pandectlaw7.EventAll", spec := "eventAll", unfollowed := true, recurses := true, apart := false, narrowed := true }
def EventAllUptoSaid : Prop := eventAllUptoRow.holds Try.pinned (OpenSpec.upto eventAllSpec)

/-- 'pandectlaw7.EventBack', WHERE WHAT IT READS IS OF BULK AT MOST 1048576: true; the input reads as it did. -/
def eventBackUptoRow : OpenClaim := { program := "ytfgeffmlfbeodaa", sum := "e3d84c46e3b814af89eae25d18c529a14f534ac821a79fa975e993ee65460d72", func := "pandect/pandectlaw7.EventBack", spec := "eventBack", unfollowed := true, recurses := true, apart := false, narrowed := true }
def EventBackUptoSaid : Prop := eventBackUptoRow.holds Try.pinned (OpenSpec.upto eventBackSpec)

/-- 'pandectlaw7.EventForms', WHERE WHAT IT READS IS OF BULK AT MOST 1048576: true; the input reads as it did. -/
def eventFormsUptoRow : OpenClaim := { program := "ytfgeffmlfbeodaa", sum := "e3d84c46e3b814af89eae25d18c529a14f534ac821a79fa975e993ee65460d72", func := "pandect/pandectlaw7.EventForms", spec := "eventForms", unfollowed := true, recurses := true, apart := false, narrowed := true }
def EventFormsUptoSaid : Prop := eventFormsUptoRow.holds Try.pinned (OpenSpec.upto eventFormsSpec)

/-- 'pandectlaw8.HeadAll', WHERE WHAT IT READS IS OF BULK AT MOST 1048576: true; the input reads as it did. -/
def headAllUptoRow : OpenClaim := { program := "ytfgeffmlfbeodaa", sum := "e3d84c46e3b814af89eae25d18c529a14f534ac821a79fa975e993ee65460d72", func := "pandect/pandectlaw8.HeadAll", spec := "headAll", apart := false, narrowed := true }
def HeadAllUptoSaid : Prop := headAllUptoRow.holds Try.pinned (OpenSpec.upto headAllSpec)

/-- 'pandectlaw8.HeadBack', WHERE WHAT IT READS IS OF BULK AT MOST 1048576: true; the input reads as it did. -/
def headBackUptoRow : OpenClaim := { program := "ytfgeffmlfbeodaa", sum := "e3d84c46e3b814af89eae25d18c529a14f534ac821a79fa975e993ee65460d72", func := "pandect/pandectlaw8.HeadBack", spec := "headBack", apart := false, narrowed := true }
def HeadBackUptoSaid : Prop := headBackUptoRow.holds Try.pinned (OpenSpec.upto headBackSpec)

/-- 'pandectlaw8.HeadForms', WHERE WHAT IT READS IS OF BULK AT MOST 1048576: true; the input reads as it did. -/
def headFormsUptoRow : OpenClaim := { program := "ytfgeffmlfbeodaa", sum := "e3d84c46e3b814af89eae25d18c529a14f534ac821a79fa975e993ee65460d72", func := "pandect/pandectlaw8.HeadForms", spec := "headForms", apart := false, narrowed := true }
def HeadFormsUptoSaid : Prop := headFormsUptoRow.holds Try.pinned (OpenSpec.upto headFormsSpec)

/-- 'pandectlaw11.LeafGroups', WHERE WHAT IT READS IS OF BULK AT MOST 1048576: true; the input reads as it did. -/
def leafGroupsUptoRow : OpenClaim := { program := "ytfgeffmlfbeodaa", sum := "e3d84c46e3b814af89eae25d18c529a14f534ac821a79fa975e993ee65460d72", func := "pandect/pandectlaw11.LeafGroups", spec := "leafGroups", inPlace := ["internal/bytealg.Compare"], unfollowed := true, recurses := true, apart := false, narrowed := true }
def LeafGroupsUptoSaid : Prop := leafGroupsUptoRow.holds Try.pinned (OpenSpec.upto leafGroupsSpec)

/-- 'pandectlaw11.LeafForms', WHERE WHAT IT READS IS OF BULK AT MOST 1048576: true; the input reads as it did. -/
def leafFormsUptoRow : OpenClaim := { program := "ytfgeffmlfbeodaa", sum := "e3d84c46e3b814af89eae25d18c529a14f534ac821a79fa975e993ee65460d72", func := "pandect/pandectlaw11.LeafForms", spec := "leafForms", inPlace := ["internal/bytealg.Compare"], unfollowed := true, recurses := true, apart := false, narrowed := true }
def LeafFormsUptoSaid : Prop := leafFormsUptoRow.holds Try.pinned (OpenSpec.upto leafFormsSpec)

/-- 'pandectlaw6.KeyAll', WHERE WHAT IT READS IS OF BULK AT MOST 1048576: true; the input reads as it did. -/
def keyAllUptoRow : OpenClaim := { program := "ytfgeffmlfbeodaa", sum := "e3d84c46e3b814af89eae25d18c529a14f534ac821a79fa975e993ee65460d72", func := "pandect/pandectlaw6.KeyAll", spec := "keyAll", unfollowed := true, recurses := true, apart := false, narrowed := true }
def KeyAllUptoSaid : Prop := keyAllUptoRow.holds Try.pinned (OpenSpec.upto keyAllSpec)

/-- 'pandectlaw6.KeyOrder', WHERE WHAT IT READS IS OF BULK AT MOST 1048576: true; the input reads as it did. -/
def keyOrderUptoRow : OpenClaim := { program := "ytfgeffmlfbeodaa", sum := "e3d84c46e3b814af89eae25d18c529a14f534ac821a79fa975e993ee65460d72", func := "pandect/pandectlaw6.KeyOrder", spec := "keyOrder", unfollowed := true, recurses := true, apart := false, narrowed := true }
def KeyOrderUptoSaid : Prop := keyOrderUptoRow.holds Try.pinned (OpenSpec.upto keyOrderSpec)

/-- 'pandectlaw6.KeyAfter', WHERE WHAT IT READS IS OF BULK AT MOST 1048576: true; the input reads as it did. -/
def keyAfterUptoRow : OpenClaim := { program := "ytfgeffmlfbeodaa", sum := "e3d84c46e3b814af89eae25d18c529a14f534ac821a79fa975e993ee65460d72", func := "pandect/pandectlaw6.KeyAfter", spec := "keyAfter", unfollowed := true, recurses := true, apart := false, narrowed := true }
def KeyAfterUptoSaid : Prop := keyAfterUptoRow.holds Try.pinned (OpenSpec.upto keyAfterSpec)

/-- 'pandectlaw6.KeyApart', WHERE WHAT IT READS IS OF BULK AT MOST 1048576: true; the input reads as it did. -/
def keyApartUptoRow : OpenClaim := { program := "ytfgeffmlfbeodaa", sum := "e3d84c46e3b814af89eae25d18c529a14f534ac821a79fa975e993ee65460d72", func := "pandect/pandectlaw6.KeyApart", spec := "keyApart", unfollowed := true, recurses := true, apart := false, narrowed := true }
def KeyApartUptoSaid : Prop := keyApartUptoRow.holds Try.pinned (OpenSpec.upto keyApartSpec)

/-- 'pandectlaw6.KeyForms', WHERE WHAT IT READS IS OF BULK AT MOST 1048576: true; the input reads as it did. -/
def keyFormsUptoRow : OpenClaim := { program := "ytfgeffmlfbeodaa", sum := "e3d84c46e3b814af89eae25d18c529a14f534ac821a79fa975e993ee65460d72", func := "pandect/pandectlaw6.KeyForms", spec := "keyForms", unfollowed := true, recurses := true, apart := false, narrowed := true }
def KeyFormsUptoSaid : Prop := keyFormsUptoRow.holds Try.pinned (OpenSpec.upto keyFormsSpec)

/-- 'pandectlaw9.NodeBack', WHERE WHAT IT READS IS OF BULK AT MOST 1048576: true; the input reads as it did. -/
def nodeBackUptoRow : OpenClaim := { program := "ytfgeffmlfbeodaa", sum := "e3d84c46e3b814af89eae25d18c529a14f534ac821a79fa975e993ee65460d72", func := "pandect/pandectlaw9.NodeBack", spec := "nodeBack", inPlace := ["internal/bytealg.Compare"], unfollowed := true, recurses := true, apart := false, narrowed := true }
def NodeBackUptoSaid : Prop := nodeBackUptoRow.holds Try.pinned (OpenSpec.upto nodeBackSpec)

/-- 'pandectlaw9.NodeForms', WHERE WHAT IT READS IS OF BULK AT MOST 1048576: true; the input reads as it did. -/
def nodeFormsUptoRow : OpenClaim := { program := "ytfgeffmlfbeodaa", sum := "e3d84c46e3b814af89eae25d18c529a14f534ac821a79fa975e993ee65460d72", func := "pandect/pandectlaw9.NodeForms", spec := "nodeForms", inPlace := ["internal/bytealg.Compare"], unfollowed := true, recurses := true, apart := false, narrowed := true }
def NodeFormsUptoSaid : Prop := nodeFormsUptoRow.holds Try.pinned (OpenSpec.upto nodeFormsSpec)

end Rows
end Go.Proofs.Ytfgeffmlfbeodaa
