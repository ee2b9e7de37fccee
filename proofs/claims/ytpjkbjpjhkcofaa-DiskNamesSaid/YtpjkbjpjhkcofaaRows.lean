/-
  No cell of these rows narrows 'for every input' (looked for: loops, veiled, ifaces, maps, wideKeys, modest, calm, conditions, laid).
  DERIVED. THE GIVEN ROWS OF THIS SEAT. 12 by the template 'for every input the law returns true; each argument reads behind the call as it read before'; 0 by the template 'total and deterministic' (their statements: YtpjkbjpjhkcofaaTotals.lean).
  GIVEN WITH THE SEED: the statements are not yours to turn. If you find one false, say at which input.
  Laid BY PROGRAM, IN A SANDBOX (cutbox-rows.mjs): the forced cells as the released guide's own fill.sh prints them over the translation f3edc255ae6075ab… (all of the seat's roots in one cut). By AI agents, Wed Nov 11 2026. No macro, syntax, notation, axiom, sorry.
-/
import Derived.Test.YtpjkbjpjhkcofaaChecked
import GoSem.Claim
import GoSem.ClaimJoined
import GoSem.ClaimMapViews
import Derived.JoinedTies
import Derived.KernelRfl
namespace Go.Proofs.Ytpjkbjpjhkcofaa
/- THE CELL 'sum', in the pinned program and in every row, IS THE sha256 OF THE DUMP (.gsa) THAT YtpjkbjpjhkcofaaProg.lean LOADS. Nothing in Lean hashes anything: it is a label: what it is worth is what the hold of that sum in a sandbox is worth. -/
noncomputable def Try.pinned : Pinned := { name := "ytpjkbjpjhkcofaa", sum := "f3edc255ae6075ab4dc8214a82e2ee83a796e569576d3c39529771f543f9efa5", checked := Try.checked }
namespace Rows
def none {H : Type} : Left H := { results := [], args := [] }

/-- 'pandectlaw5.FileFails': WHATEVER THE INPUT: true; the input reads as it did. -/
def fileFailsSpec : ChangeSpec := { name := "fileFails", fn := fun _ => fun
  | [d1, d2] => { results := [.lit (.bool true)], args := [d1, d2] }
  | _ => none }
def fileFailsRow : OpenClaim := { program := "ytpjkbjpjhkcofaa", sum := "f3edc255ae6075ab4dc8214a82e2ee83a796e569576d3c39529771f543f9efa5", func := "pandect/pandectlaw5.FileFails", spec := "fileFails", unfollowed := true, recurses := true, apart := false }
def FileFailsSaid : Prop := fileFailsRow.holds Try.pinned (OpenSpec.ofChange fileFailsSpec)

/-- ITS FALSE NEIGHBOUR: 'it returns false'. Refute it at one input. -/
def fileFailsWrong : ChangeSpec := { name := "fileFails", fn := fun _ => fun
  | [d1, d2] => { results := [.lit (.bool false)], args := [d1, d2] }
  | _ => none }
def FileFailsWrongFalsely : Prop := fileFailsRow.holds Try.pinned (OpenSpec.ofChange fileFailsWrong)

/-- 'pandectlaw5.FileNone': WHATEVER THE INPUT: true; the input reads as it did. -/
def fileNoneSpec : ChangeSpec := { name := "fileNone", fn := fun _ => fun
  | [d1, d2] => { results := [.lit (.bool true)], args := [d1, d2] }
  | _ => none }
def fileNoneRow : OpenClaim := { program := "ytpjkbjpjhkcofaa", sum := "f3edc255ae6075ab4dc8214a82e2ee83a796e569576d3c39529771f543f9efa5", func := "pandect/pandectlaw5.FileNone", spec := "fileNone", unfollowed := true, recurses := true, apart := false }
def FileNoneSaid : Prop := fileNoneRow.holds Try.pinned (OpenSpec.ofChange fileNoneSpec)

/-- ITS FALSE NEIGHBOUR: 'it returns false'. Refute it at one input. -/
def fileNoneWrong : ChangeSpec := { name := "fileNone", fn := fun _ => fun
  | [d1, d2] => { results := [.lit (.bool false)], args := [d1, d2] }
  | _ => none }
def FileNoneWrongFalsely : Prop := fileNoneRow.holds Try.pinned (OpenSpec.ofChange fileNoneWrong)

/-- 'pandectlaw1.DiskSynced': WHATEVER THE INPUT: true; the input reads as it did. -/
def diskSyncedSpec : ChangeSpec := { name := "diskSynced", fn := fun _ => fun
  | [d1, d2, d3] => { results := [.lit (.bool true)], args := [d1, d2, d3] }
  | _ => none }
def diskSyncedRow : OpenClaim := { program := "ytpjkbjpjhkcofaa", sum := "f3edc255ae6075ab4dc8214a82e2ee83a796e569576d3c39529771f543f9efa5", func := "pandect/pandectlaw1.DiskSynced", spec := "diskSynced", inPlace := ["maps.clone"], unfollowed := true, recurses := true, apart := false }
def DiskSyncedSaid : Prop := diskSyncedRow.holds Try.pinned (OpenSpec.ofChange diskSyncedSpec)

/-- ITS FALSE NEIGHBOUR: 'it returns false'. Refute it at one input. -/
def diskSyncedWrong : ChangeSpec := { name := "diskSynced", fn := fun _ => fun
  | [d1, d2, d3] => { results := [.lit (.bool false)], args := [d1, d2, d3] }
  | _ => none }
def DiskSyncedWrongFalsely : Prop := diskSyncedRow.holds Try.pinned (OpenSpec.ofChange diskSyncedWrong)

/-- 'pandectlaw1.DiskNames': WHATEVER THE INPUT: true; the input reads as it did. -/
def diskNamesSpec : ChangeSpec := { name := "diskNames", fn := fun _ => fun
  | [d1, d2] => { results := [.lit (.bool true)], args := [d1, d2] }
  | _ => none }
def diskNamesRow : OpenClaim := { program := "ytpjkbjpjhkcofaa", sum := "f3edc255ae6075ab4dc8214a82e2ee83a796e569576d3c39529771f543f9efa5", func := "pandect/pandectlaw1.DiskNames", spec := "diskNames", inPlace := ["maps.clone"], unfollowed := true, recurses := true, apart := false }
def DiskNamesSaid : Prop := diskNamesRow.holds Try.pinned (OpenSpec.ofChange diskNamesSpec)

/-- ITS FALSE NEIGHBOUR: 'it returns false'. Refute it at one input. -/
def diskNamesWrong : ChangeSpec := { name := "diskNames", fn := fun _ => fun
  | [d1, d2] => { results := [.lit (.bool false)], args := [d1, d2] }
  | _ => none }
def DiskNamesWrongFalsely : Prop := diskNamesRow.holds Try.pinned (OpenSpec.ofChange diskNamesWrong)

/-- 'pandectlaw1.DiskCopies': WHATEVER THE INPUT: true; the input reads as it did. -/
def diskCopiesSpec : ChangeSpec := { name := "diskCopies", fn := fun _ => fun
  | [d1, d2] => { results := [.lit (.bool true)], args := [d1, d2] }
  | _ => none }
def diskCopiesRow : OpenClaim := { program := "ytpjkbjpjhkcofaa", sum := "f3edc255ae6075ab4dc8214a82e2ee83a796e569576d3c39529771f543f9efa5", func := "pandect/pandectlaw1.DiskCopies", spec := "diskCopies", inPlace := ["maps.clone"], unfollowed := true, recurses := true, apart := false }
def DiskCopiesSaid : Prop := diskCopiesRow.holds Try.pinned (OpenSpec.ofChange diskCopiesSpec)

/-- ITS FALSE NEIGHBOUR: 'it returns false'. Refute it at one input. -/
def diskCopiesWrong : ChangeSpec := { name := "diskCopies", fn := fun _ => fun
  | [d1, d2] => { results := [.lit (.bool false)], args := [d1, d2] }
  | _ => none }
def DiskCopiesWrongFalsely : Prop := diskCopiesRow.holds Try.pinned (OpenSpec.ofChange diskCopiesWrong)

/-- 'pandectlaw1.DiskRoom': WHATEVER THE INPUT: true; the input reads as it did. -/
def diskRoomSpec : ChangeSpec := { name := "diskRoom", fn := fun _ => fun
  | [d1, d2] => { results := [.lit (.bool true)], args := [d1, d2] }
  | _ => none }
def diskRoomRow : OpenClaim := { program := "ytpjkbjpjhkcofaa", sum := "f3edc255ae6075ab4dc8214a82e2ee83a796e569576d3c39529771f543f9efa5", func := "pandect/pandectlaw1.DiskRoom", spec := "diskRoom", inPlace := ["maps.clone"], unfollowed := true, recurses := true, apart := false }
def DiskRoomSaid : Prop := diskRoomRow.holds Try.pinned (OpenSpec.ofChange diskRoomSpec)

/-- ITS FALSE NEIGHBOUR: 'it returns false'. Refute it at one input. -/
def diskRoomWrong : ChangeSpec := { name := "diskRoom", fn := fun _ => fun
  | [d1, d2] => { results := [.lit (.bool false)], args := [d1, d2] }
  | _ => none }
def DiskRoomWrongFalsely : Prop := diskRoomRow.holds Try.pinned (OpenSpec.ofChange diskRoomWrong)

/-- 'pandectlaw1.DiskForms': WHATEVER THE INPUT: true; the input reads as it did. -/
def diskFormsSpec : ChangeSpec := { name := "diskForms", fn := fun _ => fun
  | [] => { results := [.lit (.bool true)], args := [] }
  | _ => none }
def diskFormsRow : OpenClaim := { program := "ytpjkbjpjhkcofaa", sum := "f3edc255ae6075ab4dc8214a82e2ee83a796e569576d3c39529771f543f9efa5", func := "pandect/pandectlaw1.DiskForms", spec := "diskForms", inPlace := ["maps.clone"], unfollowed := true, recurses := true, apart := false }
def DiskFormsSaid : Prop := diskFormsRow.holds Try.pinned (OpenSpec.ofChange diskFormsSpec)

/-- ITS FALSE NEIGHBOUR: 'it returns false'. Refute it at one input. -/
def diskFormsWrong : ChangeSpec := { name := "diskForms", fn := fun _ => fun
  | [] => { results := [.lit (.bool false)], args := [] }
  | _ => none }
def DiskFormsWrongFalsely : Prop := diskFormsRow.holds Try.pinned (OpenSpec.ofChange diskFormsWrong)

/-- 'pandectlaw1.DiskNone': WHATEVER THE INPUT: true; the input reads as it did. -/
def diskNoneSpec : ChangeSpec := { name := "diskNone", fn := fun _ => fun
  | [d1, d2, d3] => { results := [.lit (.bool true)], args := [d1, d2, d3] }
  | _ => none }
def diskNoneRow : OpenClaim := { program := "ytpjkbjpjhkcofaa", sum := "f3edc255ae6075ab4dc8214a82e2ee83a796e569576d3c39529771f543f9efa5", func := "pandect/pandectlaw1.DiskNone", spec := "diskNone", inPlace := ["maps.clone"], unfollowed := true, recurses := true, apart := false }
def DiskNoneSaid : Prop := diskNoneRow.holds Try.pinned (OpenSpec.ofChange diskNoneSpec)

/-- ITS FALSE NEIGHBOUR: 'it returns false'. Refute it at one input. -/
def diskNoneWrong : ChangeSpec := { name := "diskNone", fn := fun _ => fun
  | [d1, d2, d3] => { results := [.lit (.bool false)], args := [d1, d2, d3] }
  | _ => none }
def DiskNoneWrongFalsely : Prop := diskNoneRow.holds Try.pinned (OpenSpec.ofChange diskNoneWrong)

/-- 'pandectlaw1.DiskFails': WHATEVER THE INPUT: true; the input reads as it did. -/
def diskFailsSpec : ChangeSpec := { name := "diskFails", fn := fun _ => fun
  | [d] => { results := [.lit (.bool true)], args := [d] }
  | _ => none }
def diskFailsRow : OpenClaim := { program := "ytpjkbjpjhkcofaa", sum := "f3edc255ae6075ab4dc8214a82e2ee83a796e569576d3c39529771f543f9efa5", func := "pandect/pandectlaw1.DiskFails", spec := "diskFails", inPlace := ["maps.clone"], unfollowed := true, recurses := true, apart := false }
def DiskFailsSaid : Prop := diskFailsRow.holds Try.pinned (OpenSpec.ofChange diskFailsSpec)

/-- ITS FALSE NEIGHBOUR: 'it returns false'. Refute it at one input. -/
def diskFailsWrong : ChangeSpec := { name := "diskFails", fn := fun _ => fun
  | [d] => { results := [.lit (.bool false)], args := [d] }
  | _ => none }
def DiskFailsWrongFalsely : Prop := diskFailsRow.holds Try.pinned (OpenSpec.ofChange diskFailsWrong)

/-- 'pandectlaw5.FileTwo': WHATEVER THE INPUT: true; the input reads as it did. -/
def fileTwoSpec : ChangeSpec := { name := "fileTwo", fn := fun _ => fun
  | [d] => { results := [.lit (.bool true)], args := [d] }
  | _ => none }
def fileTwoRow : OpenClaim := { program := "ytpjkbjpjhkcofaa", sum := "f3edc255ae6075ab4dc8214a82e2ee83a796e569576d3c39529771f543f9efa5", func := "pandect/pandectlaw5.FileTwo", spec := "fileTwo", unfollowed := true, recurses := true, apart := false }
def FileTwoSaid : Prop := fileTwoRow.holds Try.pinned (OpenSpec.ofChange fileTwoSpec)

/-- ITS FALSE NEIGHBOUR: 'it returns false'. Refute it at one input. -/
def fileTwoWrong : ChangeSpec := { name := "fileTwo", fn := fun _ => fun
  | [d] => { results := [.lit (.bool false)], args := [d] }
  | _ => none }
def FileTwoWrongFalsely : Prop := fileTwoRow.holds Try.pinned (OpenSpec.ofChange fileTwoWrong)

/-- 'pandectlaw5.FileSynced': WHATEVER THE INPUT: true; the input reads as it did. -/
def fileSyncedSpec : ChangeSpec := { name := "fileSynced", fn := fun _ => fun
  | [d1, d2, d3] => { results := [.lit (.bool true)], args := [d1, d2, d3] }
  | _ => none }
def fileSyncedRow : OpenClaim := { program := "ytpjkbjpjhkcofaa", sum := "f3edc255ae6075ab4dc8214a82e2ee83a796e569576d3c39529771f543f9efa5", func := "pandect/pandectlaw5.FileSynced", spec := "fileSynced", inPlace := ["maps.clone"], unfollowed := true, recurses := true, apart := false }
def FileSyncedSaid : Prop := fileSyncedRow.holds Try.pinned (OpenSpec.ofChange fileSyncedSpec)

/-- ITS FALSE NEIGHBOUR: 'it returns false'. Refute it at one input. -/
def fileSyncedWrong : ChangeSpec := { name := "fileSynced", fn := fun _ => fun
  | [d1, d2, d3] => { results := [.lit (.bool false)], args := [d1, d2, d3] }
  | _ => none }
def FileSyncedWrongFalsely : Prop := fileSyncedRow.holds Try.pinned (OpenSpec.ofChange fileSyncedWrong)

/-- 'pandectlaw5.FileHolds': WHATEVER THE INPUT: true; the input reads as it did. -/
def fileHoldsSpec : ChangeSpec := { name := "fileHolds", fn := fun _ => fun
  | [d1, d2, d3] => { results := [.lit (.bool true)], args := [d1, d2, d3] }
  | _ => none }
def fileHoldsRow : OpenClaim := { program := "ytpjkbjpjhkcofaa", sum := "f3edc255ae6075ab4dc8214a82e2ee83a796e569576d3c39529771f543f9efa5", func := "pandect/pandectlaw5.FileHolds", spec := "fileHolds", inPlace := ["maps.clone"], unfollowed := true, recurses := true, apart := false }
def FileHoldsSaid : Prop := fileHoldsRow.holds Try.pinned (OpenSpec.ofChange fileHoldsSpec)

/-- ITS FALSE NEIGHBOUR: 'it returns false'. Refute it at one input. -/
def fileHoldsWrong : ChangeSpec := { name := "fileHolds", fn := fun _ => fun
  | [d1, d2, d3] => { results := [.lit (.bool false)], args := [d1, d2, d3] }
  | _ => none }
def FileHoldsWrongFalsely : Prop := fileHoldsRow.holds Try.pinned (OpenSpec.ofChange fileHoldsWrong)

/- THE SECOND FORM. 'bulk': how many values and letters a reading holds, each counted each time it is reached (what is shared counts as often as it is met; a slice's spare places count too). A statement '..UptoSaid' is the law's where the arguments, and the package variables that the reading takes, are together of bulk at most 1048576: NARROWER than '..Said'. Prove '..Said' where nothing that the law and all that it calls make is longer than what came in: it says more and counts as full. Else prove '..UptoSaid'. A law counts once. -/
mutual
def uptoBulk {H : Type} : DataW H → Nat
  | .lit (.string bytes) => bytes.length + 1
  | .lit _ => 1
  | .nil => 1
  | .ptr d => uptoBulk d + 1
  | .slice elems spare => uptoBulkAll elems + uptoBulkAll spare + 1
  | .agg parts => uptoBulkAll parts + 1
  | .iface _ d => uptoBulk d + 1
  | .map entries => uptoBulkEntries entries + 1
  | .held _ => 1
def uptoBulkAll {H : Type} : List (DataW H) → Nat
  | [] => 0
  | d :: r => uptoBulk d + uptoBulkAll r
def uptoBulkEntries {H : Type} : List (Lit × DataW H) → Nat
  | [] => 0
  | x :: r => uptoBulkEntry x + uptoBulkEntries r
def uptoBulkEntry {H : Type} : Lit × DataW H → Nat
  | (.string bytes, d) => bytes.length + uptoBulk d + 1
  | (_, d) => uptoBulk d + 1
 end
def uptoSmall : (H : Type) → List (DataW H) → Bool := fun _ ds => decide (uptoBulkAll ds ≤ 1048576)
def OpenSpec.upto (s : _root_.Go.ChangeSpec) : _root_.Go.OpenSpec := { _root_.Go.OpenSpec.ofChange s with cond := some uptoSmall }

/-- 'pandectlaw5.FileFails', WHERE WHAT IT READS IS OF BULK AT MOST 1048576: true; the input reads as it did. -/
def fileFailsUptoRow : OpenClaim := { program := "ytpjkbjpjhkcofaa", sum := "f3edc255ae6075ab4dc8214a82e2ee83a796e569576d3c39529771f543f9efa5", func := "pandect/pandectlaw5.FileFails", spec := "fileFails", unfollowed := true, recurses := true, apart := false, narrowed := true }
def FileFailsUptoSaid : Prop := fileFailsUptoRow.holds Try.pinned (OpenSpec.upto fileFailsSpec)

/-- 'pandectlaw5.FileNone', WHERE WHAT IT READS IS OF BULK AT MOST 1048576: true; the input reads as it did. -/
def fileNoneUptoRow : OpenClaim := { program := "ytpjkbjpjhkcofaa", sum := "f3edc255ae6075ab4dc8214a82e2ee83a796e569576d3c39529771f543f9efa5", func := "pandect/pandectlaw5.FileNone", spec := "fileNone", unfollowed := true, recurses := true, apart := false, narrowed := true }
def FileNoneUptoSaid : Prop := fileNoneUptoRow.holds Try.pinned (OpenSpec.upto fileNoneSpec)

/-- 'pandectlaw1.DiskSynced', WHERE WHAT IT READS IS OF BULK AT MOST 1048576: true; the input reads as it did. -/
def diskSyncedUptoRow : OpenClaim := { program := "ytpjkbjpjhkcofaa", sum := "f3edc255ae6075ab4dc8214a82e2ee83a796e569576d3c39529771f543f9efa5", func := "pandect/pandectlaw1.DiskSynced", spec := "diskSynced", inPlace := ["maps.clone"], unfollowed := true, recurses := true, apart := false, narrowed := true }
def DiskSyncedUptoSaid : Prop := diskSyncedUptoRow.holds Try.pinned (OpenSpec.upto diskSyncedSpec)

/-- 'pandectlaw1.DiskNames', WHERE WHAT IT READS IS OF BULK AT MOST 1048576: true; the input reads as it did. -/
def diskNamesUptoRow : OpenClaim := { program := "ytpjkbjpjhkcofaa", sum := "f3edc255ae6075ab4dc8214a82e2ee83a796e569576d3c39529771f543f9efa5", func := "pandect/pandectlaw1.DiskNames", spec := "diskNames", inPlace := ["maps.clone"], unfollowed := true, recurses := true, apart := false, narrowed := true }
def DiskNamesUptoSaid : Prop := diskNamesUptoRow.holds Try.pinned (OpenSpec.upto diskNamesSpec)

/-- 'pandectlaw1.DiskCopies', WHERE WHAT IT READS IS OF BULK AT MOST 1048576: true; the input reads as it did. -/
def diskCopiesUptoRow : OpenClaim := { program := "ytpjkbjpjhkcofaa", sum := "f3edc255ae6075ab4dc8214a82e2ee83a796e569576d3c39529771f543f9efa5", func := "pandect/pandectlaw1.DiskCopies", spec := "diskCopies", inPlace := ["maps.clone"], unfollowed := true, recurses := true, apart := false, narrowed := true }
def DiskCopiesUptoSaid : Prop := diskCopiesUptoRow.holds Try.pinned (OpenSpec.upto diskCopiesSpec)

/-- 'pandectlaw1.DiskRoom', WHERE WHAT IT READS IS OF BULK AT MOST 1048576: true; the input reads as it did. -/
def diskRoomUptoRow : OpenClaim := { program := "ytpjkbjpjhkcofaa", sum := "f3edc255ae6075ab4dc8214a82e2ee83a796e569576d3c39529771f543f9efa5", func := "pandect/pandectlaw1.DiskRoom", spec := "diskRoom", inPlace := ["maps.clone"], unfollowed := true, recurses := true, apart := false, narrowed := true }
def DiskRoomUptoSaid : Prop := diskRoomUptoRow.holds Try.pinned (OpenSpec.upto diskRoomSpec)

/-- 'pandectlaw1.DiskForms', WHERE WHAT IT READS IS OF BULK AT MOST 1048576: true; the input reads as it did. -/
def diskFormsUptoRow : OpenClaim := { program := "ytpjkbjpjhkcofaa", sum := "f3edc255ae6075ab4dc8214a82e2ee83a796e569576d3c39529771f543f9efa5", func := "pandect/pandectlaw1.DiskForms", spec := "diskForms", inPlace := ["maps.clone"], unfollowed := true, recurses := true, apart := false, narrowed := true }
def DiskFormsUptoSaid : Prop := diskFormsUptoRow.holds Try.pinned (OpenSpec.upto diskFormsSpec)

/-- 'pandectlaw1.DiskNone', WHERE WHAT IT READS IS OF BULK AT MOST 1048576: true; the input reads as it did. -/
def diskNoneUptoRow : OpenClaim := { program := "ytpjkbjpjhkcofaa", sum := "f3edc255ae6075ab4dc8214a82e2ee83a796e569576d3c39529771f543f9efa5", func := "pandect/pandectlaw1.DiskNone", spec := "diskNone", inPlace := ["maps.clone"], unfollowed := true, recurses := true, apart := false, narrowed := true }
def DiskNoneUptoSaid : Prop := diskNoneUptoRow.holds Try.pinned (OpenSpec.upto diskNoneSpec)

/-- 'pandectlaw1.DiskFails', WHERE WHAT IT READS IS OF BULK AT MOST 1048576: true; the input reads as it did. -/
def diskFailsUptoRow : OpenClaim := { program := "ytpjkbjpjhkcofaa", sum := "f3edc255ae6075ab4dc8214a82e2ee83a796e569576d3c39529771f543f9efa5", func := "pandect/pandectlaw1.DiskFails", spec := "diskFails", inPlace := ["maps.clone"], unfollowed := true, recurses := true, apart := false, narrowed := true }
def DiskFailsUptoSaid : Prop := diskFailsUptoRow.holds Try.pinned (OpenSpec.upto diskFailsSpec)

/-- 'pandectlaw5.FileTwo', WHERE WHAT IT READS IS OF BULK AT MOST 1048576: true; the input reads as it did. -/
def fileTwoUptoRow : OpenClaim := { program := "ytpjkbjpjhkcofaa", sum := "f3edc255ae6075ab4dc8214a82e2ee83a796e569576d3c39529771f543f9efa5", func := "pandect/pandectlaw5.FileTwo", spec := "fileTwo", unfollowed := true, recurses := true, apart := false, narrowed := true }
def FileTwoUptoSaid : Prop := fileTwoUptoRow.holds Try.pinned (OpenSpec.upto fileTwoSpec)

/-- 'pandectlaw5.FileSynced', WHERE WHAT IT READS IS OF BULK AT MOST 1048576: true; the input reads as it did. -/
def fileSyncedUptoRow : OpenClaim := { program := "ytpjkbjpjhkcofaa", sum := "f3edc255ae6075ab4dc8214a82e2ee83a796e569576d3c39529771f543f9efa5", func := "pandect/pandectlaw5.FileSynced", spec := "fileSynced", inPlace := ["maps.clone"], unfollowed := true, recurses := true, apart := false, narrowed := true }
def FileSyncedUptoSaid : Prop := fileSyncedUptoRow.holds Try.pinned (OpenSpec.upto fileSyncedSpec)

/-- 'pandectlaw5.FileHolds', WHERE WHAT IT READS IS OF BULK AT MOST 1048576: true; the input reads as it did. -/
def fileHoldsUptoRow : OpenClaim := { program := "ytpjkbjpjhkcofaa", sum := "f3edc255ae6075ab4dc8214a82e2ee83a796e569576d3c39529771f543f9efa5", func := "pandect/pandectlaw5.FileHolds", spec := "fileHolds", inPlace := ["maps.clone"], unfollowed := true, recurses := true, apart := false, narrowed := true }
def FileHoldsUptoSaid : Prop := fileHoldsUptoRow.holds Try.pinned (OpenSpec.upto fileHoldsSpec)

end Rows
end Go.Proofs.Ytpjkbjpjhkcofaa
