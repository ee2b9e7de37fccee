/- Written by a program of this workplace. -/
import Derived.Test.YtfgeffmlfbeodaaOwn
import Derived.Test.YtfgeffmlfbeodaaMarked
import Derived.Test.YtfgeffmlfbeodaaShelf
import Derived.Test.YtfgeffmlfbeodaaNames
import Derived.Test.YtfgeffmlfbeodaaRGK
import Derived.Test.YtfgeffmlfbeodaaEvP
import Derived.Test.YtfgeffmlfbeodaaLoan
import Derived.Test.YtfgeffmlfbeodaaProg
import Derived.Below
import Derived.Deep.Draws
import Derived.Deep.AppendLies
import Derived.Maps.AppendAt
import Derived.OwnWalk
import Derived.Laws.BytesArg
import Derived.Laws.MakeOwn
import Derived.Laws.OwnMore
import Derived.Deep.OwnRows
import Derived.Tactics
import Derived.Lib.ConvBytes
import Derived.Laws.Slices
import Derived.WalkKit
import Derived.KernelRfl
import Derived.RowKit3
import Derived.Deep.LoopGhost
import Derived.Deep.QuietTactic
import Derived.BigQuiet
import Derived.WideLaws
import Derived.Deep.DeepCutAuto
import Derived.Deep.CutBlock
import Derived.Deep.RegionHeld3
import Derived.Laws.Rows
import Derived.Lib.AppendStr
import Derived.ArgAppend
import Derived.Laws.IdiomCopy
import Derived.OrdersHeld
import Derived.Laws.BitsLemmas
import Derived.RowKit
import Derived.Test.YtfgeffmlfbeodaaWWords
import Derived.Test.YtfgeffmlfbeodaaWLast
import Derived.Test.YtfgeffmlfbeodaaWTab
import Derived.Test.YtfgeffmlfbeodaaWFour
import Derived.Test.YtfgeffmlfbeodaaWQPut
import Derived.Test.YtfgeffmlfbeodaaWApart
import Derived.Test.YtfgeffmlfbeodaaWArr
import Derived.Test.YtfgeffmlfbeodaaWZeros
import Derived.Test.YtfgeffmlfbeodaaWFoot
import Derived.Test.YtfgeffmlfbeodaaWKept
import Derived.Test.YtfgeffmlfbeodaaWShare
import Derived.Test.YtfgeffmlfbeodaaWN
import Derived.Test.YtfgeffmlfbeodaaWFootNe
import Derived.Test.YtfgeffmlfbeodaaWAt
import Derived.Test.YtfgeffmlfbeodaaWEqStruct
import Derived.Test.YtfgeffmlfbeodaaWRepsOne
import Derived.Test.YtfgeffmlfbeodaaWInv
import Derived.Test.YtfgeffmlfbeodaaWInvWords
import Derived.Test.YtfgeffmlfbeodaaWGuard
import Derived.Test.YtfgeffmlfbeodaaWNEv
import Derived.Test.YtfgeffmlfbeodaaWMore
namespace Go.Proofs.Ytfgeffmlfbeodaa.PEventAll
open Go.RowKit Go.Proofs.YtfgeffmlfbeodaaW.PrintWords Go.Proofs.YtfgeffmlfbeodaaW.PrintLast Go.Proofs.YtfgeffmlfbeodaaW.PrintMore
attribute [local go_sem] max2_int min2_int max_two min_two max_three min_three max_four min_four   -- for this text's walks alone
set_option linter.unusedVariables false
set_option linter.unusedSimpArgs false



def errW : Option Int → Value
  | none => .nilIface
  | some c => .iface 0 (.int .i64 c)
theorem errW_none : errW none = .nilIface := rfl
theorem errW_some (c : Int) : errW (some c) = .iface 0 (.int .i64 c) := rfl

theorem info5 : (Try.prog.info? 5).map (fun i => (i.zero, i.size, i.bytes)) = some (some (.int .u8 0), 1, 1) := by kernel_rfl
theorem info9 : (Try.prog.info? 9).map (fun i => (i.zero, i.size, i.bytes)) = some (some (.string ⟨#[]⟩), 1, 16) := by kernel_rfl
-- the values' own types

end Go.Proofs.Ytfgeffmlfbeodaa.PEventAll
