/- Written by a program of this workplace. -/
import Derived.Test.YtffdonpkmnngpaaRGK
import Derived.Test.YtffdonpkmnngpaaEvP
import Derived.Test.YtffdonpkmnngpaaProg
import Derived.Below
import Derived.Deep.Draws
import Derived.Deep.AppendLies
import Derived.Maps.AppendAt
import Derived.OwnWalk
import Derived.Laws.BytesArg
import Derived.Laws.MakeOwn
import Derived.Laws.OwnMore
import Derived.Deep.OwnRows
import Derived.Tactics
import Derived.Lib.ConvBytes
import Derived.Laws.Slices
import Derived.WalkKit
import Derived.KernelRfl
import Derived.RowKit3
import Derived.Deep.LoopGhost
import Derived.Deep.QuietTactic
import Derived.BigQuiet
import Derived.WideLaws
import Derived.Deep.DeepCutAuto
import Derived.Deep.CutBlock
import Derived.Deep.RegionHeld3
import Derived.Laws.Rows
import Derived.Lib.AppendStr
import Derived.ArgAppend
import Derived.Laws.IdiomCopy
import Derived.OrdersHeld
import Derived.Laws.BitsLemmas
import Derived.RowKit
import Derived.Test.YtffdonpkmnngpaaWWords
import Derived.Test.YtffdonpkmnngpaaWLast
import Derived.Test.YtffdonpkmnngpaaWTab
import Derived.Test.YtffdonpkmnngpaaWFour
import Derived.Test.YtffdonpkmnngpaaWQPut
import Derived.Test.YtffdonpkmnngpaaWApart
import Derived.Test.YtffdonpkmnngpaaWArr
import Derived.Test.YtffdonpkmnngpaaWZeros
import Derived.Test.YtffdonpkmnngpaaWFoot
import Derived.Test.YtffdonpkmnngpaaWKept
import Derived.Test.YtffdonpkmnngpaaWShare
import Derived.Test.YtffdonpkmnngpaaWN
import Derived.Test.YtffdonpkmnngpaaWFootNe
import Derived.Test.YtffdonpkmnngpaaWAt
import Derived.Test.YtffdonpkmnngpaaWEqStruct
import Derived.Test.YtffdonpkmnngpaaWRepsOne
import Derived.Test.YtffdonpkmnngpaaWInv
import Derived.Test.YtffdonpkmnngpaaWInvWords
import Derived.Test.YtffdonpkmnngpaaWGuard
import Derived.Test.YtffdonpkmnngpaaWNEv
import Derived.Test.YtffdonpkmnngpaaWMore
namespace Go.Proofs.Ytffdonpkmnngpaa.PRootAll
open Go.RowKit Go.Proofs.YtffdonpkmnngpaaW.PrintWords Go.Proofs.YtffdonpkmnngpaaW.PrintLast Go.Proofs.YtffdonpkmnngpaaW.PrintMore
attribute [local go_sem] max2_int min2_int max_two min_two max_three min_three max_four min_four   -- for this text's walks alone
set_option linter.unusedVariables false
set_option linter.unusedSimpArgs false



def errW : Option Int → Value
  | none => .nilIface
  | some c => .iface 0 (.int .i64 c)
theorem errW_none : errW none = .nilIface := rfl
theorem errW_some (c : Int) : errW (some c) = .iface 0 (.int .i64 c) := rfl

theorem info5 : (Try.prog.info? 5).map (fun i => (i.zero, i.size, i.bytes)) = some (some (.int .u8 0), 1, 1) := by kernel_rfl
-- the values' own types

end Go.Proofs.Ytffdonpkmnngpaa.PRootAll
