-- Written by a program of this session (wip/prn).
import Derived.Test.YtcoljlanblngiaaProg
import Derived.Below
import Derived.Deep.Draws
import Derived.Deep.AppendLies
import Derived.Maps.AppendAt
import Derived.OwnWalk
import Derived.Laws.BytesArg
import Derived.Laws.MakeOwn
import Derived.Laws.OwnMore
import Derived.Deep.OwnRows
import Derived.Tactics
import Derived.Lib.ConvBytes
import Derived.Laws.Slices
import Derived.WalkKit
import Derived.KernelRfl
import Derived.RowKit3
import Derived.Deep.LoopGhost
import Derived.Deep.QuietTactic
import Derived.BigQuiet
import Derived.WideLaws
import Derived.Deep.DeepCutAuto
import Derived.Deep.CutBlock
import Derived.Deep.RegionHeld3
import Derived.Laws.Rows
import Derived.Lib.AppendStr
import Derived.ArgAppend
import Derived.Laws.IdiomCopy
import Derived.OrdersHeld
import Derived.Laws.BitsLemmas
import Derived.RowKit
import Derived.Test.YtcoljlanblngiaaWWords
import Derived.Test.YtcoljlanblngiaaWLast
import Derived.Test.YtcoljlanblngiaaWTab
import Derived.Test.YtcoljlanblngiaaWFour
import Derived.Test.YtcoljlanblngiaaWQPut
import Derived.Test.YtcoljlanblngiaaWApart
import Derived.Test.YtcoljlanblngiaaWArr
import Derived.Test.YtcoljlanblngiaaWZeros
import Derived.Test.YtcoljlanblngiaaWFoot
import Derived.Test.YtcoljlanblngiaaWKept
import Derived.Test.YtcoljlanblngiaaWShare
import Derived.Test.YtcoljlanblngiaaWN
import Derived.Test.YtcoljlanblngiaaWFootNe
import Derived.Test.YtcoljlanblngiaaWAt
import Derived.Test.YtcoljlanblngiaaWEqStruct
import Derived.Test.YtcoljlanblngiaaWRepsOne
import Derived.Test.YtcoljlanblngiaaWInv
import Derived.Test.YtcoljlanblngiaaWInvWords
import Derived.Test.YtcoljlanblngiaaWGuard
import Derived.Test.YtcoljlanblngiaaWNEv
import Derived.Test.YtcoljlanblngiaaWMore
namespace Go.Proofs.Ytcoljlanblngiaa.QLimbMonts
open Go.RowKit Go.Proofs.YtcoljlanblngiaaW.PrintWords Go.Proofs.YtcoljlanblngiaaW.PrintLast Go.Proofs.YtcoljlanblngiaaW.PrintMore
attribute [local go_sem] max2_int min2_int max_two min_two max_three min_three max_four min_four   -- for this text's walks alone
set_option linter.unusedVariables false
set_option linter.unusedSimpArgs false



def errW : Option Int → Value
  | none => .nilIface
  | some c => .iface 0 (.int .i64 c)
theorem errW_none : errW none = .nilIface := rfl
theorem errW_some (c : Int) : errW (some c) = .iface 0 (.int .i64 c) := rfl

theorem info3 : (Try.prog.info? 3).map (fun i => (i.zero, i.size, i.bytes)) = some (some (.int .i64 0), 1, 8) := by kernel_rfl
-- the values' own types

end Go.Proofs.Ytcoljlanblngiaa.QLimbMonts
