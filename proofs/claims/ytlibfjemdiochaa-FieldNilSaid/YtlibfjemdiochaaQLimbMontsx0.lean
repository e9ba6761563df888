-- Written by a program of this session (wip/prn).
import Derived.Test.YtlibfjemdiochaaProg
import Derived.Below
import Derived.Deep.Draws
import Derived.Deep.AppendLies
import Derived.Maps.AppendAt
import Derived.OwnWalk
import Derived.Laws.BytesArg
import Derived.Laws.MakeOwn
import Derived.Laws.OwnMore
import Derived.Deep.OwnRows
import Derived.Tactics
import Derived.Lib.ConvBytes
import Derived.Laws.Slices
import Derived.WalkKit
import Derived.KernelRfl
import Derived.RowKit3
import Derived.Deep.LoopGhost
import Derived.Deep.QuietTactic
import Derived.BigQuiet
import Derived.WideLaws
import Derived.Deep.DeepCutAuto
import Derived.Deep.CutBlock
import Derived.Deep.RegionHeld3
import Derived.Laws.Rows
import Derived.Lib.AppendStr
import Derived.ArgAppend
import Derived.Laws.IdiomCopy
import Derived.OrdersHeld
import Derived.Laws.BitsLemmas
import Derived.RowKit
import Derived.Test.YtlibfjemdiochaaWWords
import Derived.Test.YtlibfjemdiochaaWLast
import Derived.Test.YtlibfjemdiochaaWTab
import Derived.Test.YtlibfjemdiochaaWFour
import Derived.Test.YtlibfjemdiochaaWQPut
import Derived.Test.YtlibfjemdiochaaWApart
import Derived.Test.YtlibfjemdiochaaWArr
import Derived.Test.YtlibfjemdiochaaWZeros
import Derived.Test.YtlibfjemdiochaaWFoot
import Derived.Test.YtlibfjemdiochaaWKept
import Derived.Test.YtlibfjemdiochaaWShare
import Derived.Test.YtlibfjemdiochaaWN
import Derived.Test.YtlibfjemdiochaaWFootNe
import Derived.Test.YtlibfjemdiochaaWAt
import Derived.Test.YtlibfjemdiochaaWEqStruct
import Derived.Test.YtlibfjemdiochaaWRepsOne
import Derived.Test.YtlibfjemdiochaaWInv
import Derived.Test.YtlibfjemdiochaaWInvWords
import Derived.Test.YtlibfjemdiochaaWGuard
import Derived.Test.YtlibfjemdiochaaWNEv
import Derived.Test.YtlibfjemdiochaaWMore
namespace Go.Proofs.Ytlibfjemdiochaa.QLimbMonts
open Go.RowKit Go.Proofs.YtlibfjemdiochaaW.PrintWords Go.Proofs.YtlibfjemdiochaaW.PrintLast Go.Proofs.YtlibfjemdiochaaW.PrintMore
attribute [local go_sem] max2_int min2_int max_two min_two max_three min_three max_four min_four   -- for this text's walks alone
set_option linter.unusedVariables false
set_option linter.unusedSimpArgs false



def errW : Option Int → Value
  | none => .nilIface
  | some c => .iface 0 (.int .i64 c)
theorem errW_none : errW none = .nilIface := rfl
theorem errW_some (c : Int) : errW (some c) = .iface 0 (.int .i64 c) := rfl

theorem info3 : (Try.prog.info? 3).map (fun i => (i.zero, i.size, i.bytes)) = some (some (.int .i64 0), 1, 8) := by kernel_rfl
-- the values' own types

end Go.Proofs.Ytlibfjemdiochaa.QLimbMonts
