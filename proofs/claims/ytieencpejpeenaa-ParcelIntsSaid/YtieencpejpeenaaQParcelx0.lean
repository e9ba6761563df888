-- Written by a program of this session (wip/prn).
import Derived.Test.YtieencpejpeenaaProg
import Derived.Below
import Derived.Deep.Draws
import Derived.Deep.AppendLies
import Derived.Maps.AppendAt
import Derived.OwnWalk
import Derived.Laws.BytesArg
import Derived.Laws.MakeOwn
import Derived.Laws.OwnMore
import Derived.Deep.OwnRows
import Derived.Tactics
import Derived.Lib.ConvBytes
import Derived.Laws.Slices
import Derived.WalkKit
import Derived.KernelRfl
import Derived.RowKit3
import Derived.Deep.LoopGhost
import Derived.Deep.QuietTactic
import Derived.BigQuiet
import Derived.WideLaws
import Derived.Deep.DeepCutAuto
import Derived.Deep.CutBlock
import Derived.Deep.RegionHeld3
import Derived.Laws.Rows
import Derived.Lib.AppendStr
import Derived.ArgAppend
import Derived.Laws.IdiomCopy
import Derived.OrdersHeld
import Derived.Laws.BitsLemmas
import Derived.RowKit
import Derived.Test.YtieencpejpeenaaZ0
import Derived.Test.YtieencpejpeenaaWWords
import Derived.Test.YtieencpejpeenaaWLast
import Derived.Test.YtieencpejpeenaaWTab
import Derived.Test.YtieencpejpeenaaWFour
import Derived.Test.YtieencpejpeenaaWQPut
import Derived.Test.YtieencpejpeenaaWApart
import Derived.Test.YtieencpejpeenaaWArr
import Derived.Test.YtieencpejpeenaaWZeros
import Derived.Test.YtieencpejpeenaaWFoot
import Derived.Test.YtieencpejpeenaaWKept
import Derived.Test.YtieencpejpeenaaWShare
import Derived.Test.YtieencpejpeenaaWN
import Derived.Test.YtieencpejpeenaaWFootNe
import Derived.Test.YtieencpejpeenaaWAt
import Derived.Test.YtieencpejpeenaaWEqStruct
import Derived.Test.YtieencpejpeenaaWRepsOne
import Derived.Test.YtieencpejpeenaaWInv
import Derived.Test.YtieencpejpeenaaWInvWords
import Derived.Test.YtieencpejpeenaaWGuard
import Derived.Test.YtieencpejpeenaaWNEv
import Derived.Test.YtieencpejpeenaaWMore
namespace Go.Proofs.Ytieencpejpeenaa.QParcel
open Go.RowKit Go.Proofs.YtieencpejpeenaaW.PrintWords Go.Proofs.YtieencpejpeenaaW.PrintLast Go.Proofs.YtieencpejpeenaaW.PrintMore
attribute [local go_sem] max2_int min2_int max_two min_two max_three min_three max_four min_four   -- for this text's walks alone
set_option linter.unusedVariables false
set_option linter.unusedSimpArgs false



def errW : Option Int → Value
  | none => .nilIface
  | some c => .iface 0 (.int .i64 c)
theorem errW_none : errW none = .nilIface := rfl
theorem errW_some (c : Int) : errW (some c) = .iface 0 (.int .i64 c) := rfl

theorem info3 : (Try.prog.info? 3).map (fun i => (i.zero, i.size, i.bytes)) = some (some (.int .i64 0), 1, 8) := by kernel_rfl
theorem info5 : (Try.prog.info? 5).map (fun i => (i.zero, i.size, i.bytes)) = some (some (.int .u8 0), 1, 1) := by kernel_rfl
theorem info9 : (Try.prog.info? 9).map (fun i => (i.zero, i.size, i.bytes)) = some (some (.string ⟨#[]⟩), 1, 16) := by kernel_rfl
-- the values' own types

end Go.Proofs.Ytieencpejpeenaa.QParcel
