-- Written by a program of this session (wip/xprint.py), which turns a copy of the kit's print: its own text, no printed one.
import Derived.Test.YtklhjaimnhoijaaProg
import Derived.Below
import Derived.Deep.Draws
import Derived.Deep.AppendLies
import Derived.Maps.AppendAt
import Derived.OwnWalk
import Derived.Laws.BytesArg
import Derived.Laws.MakeOwn
import Derived.Laws.OwnMore
import Derived.Deep.OwnRows
import Derived.Tactics
import Derived.Lib.ConvBytes
import Derived.Laws.Slices
import Derived.WalkKit
import Derived.KernelRfl
import Derived.RowKit3
import Derived.Deep.LoopGhost
import Derived.Deep.QuietTactic
import Derived.BigQuiet
import Derived.WideLaws
import Derived.Deep.DeepCutAuto
import Derived.Deep.CutBlock
import Derived.Deep.RegionHeld3
import Derived.Laws.Rows
import Derived.Lib.AppendStr
import Derived.ArgAppend
import Derived.Laws.IdiomCopy
import Derived.OrdersHeld
import Derived.Laws.BitsLemmas
import Derived.RowKit
import Derived.Test.YtklhjaimnhoijaaWWords
import Derived.Test.YtklhjaimnhoijaaWLast
import Derived.Test.YtklhjaimnhoijaaWTab
import Derived.Test.YtklhjaimnhoijaaWFour
import Derived.Test.YtklhjaimnhoijaaWQPut
import Derived.Test.YtklhjaimnhoijaaWApart
import Derived.Test.YtklhjaimnhoijaaWArr
import Derived.Test.YtklhjaimnhoijaaWZeros
import Derived.Test.YtklhjaimnhoijaaWFoot
import Derived.Test.YtklhjaimnhoijaaWKept
import Derived.Test.YtklhjaimnhoijaaWShare
import Derived.Test.YtklhjaimnhoijaaWN
import Derived.Test.YtklhjaimnhoijaaWFootNe
import Derived.Test.YtklhjaimnhoijaaWAt
import Derived.Test.YtklhjaimnhoijaaWEqStruct
import Derived.Test.YtklhjaimnhoijaaWRepsOne
import Derived.Test.YtklhjaimnhoijaaWInv
import Derived.Test.YtklhjaimnhoijaaWInvWords
import Derived.Test.YtklhjaimnhoijaaWGuard
import Derived.Test.YtklhjaimnhoijaaWNEv
import Derived.Test.YtklhjaimnhoijaaWMore
namespace Go.Proofs.Ytklhjaimnhoijaa.QFnWeeks
open Go.RowKit Go.Proofs.YtklhjaimnhoijaaW.PrintWords Go.Proofs.YtklhjaimnhoijaaW.PrintLast Go.Proofs.YtklhjaimnhoijaaW.PrintMore
attribute [local go_sem] max2_int min2_int max_two min_two max_three min_three max_four min_four   -- for this text's walks alone
set_option linter.unusedVariables false
set_option linter.unusedSimpArgs false



def errW : Option Int → Value
  | none => .nilIface
  | some c => .iface 0 (.int .i64 c)
theorem errW_none : errW none = .nilIface := rfl
theorem errW_some (c : Int) : errW (some c) = .iface 0 (.int .i64 c) := rfl

theorem info3 : (Try.prog.info? 3).map (fun i => (i.zero, i.size, i.bytes)) = some (some (.int .i64 0), 1, 8) := by kernel_rfl
-- the values' own types

end Go.Proofs.Ytklhjaimnhoijaa.QFnWeeks
