-- Written by a program of this session (wip/xprint.py), which turns a copy of the kit's print: its own text, no printed one.
import Derived.Test.YtkjggdbephdjaaaDoorProg
import Derived.Below
import Derived.Deep.Draws
import Derived.Deep.AppendLies
import Derived.Maps.AppendAt
import Derived.OwnWalk
import Derived.Laws.BytesArg
import Derived.Laws.MakeOwn
import Derived.Laws.OwnMore
import Derived.Deep.OwnRows
import Derived.Tactics
import Derived.Lib.ConvBytes
import Derived.Laws.Slices
import Derived.WalkKit
import Derived.KernelRfl
import Derived.RowKit3
import Derived.Deep.LoopGhost
import Derived.Deep.QuietTactic
import Derived.BigQuiet
import Derived.WideLaws
import Derived.Deep.DeepCutAuto
import Derived.Deep.CutBlock
import Derived.Deep.RegionHeld3
import Derived.Laws.Rows
import Derived.Lib.AppendStr
import Derived.ArgAppend
import Derived.Laws.IdiomCopy
import Derived.OrdersHeld
import Derived.Laws.BitsLemmas
import Derived.RowKit
import Derived.Test.YtkjggdbephdjaaaDoorWWords
import Derived.Test.YtkjggdbephdjaaaDoorWLast
import Derived.Test.YtkjggdbephdjaaaDoorWTab
import Derived.Test.YtkjggdbephdjaaaDoorWFour
import Derived.Test.YtkjggdbephdjaaaDoorWQPut
import Derived.Test.YtkjggdbephdjaaaDoorWApart
import Derived.Test.YtkjggdbephdjaaaDoorWArr
import Derived.Test.YtkjggdbephdjaaaDoorWZeros
import Derived.Test.YtkjggdbephdjaaaDoorWFoot
import Derived.Test.YtkjggdbephdjaaaDoorWKept
import Derived.Test.YtkjggdbephdjaaaDoorWShare
import Derived.Test.YtkjggdbephdjaaaDoorWN
import Derived.Test.YtkjggdbephdjaaaDoorWFootNe
import Derived.Test.YtkjggdbephdjaaaDoorWAt
import Derived.Test.YtkjggdbephdjaaaDoorWEqStruct
import Derived.Test.YtkjggdbephdjaaaDoorWRepsOne
import Derived.Test.YtkjggdbephdjaaaDoorWInv
import Derived.Test.YtkjggdbephdjaaaDoorWInvWords
import Derived.Test.YtkjggdbephdjaaaDoorWGuard
import Derived.Test.YtkjggdbephdjaaaDoorWNEv
import Derived.Test.YtkjggdbephdjaaaDoorWMore
namespace Go.Proofs.YtkjggdbephdjaaaDoor.QFnExactOnText
open Go.RowKit Go.Proofs.YtkjggdbephdjaaaDoorW.PrintWords Go.Proofs.YtkjggdbephdjaaaDoorW.PrintLast Go.Proofs.YtkjggdbephdjaaaDoorW.PrintMore
attribute [local go_sem] max2_int min2_int max_two min_two max_three min_three max_four min_four   -- for this text's walks alone
set_option linter.unusedVariables false
set_option linter.unusedSimpArgs false



def errW : Option Int → Value
  | none => .nilIface
  | some c => .iface 0 (.int .i64 c)
theorem errW_none : errW none = .nilIface := rfl
theorem errW_some (c : Int) : errW (some c) = .iface 0 (.int .i64 c) := rfl

theorem info5 : (Tryd.prog.info? 5).map (fun i => (i.zero, i.size, i.bytes)) = some (some (.int .u8 0), 1, 1) := by kernel_rfl
-- the values' own types

end Go.Proofs.YtkjggdbephdjaaaDoor.QFnExactOnText
