-- Written by a program of this session (wip/xprint.py), which turns a copy of the kit's print: its own text, no printed one.
import Derived.Test.YtkjfcgnhpalhnaaProg
import Derived.Below
import Derived.Deep.Draws
import Derived.Deep.AppendLies
import Derived.Maps.AppendAt
import Derived.OwnWalk
import Derived.Laws.BytesArg
import Derived.Laws.MakeOwn
import Derived.Laws.OwnMore
import Derived.Deep.OwnRows
import Derived.Tactics
import Derived.Lib.ConvBytes
import Derived.Laws.Slices
import Derived.WalkKit
import Derived.KernelRfl
import Derived.RowKit3
import Derived.Deep.LoopGhost
import Derived.Deep.QuietTactic
import Derived.BigQuiet
import Derived.WideLaws
import Derived.Deep.DeepCutAuto
import Derived.Deep.CutBlock
import Derived.Deep.RegionHeld3
import Derived.Laws.Rows
import Derived.Lib.AppendStr
import Derived.ArgAppend
import Derived.Laws.IdiomCopy
import Derived.OrdersHeld
import Derived.Laws.BitsLemmas
import Derived.RowKit
import Derived.Test.YtkjfcgnhpalhnaaWWords
import Derived.Test.YtkjfcgnhpalhnaaWLast
import Derived.Test.YtkjfcgnhpalhnaaWTab
import Derived.Test.YtkjfcgnhpalhnaaWFour
import Derived.Test.YtkjfcgnhpalhnaaWQPut
import Derived.Test.YtkjfcgnhpalhnaaWApart
import Derived.Test.YtkjfcgnhpalhnaaWArr
import Derived.Test.YtkjfcgnhpalhnaaWZeros
import Derived.Test.YtkjfcgnhpalhnaaWFoot
import Derived.Test.YtkjfcgnhpalhnaaWKept
import Derived.Test.YtkjfcgnhpalhnaaWShare
import Derived.Test.YtkjfcgnhpalhnaaWN
import Derived.Test.YtkjfcgnhpalhnaaWFootNe
import Derived.Test.YtkjfcgnhpalhnaaWAt
import Derived.Test.YtkjfcgnhpalhnaaWEqStruct
import Derived.Test.YtkjfcgnhpalhnaaWRepsOne
import Derived.Test.YtkjfcgnhpalhnaaWInv
import Derived.Test.YtkjfcgnhpalhnaaWInvWords
import Derived.Test.YtkjfcgnhpalhnaaWGuard
import Derived.Test.YtkjfcgnhpalhnaaWNEv
import Derived.Test.YtkjfcgnhpalhnaaWMore
namespace Go.Proofs.Ytkjfcgnhpalhnaa.QFnExactParcelLacks
open Go.RowKit Go.Proofs.YtkjfcgnhpalhnaaW.PrintWords Go.Proofs.YtkjfcgnhpalhnaaW.PrintLast Go.Proofs.YtkjfcgnhpalhnaaW.PrintMore
attribute [local go_sem] max2_int min2_int max_two min_two max_three min_three max_four min_four   -- for this text's walks alone
set_option linter.unusedVariables false
set_option linter.unusedSimpArgs false



def errW : Option Int → Value
  | none => .nilIface
  | some c => .iface 0 (.int .i64 c)
theorem errW_none : errW none = .nilIface := rfl
theorem errW_some (c : Int) : errW (some c) = .iface 0 (.int .i64 c) := rfl

theorem info3 : (Try.prog.info? 3).map (fun i => (i.zero, i.size, i.bytes)) = some (some (.int .i64 0), 1, 8) := by kernel_rfl
theorem info5 : (Try.prog.info? 5).map (fun i => (i.zero, i.size, i.bytes)) = some (some (.int .u8 0), 1, 1) := by kernel_rfl
theorem info9 : (Try.prog.info? 9).map (fun i => (i.zero, i.size, i.bytes)) = some (some (.string ⟨#[]⟩), 1, 16) := by kernel_rfl
-- the values' own types

end Go.Proofs.Ytkjfcgnhpalhnaa.QFnExactParcelLacks
