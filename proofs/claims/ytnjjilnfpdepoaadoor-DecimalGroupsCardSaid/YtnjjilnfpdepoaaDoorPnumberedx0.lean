/- What the law numbered uses, function by function: a plain Lean function, and that the Go code comes to its answers; laid by wip/xprint.py out of the translation; no condition. -/
import Derived.Test.YtnjjilnfpdepoaaDoorProg
import Derived.Below
import Derived.Deep.Draws
import Derived.Deep.AppendLies
import Derived.Maps.AppendAt
import Derived.OwnWalk
import Derived.Laws.BytesArg
import Derived.Laws.MakeOwn
import Derived.Laws.OwnMore
import Derived.Deep.OwnRows
import Derived.Tactics
import Derived.Lib.ConvBytes
import Derived.Laws.Slices
import Derived.WalkKit
import Derived.KernelRfl
import Derived.RowKit3
import Derived.Deep.LoopGhost
import Derived.Deep.QuietTactic
import Derived.BigQuiet
import Derived.WideLaws
import Derived.Deep.DeepCutAuto
import Derived.Deep.CutBlock
import Derived.Deep.RegionHeld3
import Derived.Laws.Rows
import Derived.Lib.AppendStr
import Derived.ArgAppend
import Derived.Laws.IdiomCopy
import Derived.OrdersHeld
import Derived.Laws.BitsLemmas
import Derived.RowKit
import Derived.Test.YtnjjilnfpdepoaaDoorShelf
import Derived.Test.YtnjjilnfpdepoaaDoorLib
import Derived.Test.YtnjjilnfpdepoaaDoorDig
import Derived.Test.YtnjjilnfpdepoaaDoorWWords
import Derived.Test.YtnjjilnfpdepoaaDoorWLast
import Derived.Test.YtnjjilnfpdepoaaDoorWTab
import Derived.Test.YtnjjilnfpdepoaaDoorWFour
import Derived.Test.YtnjjilnfpdepoaaDoorWQPut
import Derived.Test.YtnjjilnfpdepoaaDoorWApart
import Derived.Test.YtnjjilnfpdepoaaDoorWArr
import Derived.Test.YtnjjilnfpdepoaaDoorWZeros
import Derived.Test.YtnjjilnfpdepoaaDoorWFoot
import Derived.Test.YtnjjilnfpdepoaaDoorWKept
import Derived.Test.YtnjjilnfpdepoaaDoorWShare
import Derived.Test.YtnjjilnfpdepoaaDoorWN
import Derived.Test.YtnjjilnfpdepoaaDoorWFootNe
import Derived.Test.YtnjjilnfpdepoaaDoorWAt
import Derived.Test.YtnjjilnfpdepoaaDoorWEqStruct
import Derived.Test.YtnjjilnfpdepoaaDoorWRepsOne
import Derived.Test.YtnjjilnfpdepoaaDoorWInv
import Derived.Test.YtnjjilnfpdepoaaDoorWInvWords
import Derived.Test.YtnjjilnfpdepoaaDoorWGuard
import Derived.Test.YtnjjilnfpdepoaaDoorWNEv
import Derived.Test.YtnjjilnfpdepoaaDoorWMore
namespace Go.Proofs.YtnjjilnfpdepoaaDoor.Pnumbered
open Go.RowKit Go.Proofs.YtnjjilnfpdepoaaDoorW.PrintWords Go.Proofs.YtnjjilnfpdepoaaDoorW.PrintLast Go.Proofs.YtnjjilnfpdepoaaDoorW.PrintMore
attribute [local go_sem] max2_int min2_int max_two min_two max_three min_three max_four min_four   -- for this text's walks alone
set_option linter.unusedVariables false
set_option linter.unusedSimpArgs false



def errW : Option Int → Value
  | none => .nilIface
  | some c => .iface 0 (.int .i64 c)
theorem errW_none : errW none = .nilIface := rfl
theorem errW_some (c : Int) : errW (some c) = .iface 0 (.int .i64 c) := rfl

-- the values' own types

end Go.Proofs.YtnjjilnfpdepoaaDoor.Pnumbered
