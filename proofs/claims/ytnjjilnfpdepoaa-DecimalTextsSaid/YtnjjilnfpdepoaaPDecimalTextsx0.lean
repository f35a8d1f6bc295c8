/- What the law DecimalTexts uses, function by function: a plain Lean function, and that the Go code comes to its answers; laid by wip/xprint.py out of the translation; no condition. -/
import Derived.Test.YtnjjilnfpdepoaaProg
import Derived.Below
import Derived.Deep.Draws
import Derived.Deep.AppendLies
import Derived.Maps.AppendAt
import Derived.OwnWalk
import Derived.Laws.BytesArg
import Derived.Laws.MakeOwn
import Derived.Laws.OwnMore
import Derived.Deep.OwnRows
import Derived.Tactics
import Derived.Lib.ConvBytes
import Derived.Laws.Slices
import Derived.WalkKit
import Derived.KernelRfl
import Derived.RowKit3
import Derived.Deep.LoopGhost
import Derived.Deep.QuietTactic
import Derived.BigQuiet
import Derived.WideLaws
import Derived.Deep.DeepCutAuto
import Derived.Deep.CutBlock
import Derived.Deep.RegionHeld3
import Derived.Laws.Rows
import Derived.Lib.AppendStr
import Derived.ArgAppend
import Derived.Laws.IdiomCopy
import Derived.OrdersHeld
import Derived.Laws.BitsLemmas
import Derived.RowKit
import Derived.Test.YtnjjilnfpdepoaaShelf
import Derived.Test.YtnjjilnfpdepoaaRead
import Derived.Test.YtnjjilnfpdepoaaDig
import Derived.Test.YtnjjilnfpdepoaaWWords
import Derived.Test.YtnjjilnfpdepoaaWLast
import Derived.Test.YtnjjilnfpdepoaaWTab
import Derived.Test.YtnjjilnfpdepoaaWFour
import Derived.Test.YtnjjilnfpdepoaaWQPut
import Derived.Test.YtnjjilnfpdepoaaWApart
import Derived.Test.YtnjjilnfpdepoaaWArr
import Derived.Test.YtnjjilnfpdepoaaWZeros
import Derived.Test.YtnjjilnfpdepoaaWFoot
import Derived.Test.YtnjjilnfpdepoaaWKept
import Derived.Test.YtnjjilnfpdepoaaWShare
import Derived.Test.YtnjjilnfpdepoaaWN
import Derived.Test.YtnjjilnfpdepoaaWFootNe
import Derived.Test.YtnjjilnfpdepoaaWAt
import Derived.Test.YtnjjilnfpdepoaaWEqStruct
import Derived.Test.YtnjjilnfpdepoaaWRepsOne
import Derived.Test.YtnjjilnfpdepoaaWInv
import Derived.Test.YtnjjilnfpdepoaaWInvWords
import Derived.Test.YtnjjilnfpdepoaaWGuard
import Derived.Test.YtnjjilnfpdepoaaWNEv
import Derived.Test.YtnjjilnfpdepoaaWMore
namespace Go.Proofs.Ytnjjilnfpdepoaa.PDecimalTexts
open Go.RowKit Go.Proofs.YtnjjilnfpdepoaaW.PrintWords Go.Proofs.YtnjjilnfpdepoaaW.PrintLast Go.Proofs.YtnjjilnfpdepoaaW.PrintMore
attribute [local go_sem] max2_int min2_int max_two min_two max_three min_three max_four min_four   -- for this text's walks alone
set_option linter.unusedVariables false
set_option linter.unusedSimpArgs false



def errW : Option Int → Value
  | none => .nilIface
  | some c => .iface 0 (.int .i64 c)
theorem errW_none : errW none = .nilIface := rfl
theorem errW_some (c : Int) : errW (some c) = .iface 0 (.int .i64 c) := rfl

-- the values' own types

end Go.Proofs.Ytnjjilnfpdepoaa.PDecimalTexts
