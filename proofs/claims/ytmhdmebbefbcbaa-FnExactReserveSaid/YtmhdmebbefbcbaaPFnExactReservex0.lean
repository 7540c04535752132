/- Written by a program of this session (a turned copy of the kit's printer): what each Go function answers, and that it does. -/
import Derived.Test.YtmhdmebbefbcbaaProg
import Derived.Below
import Derived.Deep.Draws
import Derived.Deep.AppendLies
import Derived.Maps.AppendAt
import Derived.OwnWalk
import Derived.Laws.BytesArg
import Derived.Laws.MakeOwn
import Derived.Laws.OwnMore
import Derived.Deep.OwnRows
import Derived.Tactics
import Derived.Lib.ConvBytes
import Derived.Laws.Slices
import Derived.WalkKit
import Derived.KernelRfl
import Derived.RowKit3
import Derived.Deep.LoopGhost
import Derived.Deep.QuietTactic
import Derived.BigQuiet
import Derived.WideLaws
import Derived.Deep.DeepCutAuto
import Derived.Deep.CutBlock
import Derived.Deep.RegionHeld3
import Derived.Laws.Rows
import Derived.Lib.AppendStr
import Derived.ArgAppend
import Derived.Laws.IdiomCopy
import Derived.OrdersHeld
import Derived.Laws.BitsLemmas
import Derived.RowKit
import Derived.Test.YtmhdmebbefbcbaaCells
import Derived.Test.YtmhdmebbefbcbaaWWords
import Derived.Test.YtmhdmebbefbcbaaWLast
import Derived.Test.YtmhdmebbefbcbaaWTab
import Derived.Test.YtmhdmebbefbcbaaWFour
import Derived.Test.YtmhdmebbefbcbaaWQPut
import Derived.Test.YtmhdmebbefbcbaaWApart
import Derived.Test.YtmhdmebbefbcbaaWArr
import Derived.Test.YtmhdmebbefbcbaaWZeros
import Derived.Test.YtmhdmebbefbcbaaWFoot
import Derived.Test.YtmhdmebbefbcbaaWKept
import Derived.Test.YtmhdmebbefbcbaaWShare
import Derived.Test.YtmhdmebbefbcbaaWN
import Derived.Test.YtmhdmebbefbcbaaWFootNe
import Derived.Test.YtmhdmebbefbcbaaWAt
import Derived.Test.YtmhdmebbefbcbaaWEqStruct
import Derived.Test.YtmhdmebbefbcbaaWRepsOne
import Derived.Test.YtmhdmebbefbcbaaWInv
import Derived.Test.YtmhdmebbefbcbaaWInvWords
import Derived.Test.YtmhdmebbefbcbaaWGuard
import Derived.Test.YtmhdmebbefbcbaaWNEv
import Derived.Test.YtmhdmebbefbcbaaWMore
namespace Go.Proofs.Ytmhdmebbefbcbaa.PFnExactReserve
open Go.RowKit Go.Proofs.YtmhdmebbefbcbaaW.PrintWords Go.Proofs.YtmhdmebbefbcbaaW.PrintLast Go.Proofs.YtmhdmebbefbcbaaW.PrintMore
attribute [local go_sem] Go.Proofs.Ytmhdmebbefbcbaa.Cells.cell_set_at max2_int min2_int max_two min_two max_three min_three max_four min_four   -- for this text's walks alone
set_option linter.unusedVariables false
set_option linter.unusedSimpArgs false



def errW : Option Int → Value
  | none => .nilIface
  | some c => .iface 0 (.int .i64 c)
theorem errW_none : errW none = .nilIface := rfl
theorem errW_some (c : Int) : errW (some c) = .iface 0 (.int .i64 c) := rfl

-- the values' own types

end Go.Proofs.Ytmhdmebbefbcbaa.PFnExactReserve
