/- The functions that a law uses, as plain Lean functions with proofs that the Go code comes to them; written by a program of this session (gprint.py). -/
import Derived.Test.YtfejcghnbimedaaDoorProg
import Derived.Below
import Derived.Deep.Draws
import Derived.Deep.AppendLies
import Derived.Maps.AppendAt
import Derived.OwnWalk
import Derived.Laws.BytesArg
import Derived.Laws.MakeOwn
import Derived.Laws.OwnMore
import Derived.Deep.OwnRows
import Derived.Tactics
import Derived.Lib.ConvBytes
import Derived.Laws.Slices
import Derived.WalkKit
import Derived.KernelRfl
import Derived.RowKit3
import Derived.Deep.LoopGhost
import Derived.Deep.QuietTactic
import Derived.BigQuiet
import Derived.WideLaws
import Derived.Deep.DeepCutAuto
import Derived.Deep.CutBlock
import Derived.Deep.RegionHeld3
import Derived.Laws.Rows
import Derived.Lib.AppendStr
import Derived.ArgAppend
import Derived.Laws.IdiomCopy
import Derived.OrdersHeld
import Derived.Laws.BitsLemmas
import Derived.RowKit
import Derived.Test.YtfejcghnbimedaaDoorWWords
import Derived.Test.YtfejcghnbimedaaDoorWLast
import Derived.Test.YtfejcghnbimedaaDoorWTab
import Derived.Test.YtfejcghnbimedaaDoorWFour
import Derived.Test.YtfejcghnbimedaaDoorWQPut
import Derived.Test.YtfejcghnbimedaaDoorWApart
import Derived.Test.YtfejcghnbimedaaDoorWArr
import Derived.Test.YtfejcghnbimedaaDoorWZeros
import Derived.Test.YtfejcghnbimedaaDoorWFoot
import Derived.Test.YtfejcghnbimedaaDoorWKept
import Derived.Test.YtfejcghnbimedaaDoorWShare
import Derived.Test.YtfejcghnbimedaaDoorWN
import Derived.Test.YtfejcghnbimedaaDoorWFootNe
import Derived.Test.YtfejcghnbimedaaDoorWAt
import Derived.Test.YtfejcghnbimedaaDoorWEqStruct
import Derived.Test.YtfejcghnbimedaaDoorWRepsOne
import Derived.Test.YtfejcghnbimedaaDoorWInv
import Derived.Test.YtfejcghnbimedaaDoorWInvWords
import Derived.Test.YtfejcghnbimedaaDoorWGuard
import Derived.Test.YtfejcghnbimedaaDoorWNEv
import Derived.Test.YtfejcghnbimedaaDoorWMore
namespace Go.Proofs.YtfejcghnbimedaaDoor.PDecB
open Go.RowKit Go.Proofs.YtfejcghnbimedaaDoorW.PrintWords Go.Proofs.YtfejcghnbimedaaDoorW.PrintLast Go.Proofs.YtfejcghnbimedaaDoorW.PrintMore
attribute [local go_sem] max2_int min2_int max_two min_two max_three min_three max_four min_four   -- for this text's walks alone
set_option linter.unusedVariables false
set_option linter.unusedSimpArgs false



def errW : Option Int → Value
  | none => .nilIface
  | some c => .iface 0 (.int .i64 c)
theorem errW_none : errW none = .nilIface := rfl
theorem errW_some (c : Int) : errW (some c) = .iface 0 (.int .i64 c) := rfl

-- the values' own types

end Go.Proofs.YtfejcghnbimedaaDoor.PDecB
