/- The functions that a law uses, as plain Lean functions with proofs that the Go code comes to them; written by a program of this session (gprint.py). -/
import Derived.Test.YtjbblmdpiapmbaaProg
import Derived.Below
import Derived.Deep.Draws
import Derived.Deep.AppendLies
import Derived.Maps.AppendAt
import Derived.OwnWalk
import Derived.Laws.BytesArg
import Derived.Laws.MakeOwn
import Derived.Laws.OwnMore
import Derived.Deep.OwnRows
import Derived.Tactics
import Derived.Lib.ConvBytes
import Derived.Laws.Slices
import Derived.WalkKit
import Derived.KernelRfl
import Derived.RowKit3
import Derived.Deep.LoopGhost
import Derived.Deep.QuietTactic
import Derived.BigQuiet
import Derived.WideLaws
import Derived.Deep.DeepCutAuto
import Derived.Deep.CutBlock
import Derived.Deep.RegionHeld3
import Derived.Laws.Rows
import Derived.Lib.AppendStr
import Derived.ArgAppend
import Derived.Laws.IdiomCopy
import Derived.OrdersHeld
import Derived.Laws.BitsLemmas
import Derived.RowKit
import Derived.Test.YtjbblmdpiapmbaaWWords
import Derived.Test.YtjbblmdpiapmbaaWLast
import Derived.Test.YtjbblmdpiapmbaaWTab
import Derived.Test.YtjbblmdpiapmbaaWFour
import Derived.Test.YtjbblmdpiapmbaaWQPut
import Derived.Test.YtjbblmdpiapmbaaWApart
import Derived.Test.YtjbblmdpiapmbaaWArr
import Derived.Test.YtjbblmdpiapmbaaWZeros
import Derived.Test.YtjbblmdpiapmbaaWFoot
import Derived.Test.YtjbblmdpiapmbaaWKept
import Derived.Test.YtjbblmdpiapmbaaWShare
import Derived.Test.YtjbblmdpiapmbaaWN
import Derived.Test.YtjbblmdpiapmbaaWFootNe
import Derived.Test.YtjbblmdpiapmbaaWAt
import Derived.Test.YtjbblmdpiapmbaaWEqStruct
import Derived.Test.YtjbblmdpiapmbaaWRepsOne
import Derived.Test.YtjbblmdpiapmbaaWInv
import Derived.Test.YtjbblmdpiapmbaaWInvWords
import Derived.Test.YtjbblmdpiapmbaaWGuard
import Derived.Test.YtjbblmdpiapmbaaWNEv
import Derived.Test.YtjbblmdpiapmbaaWMore
namespace Go.Proofs.Ytjbblmdpiapmbaa.PDecB
open Go.RowKit Go.Proofs.YtjbblmdpiapmbaaW.PrintWords Go.Proofs.YtjbblmdpiapmbaaW.PrintLast Go.Proofs.YtjbblmdpiapmbaaW.PrintMore
attribute [local go_sem] max2_int min2_int max_two min_two max_three min_three max_four min_four   -- for this text's walks alone
set_option linter.unusedVariables false
set_option linter.unusedSimpArgs false



def errW : Option Int → Value
  | none => .nilIface
  | some c => .iface 0 (.int .i64 c)
theorem errW_none : errW none = .nilIface := rfl
theorem errW_some (c : Int) : errW (some c) = .iface 0 (.int .i64 c) := rfl

-- the values' own types

end Go.Proofs.Ytjbblmdpiapmbaa.PDecB
