/- The functions that a law uses, as plain Lean functions with proofs that the Go code comes to them; written by a program of this session (gprint.py). -/
import Derived.Test.YtpghojihcmdlaaaProg
import Derived.Below
import Derived.Deep.Draws
import Derived.Deep.AppendLies
import Derived.Maps.AppendAt
import Derived.OwnWalk
import Derived.Laws.BytesArg
import Derived.Laws.MakeOwn
import Derived.Laws.OwnMore
import Derived.Deep.OwnRows
import Derived.Tactics
import Derived.Lib.ConvBytes
import Derived.Laws.Slices
import Derived.WalkKit
import Derived.KernelRfl
import Derived.RowKit3
import Derived.Deep.LoopGhost
import Derived.Deep.QuietTactic
import Derived.BigQuiet
import Derived.WideLaws
import Derived.Deep.DeepCutAuto
import Derived.Deep.CutBlock
import Derived.Deep.RegionHeld3
import Derived.Laws.Rows
import Derived.Lib.AppendStr
import Derived.ArgAppend
import Derived.Laws.IdiomCopy
import Derived.OrdersHeld
import Derived.Laws.BitsLemmas
import Derived.RowKit
import Derived.Test.YtpghojihcmdlaaaGivD
import Derived.Test.YtpghojihcmdlaaaGivF
import Derived.Test.YtpghojihcmdlaaaGivG
import Derived.Test.YtpghojihcmdlaaaWWords
import Derived.Test.YtpghojihcmdlaaaWLast
import Derived.Test.YtpghojihcmdlaaaWTab
import Derived.Test.YtpghojihcmdlaaaWFour
import Derived.Test.YtpghojihcmdlaaaWQPut
import Derived.Test.YtpghojihcmdlaaaWApart
import Derived.Test.YtpghojihcmdlaaaWArr
import Derived.Test.YtpghojihcmdlaaaWZeros
import Derived.Test.YtpghojihcmdlaaaWFoot
import Derived.Test.YtpghojihcmdlaaaWKept
import Derived.Test.YtpghojihcmdlaaaWShare
import Derived.Test.YtpghojihcmdlaaaWN
import Derived.Test.YtpghojihcmdlaaaWFootNe
import Derived.Test.YtpghojihcmdlaaaWAt
import Derived.Test.YtpghojihcmdlaaaWEqStruct
import Derived.Test.YtpghojihcmdlaaaWRepsOne
import Derived.Test.YtpghojihcmdlaaaWInv
import Derived.Test.YtpghojihcmdlaaaWInvWords
import Derived.Test.YtpghojihcmdlaaaWGuard
import Derived.Test.YtpghojihcmdlaaaWNEv
import Derived.Test.YtpghojihcmdlaaaWMore
namespace Go.Proofs.Ytpghojihcmdlaaa.PTextChars
open Go.Proofs.Ytpghojihcmdlaaa.Giv
open Go.RowKit Go.Proofs.YtpghojihcmdlaaaW.PrintWords Go.Proofs.YtpghojihcmdlaaaW.PrintLast Go.Proofs.YtpghojihcmdlaaaW.PrintMore
attribute [local go_sem] max2_int min2_int max_two min_two max_three min_three max_four min_four   -- for this text's walks alone
set_option linter.unusedVariables false
set_option linter.unusedSimpArgs false



def errW : Option Int → Value
  | none => .nilIface
  | some c => .iface 0 (.int .i64 c)
theorem errW_none : errW none = .nilIface := rfl
theorem errW_some (c : Int) : errW (some c) = .iface 0 (.int .i64 c) := rfl

-- the values' own types

end Go.Proofs.Ytpghojihcmdlaaa.PTextChars
