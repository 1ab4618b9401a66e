/- The functions that a law uses, as plain Lean functions with proofs that the Go code comes to them; written by a program of this session (gprint.py). -/
import Derived.Test.YtjjdejjhbfcfkaaDoorProg
import Derived.Below
import Derived.Deep.Draws
import Derived.Deep.AppendLies
import Derived.Maps.AppendAt
import Derived.OwnWalk
import Derived.Laws.BytesArg
import Derived.Laws.MakeOwn
import Derived.Laws.OwnMore
import Derived.Deep.OwnRows
import Derived.Tactics
import Derived.Lib.ConvBytes
import Derived.Laws.Slices
import Derived.WalkKit
import Derived.KernelRfl
import Derived.RowKit3
import Derived.Deep.LoopGhost
import Derived.Deep.QuietTactic
import Derived.BigQuiet
import Derived.WideLaws
import Derived.Deep.DeepCutAuto
import Derived.Deep.CutBlock
import Derived.Deep.RegionHeld3
import Derived.Laws.Rows
import Derived.Lib.AppendStr
import Derived.ArgAppend
import Derived.Laws.IdiomCopy
import Derived.OrdersHeld
import Derived.Laws.BitsLemmas
import Derived.RowKit
import Derived.Test.YtjjdejjhbfcfkaaDoorGivD
import Derived.Test.YtjjdejjhbfcfkaaDoorGivT
import Derived.Test.YtjjdejjhbfcfkaaDoorWWords
import Derived.Test.YtjjdejjhbfcfkaaDoorWLast
import Derived.Test.YtjjdejjhbfcfkaaDoorWTab
import Derived.Test.YtjjdejjhbfcfkaaDoorWFour
import Derived.Test.YtjjdejjhbfcfkaaDoorWQPut
import Derived.Test.YtjjdejjhbfcfkaaDoorWApart
import Derived.Test.YtjjdejjhbfcfkaaDoorWArr
import Derived.Test.YtjjdejjhbfcfkaaDoorWZeros
import Derived.Test.YtjjdejjhbfcfkaaDoorWFoot
import Derived.Test.YtjjdejjhbfcfkaaDoorWKept
import Derived.Test.YtjjdejjhbfcfkaaDoorWShare
import Derived.Test.YtjjdejjhbfcfkaaDoorWN
import Derived.Test.YtjjdejjhbfcfkaaDoorWFootNe
import Derived.Test.YtjjdejjhbfcfkaaDoorWAt
import Derived.Test.YtjjdejjhbfcfkaaDoorWEqStruct
import Derived.Test.YtjjdejjhbfcfkaaDoorWRepsOne
import Derived.Test.YtjjdejjhbfcfkaaDoorWInv
import Derived.Test.YtjjdejjhbfcfkaaDoorWInvWords
import Derived.Test.YtjjdejjhbfcfkaaDoorWGuard
import Derived.Test.YtjjdejjhbfcfkaaDoorWNEv
import Derived.Test.YtjjdejjhbfcfkaaDoorWMore
namespace Go.Proofs.YtjjdejjhbfcfkaaDoor.PWrd
open Go.Proofs.YtjjdejjhbfcfkaaDoor.Giv
open Go.RowKit Go.Proofs.YtjjdejjhbfcfkaaDoorW.PrintWords Go.Proofs.YtjjdejjhbfcfkaaDoorW.PrintLast Go.Proofs.YtjjdejjhbfcfkaaDoorW.PrintMore
attribute [local go_sem] max2_int min2_int max_two min_two max_three min_three max_four min_four   -- for this text's walks alone
set_option linter.unusedVariables false
set_option linter.unusedSimpArgs false



def errW : Option Int → Value
  | none => .nilIface
  | some c => .iface 0 (.int .i64 c)
theorem errW_none : errW none = .nilIface := rfl
theorem errW_some (c : Int) : errW (some c) = .iface 0 (.int .i64 c) := rfl

theorem info9 : (Tryd.prog.info? 9).map (fun i => (i.zero, i.size, i.bytes)) = some (some (.string ⟨#[]⟩), 1, 16) := by kernel_rfl
-- the values' own types

end Go.Proofs.YtjjdejjhbfcfkaaDoor.PWrd
