/- The functions that a law uses, as plain Lean functions with proofs that the Go code comes to them; written by a program of this session (gprint.py). -/
import Derived.Test.YtdcakdloakammaaProg
import Derived.Below
import Derived.Deep.Draws
import Derived.Deep.AppendLies
import Derived.Maps.AppendAt
import Derived.OwnWalk
import Derived.Laws.BytesArg
import Derived.Laws.MakeOwn
import Derived.Laws.OwnMore
import Derived.Deep.OwnRows
import Derived.Tactics
import Derived.Lib.ConvBytes
import Derived.Laws.Slices
import Derived.WalkKit
import Derived.KernelRfl
import Derived.RowKit3
import Derived.Deep.LoopGhost
import Derived.Deep.QuietTactic
import Derived.BigQuiet
import Derived.WideLaws
import Derived.Deep.DeepCutAuto
import Derived.Deep.CutBlock
import Derived.Deep.RegionHeld3
import Derived.Laws.Rows
import Derived.Lib.AppendStr
import Derived.ArgAppend
import Derived.Laws.IdiomCopy
import Derived.OrdersHeld
import Derived.Laws.BitsLemmas
import Derived.RowKit
import Derived.Test.YtdcakdloakammaaGivN
import Derived.Test.YtdcakdloakammaaGivQ
import Derived.Test.YtdcakdloakammaaGivS
import Derived.Test.YtdcakdloakammaaGivT
import Derived.Test.YtdcakdloakammaaFldCod
import Derived.Test.YtdcakdloakammaaWWords
import Derived.Test.YtdcakdloakammaaWLast
import Derived.Test.YtdcakdloakammaaWTab
import Derived.Test.YtdcakdloakammaaWFour
import Derived.Test.YtdcakdloakammaaWQPut
import Derived.Test.YtdcakdloakammaaWApart
import Derived.Test.YtdcakdloakammaaWArr
import Derived.Test.YtdcakdloakammaaWZeros
import Derived.Test.YtdcakdloakammaaWFoot
import Derived.Test.YtdcakdloakammaaWKept
import Derived.Test.YtdcakdloakammaaWShare
import Derived.Test.YtdcakdloakammaaWN
import Derived.Test.YtdcakdloakammaaWFootNe
import Derived.Test.YtdcakdloakammaaWAt
import Derived.Test.YtdcakdloakammaaWEqStruct
import Derived.Test.YtdcakdloakammaaWRepsOne
import Derived.Test.YtdcakdloakammaaWInv
import Derived.Test.YtdcakdloakammaaWInvWords
import Derived.Test.YtdcakdloakammaaWGuard
import Derived.Test.YtdcakdloakammaaWNEv
import Derived.Test.YtdcakdloakammaaWMore
namespace Go.Proofs.Ytdcakdloakammaa.PCod
open Go.Proofs.Ytdcakdloakammaa.Giv Go.Proofs.Ytdcakdloakammaa.PDecB Go.Proofs.Ytdcakdloakammaa.Fld
open Go.RowKit Go.Proofs.YtdcakdloakammaaW.PrintWords Go.Proofs.YtdcakdloakammaaW.PrintLast Go.Proofs.YtdcakdloakammaaW.PrintMore
attribute [local go_sem] max2_int min2_int max_two min_two max_three min_three max_four min_four   -- for this text's walks alone
set_option linter.unusedVariables false
set_option linter.unusedSimpArgs false



def errW : Option Int → Value
  | none => .nilIface
  | some c => .iface 0 (.int .i64 c)
theorem errW_none : errW none = .nilIface := rfl
theorem errW_some (c : Int) : errW (some c) = .iface 0 (.int .i64 c) := rfl

theorem info3 : (Try.prog.info? 3).map (fun i => (i.zero, i.size, i.bytes)) = some (some (.int .i64 0), 1, 8) := by kernel_rfl
theorem info5 : (Try.prog.info? 5).map (fun i => (i.zero, i.size, i.bytes)) = some (some (.int .u8 0), 1, 1) := by kernel_rfl
-- the values' own types

end Go.Proofs.Ytdcakdloakammaa.PCod
