/- A field of a struct value, as the machine takes it out. Written by a program of this session (gprint.py). -/
import Derived.Test.YtdcakdloakammaaProg
import Derived.KernelRfl
import Derived.WalkKit
namespace Go.Proofs.Ytdcakdloakammaa.Fld
theorem fld55_1 (c0 c1 : Value) (w : World) : (Instr.field 55 (.agg #[c0, c1]) 1).run Try.prog w = .ok c1 w := by kernel_rfl
end Go.Proofs.Ytdcakdloakammaa.Fld
