/- A field of a struct value, as the machine takes it out. Written by a program of this session (gprint.py). -/
import Derived.Test.YtfejcghnbimedaaDoorProg
import Derived.KernelRfl
import Derived.WalkKit
namespace Go.Proofs.YtfejcghnbimedaaDoor.Fld
theorem fld44_1 (c0 c1 : Value) (w : World) : (Instr.field 44 (.agg #[c0, c1]) 1).run Tryd.prog w = .ok c1 w := by kernel_rfl
end Go.Proofs.YtfejcghnbimedaaDoor.Fld
