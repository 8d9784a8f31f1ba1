/- Runs of SeamKnown, by the kernel, in parts. Own work of this project. -/
import Derived.Test.YteojpbflpgnloaaDoorSA
import Derived.KernelRfl
namespace Go.AM.YteojpbflpgnloaaDoor
open Go Go.AM
set_option maxRecDepth 1000000
theorem se_0 : givesA (.tup [.agg [.int .i64 1, .int .i64 (-9), .int .i64 4], .int .i64 0]) (cA 23 [.imm [.int .i64 0, .int .i64 0, .int .i64 0, .int .i64 4, .int .i64 1, .int .i64 1, .int .i64 4, .int .i64 0, .int .i64 4, .int .i64 4] 5 false, .agg [.int .i64 5, .int .i64 0]] [] 0) = true := by kernel_rfl
end Go.AM.YteojpbflpgnloaaDoor
