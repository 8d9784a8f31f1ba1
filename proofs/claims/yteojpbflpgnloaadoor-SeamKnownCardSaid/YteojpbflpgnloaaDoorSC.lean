/- Runs of SeamKnown, by the kernel, in parts. Own work of this project. -/
import Derived.Test.YteojpbflpgnloaaDoorSA
import Derived.KernelRfl
namespace Go.AM.YteojpbflpgnloaaDoor
open Go Go.AM
set_option maxRecDepth 1000000
noncomputable abbrev cC : Callee := bodyA E (knownL depthT (callA E fg 1000 39)) fg 1000
theorem centre_run : givesA (.tup [.agg [.int .i64 1, .int .i64 1], .int .i64 2, .int .i64 0]) (cC 60 [.imm [.int .i64 0, .int .i64 0, .int .i64 0, .int .i64 4, .int .i64 1, .int .i64 1, .int .i64 4, .int .i64 0, .int .i64 4, .int .i64 4] 5 false] [] 0) = true := by kernel_rfl
end Go.AM.YteojpbflpgnloaaDoor
