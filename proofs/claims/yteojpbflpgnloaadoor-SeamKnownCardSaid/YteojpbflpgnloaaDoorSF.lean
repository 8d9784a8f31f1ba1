/- Runs of SeamKnown, by the kernel, in parts. Own work of this project. -/
import Derived.Test.YteojpbflpgnloaaDoorSM
import Derived.KernelRfl
namespace Go.AM.YteojpbflpgnloaaDoor
open Go Go.AM
set_option maxRecDepth 1000000
noncomputable def maxT : List Kn := knL cA 47 maxT0 ++ (knL cA 47 maxT1 ++ (knL cA 47 maxT2 ++ (knL cA 47 maxT3)))
noncomputable abbrev cM : Callee := bodyA E (knownL maxT (callA E fg 1000 39)) fg 1000
theorem apart_run : givesA (.tup [.agg [.int .i64 0, .int .i64 0, .int .i64 0], .int .i64 13]) (cM 23 [.imm [.int .i64 0, .int .i64 0, .int .i64 0, .int .i64 4, .int .i64 1, .int .i64 1, .int .i64 4, .int .i64 0, .int .i64 4, .int .i64 4] 5 false, .agg [.int .i64 2, .int .i64 2]] [] 0) = true := by kernel_rfl
end Go.AM.YteojpbflpgnloaaDoor
