/- Runs of SeamKnown, by the kernel, in parts. Own work of this project. -/
import Derived.Test.YteojpbflpgnloaaDoorSA
import Derived.KernelRfl
namespace Go.AM.YteojpbflpgnloaaDoor
open Go Go.AM
set_option maxRecDepth 1000000
theorem sh_0 : givesA (.tup [.nilsl, .int .i64 12]) (cA 21 [.imm [.int .i64 0, .int .i64 0, .int .i64 0, .int .i64 4, .int .i64 1, .int .i64 1, .int .i64 4, .int .i64 0, .int .i64 4, .int .i64 4] 5 false, .agg [.int .i64 5, .int .i64 0]] [] 0) = true := by kernel_rfl
theorem sh_1 : givesA (.tup [.int .i64 (-1), .int .i64 0]) (cA 10 [.agg [.int .i64 4, .imm [.int .i64 1, .int .i64 1, .int .i64 3, .int .i64 (-1), .int .i64 0, .int .i64 (-2), .int .i64 0, .int .i64 (-1), .int .i64 (-1)] 3 false], .agg [.int .i64 1, .int .i64 0, .int .i64 1]] [] 0) = true := by kernel_rfl
theorem sh_2 : givesA (.tup [.int .i64 1, .int .i64 0]) (cA 11 [.agg [.int .i64 4, .nilsl], .imm [.int .i64 1, .int .i64 0, .int .i64 0, .int .i64 1, .int .i64 0, .int .i64 1] 2 false] [] 0) = true := by kernel_rfl
theorem sh_3 : givesA (.tup [.nilsl, .int .i64 13]) (cA 59 [.agg [.int .i64 4, .imm [.int .i64 1, .int .i64 1, .int .i64 3, .int .i64 (-1), .int .i64 0, .int .i64 (-2), .int .i64 0, .int .i64 (-1), .int .i64 (-1)] 3 false]] [] 0) = true := by kernel_rfl
theorem sh_4 : givesA (.tup [.int .i64 2, .int .i64 0]) (cA 25 [.imm [.int .i64 0, .int .i64 0, .int .i64 0, .int .i64 4, .int .i64 1, .int .i64 1, .int .i64 4, .int .i64 0, .int .i64 4, .int .i64 4] 5 false, .agg [.int .i64 2, .int .i64 2]] [] 0) = true := by kernel_rfl
theorem sh_5 : givesA (.int .i64 0) (cA 26 [.agg [.int .i64 3, .imm [.int .i64 1, .int .i64 1, .int .i64 1, .int .i64 (-1), .int .i64 0, .int .i64 (-1), .int .i64 0, .int .i64 (-1), .int .i64 (-1)] 3 false], .imm [.int .i64 0, .int .i64 1, .int .i64 2] 3 false] [] 0) = true := by kernel_rfl
theorem sh_6 : givesA (.int .i64 14) (cA 26 [.agg [.int .i64 3, .imm [.int .i64 1, .int .i64 1, .int .i64 1, .int .i64 (-1), .int .i64 0, .int .i64 (-1), .int .i64 0, .int .i64 (-1), .int .i64 (-1)] 3 false], .imm [.int .i64 0, .int .i64 1] 2 false] [] 0) = true := by kernel_rfl
end Go.AM.YteojpbflpgnloaaDoor
