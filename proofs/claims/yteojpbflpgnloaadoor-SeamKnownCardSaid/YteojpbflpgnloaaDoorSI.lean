/- Runs of SeamKnown, by the kernel, in parts. Own work of this project. -/
import Derived.Test.YteojpbflpgnloaaDoorSA
import Derived.KernelRfl
namespace Go.AM.YteojpbflpgnloaaDoor
open Go Go.AM
set_option maxRecDepth 1000000
theorem si_0 : givesA (.tup [.bool true, .int .i64 0]) (cA 6 [.agg [.int .i64 4, .imm [.int .i64 1, .int .i64 1, .int .i64 3, .int .i64 (-1), .int .i64 0, .int .i64 (-2), .int .i64 0, .int .i64 (-1), .int .i64 (-1)] 3 false], .agg [.int .i64 2, .int .i64 1]] [] 0) = true := by kernel_rfl
theorem si_1 : givesA (.tup [.bool false, .int .i64 0]) (cA 6 [.agg [.int .i64 4, .imm [.int .i64 1, .int .i64 1, .int .i64 3, .int .i64 (-1), .int .i64 0, .int .i64 (-2), .int .i64 0, .int .i64 (-1), .int .i64 (-1)] 3 false], .agg [.int .i64 3, .int .i64 1]] [] 0) = true := by kernel_rfl
theorem si_2 : givesA (.tup [.bool false, .int .i64 2]) (cA 6 [.agg [.int .i64 4, .imm [.int .i64 1, .int .i64 1, .int .i64 3, .int .i64 (-1), .int .i64 0, .int .i64 (-2), .int .i64 0, .int .i64 (-1), .int .i64 (-1)] 3 false], .agg [.int .i64 4, .int .i64 0]] [] 0) = true := by kernel_rfl
theorem si_3 : givesA (.tup [.int .i64 1, .int .i64 0]) (cA 10 [.agg [.int .i64 4, .imm [.int .i64 1, .int .i64 1, .int .i64 3, .int .i64 (-1), .int .i64 0, .int .i64 (-2), .int .i64 0, .int .i64 (-1), .int .i64 (-1)] 3 false], .agg [.int .i64 1, .int .i64 0, .int .i64 2]] [] 0) = true := by kernel_rfl
theorem si_4 : givesA (.tup [.int .i64 0, .int .i64 12]) (cA 10 [.agg [.int .i64 3, .imm [.int .i64 1, .int .i64 1, .int .i64 1, .int .i64 (-1), .int .i64 0, .int .i64 (-1), .int .i64 0, .int .i64 (-1), .int .i64 (-1)] 3 false], .agg [.int .i64 1, .int .i64 0, .int .i64 2]] [] 0) = true := by kernel_rfl
theorem si_5 : givesA (.tup [.nilsl, .int .i64 0]) (cA 13 [.agg [.int .i64 4, .imm [.int .i64 1, .int .i64 1, .int .i64 3, .int .i64 (-1), .int .i64 0, .int .i64 (-2), .int .i64 0, .int .i64 (-1), .int .i64 (-1)] 3 false]] [] 0) = true := by kernel_rfl
theorem si_6 : givesA (.tup [.nilsl, .int .i64 0]) (cA 14 [.agg [.int .i64 4, .imm [.int .i64 1, .int .i64 1, .int .i64 3, .int .i64 (-1), .int .i64 0, .int .i64 (-2), .int .i64 0, .int .i64 (-1), .int .i64 (-1)] 3 false]] [] 0) = true := by kernel_rfl
theorem si_7 : givesA (.int .i64 7) (cA 26 [.agg [.int .i64 3, .imm [.int .i64 1, .int .i64 1, .int .i64 1, .int .i64 (-1), .int .i64 0, .int .i64 (-1), .int .i64 0, .int .i64 (-1), .int .i64 (-1)] 3 false], .imm [.int .i64 1, .int .i64 0] 2 false] [] 0) = true := by kernel_rfl
theorem si_8 : givesA (.int .i64 2) (cA 26 [.agg [.int .i64 3, .imm [.int .i64 1, .int .i64 1, .int .i64 1, .int .i64 (-1), .int .i64 0, .int .i64 (-1), .int .i64 0, .int .i64 (-1), .int .i64 (-1)] 3 false], .imm [.int .i64 3] 1 false] [] 0) = true := by kernel_rfl
theorem si_9 : givesA (.tup [.nilsl, .int .i64 0]) (cA 4 [.agg [.int .i64 3, .imm [.int .i64 1, .int .i64 1, .int .i64 1, .int .i64 (-1), .int .i64 0, .int .i64 (-1), .int .i64 0, .int .i64 (-1), .int .i64 (-1)] 3 false]] [] 0) = true := by kernel_rfl
theorem si_10 : givesA (.tup [.int .i64 0, .int .i64 0]) (cA 25 [.imm [.int .i64 0, .int .i64 0, .int .i64 0, .int .i64 4, .int .i64 1, .int .i64 1, .int .i64 4, .int .i64 0, .int .i64 4, .int .i64 4] 5 false, .agg [.int .i64 6, .int .i64 6]] [] 0) = true := by kernel_rfl
end Go.AM.YteojpbflpgnloaaDoor
