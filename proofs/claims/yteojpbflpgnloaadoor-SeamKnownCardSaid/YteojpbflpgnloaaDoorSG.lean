/- Runs of SeamKnown, by the kernel, in parts. Own work of this project. -/
import Derived.Test.YteojpbflpgnloaaDoorSA
import Derived.KernelRfl
namespace Go.AM.YteojpbflpgnloaaDoor
open Go Go.AM
set_option maxRecDepth 1000000
theorem divide_run : givesAH (.tup [.ref 56 0 2 2 2 1 false, .int .i64 0]) [(10, ⟨.box, [.mapv 47]⟩), (47, ⟨.mp, [.int .u64 4, .bool true, .int .u64 11, .bool true, .int .u64 12, .bool true, .int .u64 3, .bool true, .int .u64 13, .bool true, .int .u64 2, .bool true, .int .u64 8, .bool true, .int .u64 7, .bool true, .int .u64 14, .bool true, .int .u64 1, .bool true, .int .u64 5, .bool true, .int .u64 10, .bool true]⟩), (56, ⟨.row, [.int .i64 0, .int .i64 3]⟩)] (cA 24 [.imm [.int .i64 0, .int .i64 0, .int .i64 0, .int .i64 4, .int .i64 4, .int .i64 0, .int .i64 4, .int .i64 4] 4 false] [] 0) = true := by kernel_rfl
end Go.AM.YteojpbflpgnloaaDoor
