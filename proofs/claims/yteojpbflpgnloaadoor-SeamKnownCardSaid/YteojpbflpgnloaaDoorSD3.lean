/- Runs of SeamKnown, by the kernel, in parts. Own work of this project. -/
import Derived.Test.YteojpbflpgnloaaDoorSA
import Derived.KernelRfl
namespace Go.AM.YteojpbflpgnloaaDoor
open Go Go.AM
set_option maxRecDepth 1000000
theorem d_6_0 : givesA (.int .i64 0) (cA 55 [pts, pl 6 0] [] 0) = true := by kernel_rfl
theorem d_6_1 : givesA (.int .i64 0) (cA 55 [pts, pl 6 1] [] 0) = true := by kernel_rfl
theorem d_6_2 : givesA (.int .i64 0) (cA 55 [pts, pl 6 2] [] 0) = true := by kernel_rfl
theorem d_6_3 : givesA (.int .i64 0) (cA 55 [pts, pl 6 3] [] 0) = true := by kernel_rfl
theorem d_6_4 : givesA (.int .i64 0) (cA 55 [pts, pl 6 4] [] 0) = true := by kernel_rfl
theorem d_6_5 : givesA (.int .i64 0) (cA 55 [pts, pl 6 5] [] 0) = true := by kernel_rfl
theorem d_6_6 : givesA (.int .i64 0) (cA 55 [pts, pl 6 6] [] 0) = true := by kernel_rfl
end Go.AM.YteojpbflpgnloaaDoor
