/- Runs of SeamKnown, by the kernel, in parts. Own work of this project. -/
import Derived.Test.YteojpbflpgnloaaDoorSA
import Derived.KernelRfl
namespace Go.AM.YteojpbflpgnloaaDoor
open Go Go.AM
set_option maxRecDepth 1000000
theorem d_2_0 : givesA (.int .i64 1) (cA 55 [pts, pl 2 0] [] 0) = true := by kernel_rfl
theorem d_2_1 : givesA (.int .i64 1) (cA 55 [pts, pl 2 1] [] 0) = true := by kernel_rfl
theorem d_2_2 : givesA (.int .i64 2) (cA 55 [pts, pl 2 2] [] 0) = true := by kernel_rfl
theorem d_2_3 : givesA (.int .i64 1) (cA 55 [pts, pl 2 3] [] 0) = true := by kernel_rfl
theorem d_2_4 : givesA (.int .i64 1) (cA 55 [pts, pl 2 4] [] 0) = true := by kernel_rfl
theorem d_2_5 : givesA (.int .i64 0) (cA 55 [pts, pl 2 5] [] 0) = true := by kernel_rfl
theorem d_2_6 : givesA (.int .i64 0) (cA 55 [pts, pl 2 6] [] 0) = true := by kernel_rfl
theorem d_3_0 : givesA (.int .i64 1) (cA 55 [pts, pl 3 0] [] 0) = true := by kernel_rfl
theorem d_3_1 : givesA (.int .i64 1) (cA 55 [pts, pl 3 1] [] 0) = true := by kernel_rfl
theorem d_3_2 : givesA (.int .i64 1) (cA 55 [pts, pl 3 2] [] 0) = true := by kernel_rfl
theorem d_3_3 : givesA (.int .i64 1) (cA 55 [pts, pl 3 3] [] 0) = true := by kernel_rfl
theorem d_3_4 : givesA (.int .i64 1) (cA 55 [pts, pl 3 4] [] 0) = true := by kernel_rfl
theorem d_3_5 : givesA (.int .i64 0) (cA 55 [pts, pl 3 5] [] 0) = true := by kernel_rfl
theorem d_3_6 : givesA (.int .i64 0) (cA 55 [pts, pl 3 6] [] 0) = true := by kernel_rfl
end Go.AM.YteojpbflpgnloaaDoor
