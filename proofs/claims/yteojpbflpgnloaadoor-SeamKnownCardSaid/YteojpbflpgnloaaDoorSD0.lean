/- Runs of SeamKnown, by the kernel, in parts. Own work of this project. -/
import Derived.Test.YteojpbflpgnloaaDoorSA
import Derived.KernelRfl
namespace Go.AM.YteojpbflpgnloaaDoor
open Go Go.AM
set_option maxRecDepth 1000000
theorem d_0_0 : givesA (.int .i64 1) (cA 55 [pts, pl 0 0] [] 0) = true := by kernel_rfl
theorem d_0_1 : givesA (.int .i64 1) (cA 55 [pts, pl 0 1] [] 0) = true := by kernel_rfl
theorem d_0_2 : givesA (.int .i64 1) (cA 55 [pts, pl 0 2] [] 0) = true := by kernel_rfl
theorem d_0_3 : givesA (.int .i64 1) (cA 55 [pts, pl 0 3] [] 0) = true := by kernel_rfl
theorem d_0_4 : givesA (.int .i64 1) (cA 55 [pts, pl 0 4] [] 0) = true := by kernel_rfl
theorem d_0_5 : givesA (.int .i64 0) (cA 55 [pts, pl 0 5] [] 0) = true := by kernel_rfl
theorem d_0_6 : givesA (.int .i64 0) (cA 55 [pts, pl 0 6] [] 0) = true := by kernel_rfl
theorem d_1_0 : givesA (.int .i64 1) (cA 55 [pts, pl 1 0] [] 0) = true := by kernel_rfl
theorem d_1_1 : givesA (.int .i64 2) (cA 55 [pts, pl 1 1] [] 0) = true := by kernel_rfl
theorem d_1_2 : givesA (.int .i64 1) (cA 55 [pts, pl 1 2] [] 0) = true := by kernel_rfl
theorem d_1_3 : givesA (.int .i64 1) (cA 55 [pts, pl 1 3] [] 0) = true := by kernel_rfl
theorem d_1_4 : givesA (.int .i64 1) (cA 55 [pts, pl 1 4] [] 0) = true := by kernel_rfl
theorem d_1_5 : givesA (.int .i64 0) (cA 55 [pts, pl 1 5] [] 0) = true := by kernel_rfl
theorem d_1_6 : givesA (.int .i64 0) (cA 55 [pts, pl 1 6] [] 0) = true := by kernel_rfl
end Go.AM.YteojpbflpgnloaaDoor
