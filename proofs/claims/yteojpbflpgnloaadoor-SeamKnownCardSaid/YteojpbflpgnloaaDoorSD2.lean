/- Runs of SeamKnown, by the kernel, in parts. Own work of this project. -/
import Derived.Test.YteojpbflpgnloaaDoorSA
import Derived.KernelRfl
namespace Go.AM.YteojpbflpgnloaaDoor
open Go Go.AM
set_option maxRecDepth 1000000
theorem d_4_0 : givesA (.int .i64 1) (cA 55 [pts, pl 4 0] [] 0) = true := by kernel_rfl
theorem d_4_1 : givesA (.int .i64 1) (cA 55 [pts, pl 4 1] [] 0) = true := by kernel_rfl
theorem d_4_2 : givesA (.int .i64 1) (cA 55 [pts, pl 4 2] [] 0) = true := by kernel_rfl
theorem d_4_3 : givesA (.int .i64 1) (cA 55 [pts, pl 4 3] [] 0) = true := by kernel_rfl
theorem d_4_4 : givesA (.int .i64 1) (cA 55 [pts, pl 4 4] [] 0) = true := by kernel_rfl
theorem d_4_5 : givesA (.int .i64 0) (cA 55 [pts, pl 4 5] [] 0) = true := by kernel_rfl
theorem d_4_6 : givesA (.int .i64 0) (cA 55 [pts, pl 4 6] [] 0) = true := by kernel_rfl
theorem d_5_0 : givesA (.int .i64 0) (cA 55 [pts, pl 5 0] [] 0) = true := by kernel_rfl
theorem d_5_1 : givesA (.int .i64 0) (cA 55 [pts, pl 5 1] [] 0) = true := by kernel_rfl
theorem d_5_2 : givesA (.int .i64 0) (cA 55 [pts, pl 5 2] [] 0) = true := by kernel_rfl
theorem d_5_3 : givesA (.int .i64 0) (cA 55 [pts, pl 5 3] [] 0) = true := by kernel_rfl
theorem d_5_4 : givesA (.int .i64 0) (cA 55 [pts, pl 5 4] [] 0) = true := by kernel_rfl
theorem d_5_5 : givesA (.int .i64 0) (cA 55 [pts, pl 5 5] [] 0) = true := by kernel_rfl
theorem d_5_6 : givesA (.int .i64 0) (cA 55 [pts, pl 5 6] [] 0) = true := by kernel_rfl
end Go.AM.YteojpbflpgnloaaDoor
