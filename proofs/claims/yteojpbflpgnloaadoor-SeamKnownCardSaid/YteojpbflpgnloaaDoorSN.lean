/- Runs of SeamKnown, by the kernel, in parts. Own work of this project. -/
import Derived.Test.YteojpbflpgnloaaDoorSM
import Derived.KernelRfl
namespace Go.AM.YteojpbflpgnloaaDoor
open Go Go.AM
set_option maxRecDepth 1000000
theorem max_all0 : allG cA 47 maxT0 = true := by kernel_rfl
theorem max_all1 : allG cA 47 maxT1 = true := by kernel_rfl
theorem max_all2 : allG cA 47 maxT2 = true := by kernel_rfl
theorem max_all3 : allG cA 47 maxT3 = true := by kernel_rfl
end Go.AM.YteojpbflpgnloaaDoor
