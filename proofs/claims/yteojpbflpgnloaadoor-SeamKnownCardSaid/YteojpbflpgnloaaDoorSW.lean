/- Runs of SeamKnown, by the kernel, in parts. Own work of this project. -/
import Derived.Test.YteojpbflpgnloaaDoorST
import Derived.KernelRfl
namespace Go.AM.YteojpbflpgnloaaDoor
open Go Go.AM
set_option maxRecDepth 1000000
theorem works_run : givesA (.bool true) (cW 29 [] [] 0) = true := by kernel_rfl
end Go.AM.YteojpbflpgnloaaDoor
