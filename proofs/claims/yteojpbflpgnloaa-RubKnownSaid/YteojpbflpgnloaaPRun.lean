/- The closed law, by the kernel, where works() is known. Own work of this project. -/
import Derived.Test.YteojpbflpgnloaaAmOk
import Derived.Test.YteojpbflpgnloaaEnv
import Derived.KernelRfl
namespace Go.AM.Yteojpbflpgnloaa
open Go Go.AM
set_option maxRecDepth 1000000
theorem known_run (H0 : AHeap) : isTrue (bodyA E (known1 36 (.bool true) H0 (callA E fg 1000 39)) fg 1000 4 [] [] 0) = true := by kernel_rfl
end Go.AM.Yteojpbflpgnloaa
