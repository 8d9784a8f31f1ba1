/- works(), by the kernel. Own work of this project. -/
import Derived.Test.YteojpbflpgnloaaAmOk
import Derived.Test.YteojpbflpgnloaaEnv
import Derived.KernelRfl
namespace Go.AM.Yteojpbflpgnloaa
open Go Go.AM
set_option maxRecDepth 1000000
theorem works_run : isTrue (callA E fg 1000 40 36 [] [] 0) = true := by kernel_rfl
end Go.AM.Yteojpbflpgnloaa
