/- works(), by the kernel. Own work of this project. -/
import Derived.Test.YteellnlcligpfaaAmOk
import Derived.Test.YteellnlcligpfaaEnv
import Derived.KernelRfl
namespace Go.AM.Yteellnlcligpfaa
open Go Go.AM
set_option maxRecDepth 1000000
theorem works_run : isTrue (callA E fg 1000 40 6 [] [] 0) = true := by kernel_rfl
end Go.AM.Yteellnlcligpfaa
