/- works(), by the kernel. Own work of this project. -/
import Derived.Test.YtikchlfbjdfioaaAmOk
import Derived.Test.YtikchlfbjdfioaaEnv
import Derived.KernelRfl
namespace Go.AM.Ytikchlfbjdfioaa
open Go Go.AM
set_option maxRecDepth 1000000
theorem works_run : isTrue (callA E fg 1000 40 20 [] [] 0) = true := by kernel_rfl
end Go.AM.Ytikchlfbjdfioaa
