/- works(), by the kernel. Own work of this project. -/
import Derived.Test.YtkcindoimbenhaaDoorAmOk
import Derived.Test.YtkcindoimbenhaaDoorEnv
import Derived.KernelRfl
namespace Go.AM.YtkcindoimbenhaaDoor
open Go Go.AM
set_option maxRecDepth 1000000
theorem works_run : isTrue (callA E fg 1000 40 18 [] [] 0) = true := by kernel_rfl
end Go.AM.YtkcindoimbenhaaDoor
