/- MuleKnown, by the kernel, where works() is known. Own work of this project. -/
import Derived.Test.YtkcindoimbenhaaDoorAmOk
import Derived.Test.YtkcindoimbenhaaDoorEnv
import Derived.KernelRfl
namespace Go.AM.YtkcindoimbenhaaDoor
open Go Go.AM
set_option maxRecDepth 1000000
theorem known_run (H0 : AHeap) : isTrue (bodyA E (known1 18 (.bool true) H0 (callA E fg 1000 39)) fg 1000 13 [] [] 0) = true := by kernel_rfl
end Go.AM.YtkcindoimbenhaaDoor
