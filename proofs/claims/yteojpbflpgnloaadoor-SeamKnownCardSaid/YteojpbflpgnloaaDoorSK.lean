/- Runs of SeamKnown, by the kernel, in parts. Own work of this project. -/
import Derived.Test.YteojpbflpgnloaaDoorOk
import Derived.Test.YteojpbflpgnloaaDoorSW
import Derived.Test.YteojpbflpgnloaaDoorSR
import Derived.Test.YteojpbflpgnloaaDoorSE
import Derived.Test.YteojpbflpgnloaaDoorSF
import Derived.Test.YteojpbflpgnloaaDoorSG
import Derived.Test.YteojpbflpgnloaaDoorSH
import Derived.Test.YteojpbflpgnloaaDoorSI
import Derived.Test.YteojpbflpgnloaaDoorSN
import Derived.Test.YteojpbflpgnloaaDoorSD0
import Derived.Test.YteojpbflpgnloaaDoorSD1
import Derived.Test.YteojpbflpgnloaaDoorSD2
import Derived.Test.YteojpbflpgnloaaDoorSD3
import Derived.KernelRfl
namespace Go.AM.YteojpbflpgnloaaDoor
open Go Go.AM Go.Proofs
set_option maxRecDepth 1000000
theorem depth_knows : ∀ k ∈ depthT, Knows Tryd.prog E k :=
  kcons (kn_ok (sound 36) d_0_0) (kcons (kn_ok (sound 36) d_0_1) (kcons (kn_ok (sound 36) d_0_2) (kcons (kn_ok (sound 36) d_0_3) (kcons (kn_ok (sound 36) d_0_4) (kcons (kn_ok (sound 36) d_0_5) (kcons (kn_ok (sound 36) d_0_6) (kcons (kn_ok (sound 36) d_1_0) (kcons (kn_ok (sound 36) d_1_1) (kcons (kn_ok (sound 36) d_1_2) (kcons (kn_ok (sound 36) d_1_3) (kcons (kn_ok (sound 36) d_1_4) (kcons (kn_ok (sound 36) d_1_5) (kcons (kn_ok (sound 36) d_1_6) (kcons (kn_ok (sound 36) d_2_0) (kcons (kn_ok (sound 36) d_2_1) (kcons (kn_ok (sound 36) d_2_2) (kcons (kn_ok (sound 36) d_2_3) (kcons (kn_ok (sound 36) d_2_4) (kcons (kn_ok (sound 36) d_2_5) (kcons (kn_ok (sound 36) d_2_6) (kcons (kn_ok (sound 36) d_3_0) (kcons (kn_ok (sound 36) d_3_1) (kcons (kn_ok (sound 36) d_3_2) (kcons (kn_ok (sound 36) d_3_3) (kcons (kn_ok (sound 36) d_3_4) (kcons (kn_ok (sound 36) d_3_5) (kcons (kn_ok (sound 36) d_3_6) (kcons (kn_ok (sound 36) d_4_0) (kcons (kn_ok (sound 36) d_4_1) (kcons (kn_ok (sound 36) d_4_2) (kcons (kn_ok (sound 36) d_4_3) (kcons (kn_ok (sound 36) d_4_4) (kcons (kn_ok (sound 36) d_4_5) (kcons (kn_ok (sound 36) d_4_6) (kcons (kn_ok (sound 36) d_5_0) (kcons (kn_ok (sound 36) d_5_1) (kcons (kn_ok (sound 36) d_5_2) (kcons (kn_ok (sound 36) d_5_3) (kcons (kn_ok (sound 36) d_5_4) (kcons (kn_ok (sound 36) d_5_5) (kcons (kn_ok (sound 36) d_5_6) (kcons (kn_ok (sound 36) d_6_0) (kcons (kn_ok (sound 36) d_6_1) (kcons (kn_ok (sound 36) d_6_2) (kcons (kn_ok (sound 36) d_6_3) (kcons (kn_ok (sound 36) d_6_4) (kcons (kn_ok (sound 36) d_6_5) (kcons (kn_ok (sound 36) d_6_6) knil))))))))))))))))))))))))))))))))))))))))))))))))
theorem cC_ok : CS Tryd.prog E cC := body_ok envOk mixed fg 1000 (knownL_ok (sound 39) depth_knows)
theorem works_knows : ∀ k ∈ worksT, Knows Tryd.prog E k :=
  kcons (kn_ok cC_ok centre_run) (kcons (kn_ok (sound 36) se_0) (kcons (kn_ok (sound 36) sh_0) (kcons (kn_ok (sound 36) sh_1) (kcons (kn_ok (sound 36) sh_2) (kcons (kn_ok (sound 36) sh_3) (kcons (kn_ok (sound 36) sh_4) (kcons (kn_ok (sound 36) sh_5) (kcons (kn_ok (sound 36) sh_6) (kcons (knH_ok (sound 36) divide_run) knil)))))))))
theorem cW_ok : CS Tryd.prog E cW := body_ok envOk mixed fg 1000 (knownL_ok (sound 39) works_knows)
theorem max_knows : ∀ k ∈ maxT, Knows Tryd.prog E k := knows_mem (knL_ok (sound 36) max_all0) (knows_mem (knL_ok (sound 36) max_all1) (knows_mem (knL_ok (sound 36) max_all2) (knL_ok (sound 36) max_all3)))
theorem cM_ok : CS Tryd.prog E cM := body_ok envOk mixed fg 1000 (knownL_ok (sound 39) max_knows)
theorem law_knows : ∀ k ∈ lawT, Knows Tryd.prog E k :=
  kcons (kn_ok cW_ok works_run) (kcons (kn_ok cM_ok apart_run) (kcons (kn_ok (sound 36) si_0) (kcons (kn_ok (sound 36) si_1) (kcons (kn_ok (sound 36) si_2) (kcons (kn_ok (sound 36) si_3) (kcons (kn_ok (sound 36) si_4) (kcons (kn_ok (sound 36) si_5) (kcons (kn_ok (sound 36) si_6) (kcons (kn_ok (sound 36) si_7) (kcons (kn_ok (sound 36) si_8) (kcons (kn_ok (sound 36) si_9) (kcons (kn_ok (sound 36) si_10) knil))))))))))))
theorem cL_ok : CS Tryd.prog E cL := body_ok envOk mixed fg 1000 (knownL_ok (sound 39) law_knows)
end Go.AM.YteojpbflpgnloaaDoor
