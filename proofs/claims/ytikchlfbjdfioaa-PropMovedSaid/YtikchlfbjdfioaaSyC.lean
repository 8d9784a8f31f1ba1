/- Of each function the parts of its text and an equation for each of them: printed by sym.py (own work). -/
import Derived.Test.YtikchlfbjdfioaaAmSy
import Derived.Test.YtikchlfbjdfioaaEnv
import Derived.KernelRfl
import Derived.Test.YtikchlfbjdfioaaSyA

namespace Go.AM.Ytikchlfbjdfioaa
open Go Go.AM
set_option maxRecDepth 100000
variable {C : Callee} {B N : Nat} {E0 : AHeap} (φ : AFr) (H : AHeap) (s : St)

/-! ### f7: (novaculite/novaculitelaw07.Heap).made -/
noncomputable def c7_0 : Code := kBody Proofs.Try.f7
noncomputable def c7_1 : Code := kL c7_0
noncomputable def r7_0 : Array Oper := kO c7_1
noncomputable def o7_0_0 : Oper := opN r7_0 0
noncomputable def o7_0_1 : Oper := opN r7_0 1
theorem x7_1 : execA E C (fg 7) B 63 E0 N c7_1 s = regX (runA E C B 63 r7_0 r7_0.toList s) (fun s => gcM E0 [0, 4] (forget s.1 [0, 4], s.2)) := x_reg (ops := r7_0) (by rfl) (by rfl) s
theorem r7_0_l : r7_0.toList = [o7_0_0, o7_0_1] := nrfl rfl
theorem s7_0_0 : stepA E C B 63 r7_0 o7_0_0 (φ, H) = stp (some 2) φ H (opBox (B + 2) (acells (fget φ 0))) := nrfl rfl
theorem s7_0_1 : stepA E C B 63 r7_0 o7_0_1 (φ, H) = some (fput φ 4 (.nilsl), H) := nrfl rfl
noncomputable def c7_2 : Code := kR c7_0
noncomputable def c7_3 : Code := kL c7_2
noncomputable def r7_1 : Array Oper := kO c7_3
noncomputable def o7_1_0 : Oper := opN r7_1 0
theorem x7_3 : execA E C (fg 7) B 63 E0 N c7_3 s = regX (runA E C B 63 r7_1 r7_1.toList s) (fun s => gcM E0 [] (forget s.1 [], s.2)) := x_reg (ops := r7_1) (by rfl) (by rfl) s
theorem r7_1_l : r7_1.toList = [o7_1_0] := nrfl rfl
theorem s7_1_0 : stepA E C B 63 r7_1 o7_1_0 (φ, H) = some (fput φ 5 (.nilsl), H) := nrfl rfl
noncomputable def c7_4 : Code := kR c7_2
noncomputable def c7_5 : Code := kL c7_4
noncomputable def r7_2 : Array Oper := kO c7_5
noncomputable def o7_2_0 : Oper := opN r7_2 0
theorem x7_5 : execA E C (fg 7) B 63 E0 N c7_5 s = regX (runA E C B 63 r7_2 r7_2.toList s) (fun s => gcM E0 [] (forget s.1 [], s.2)) := x_reg (ops := r7_2) (by rfl) (by rfl) s
theorem r7_2_l : r7_2.toList = [o7_2_0] := nrfl rfl
theorem s7_2_0 : stepA E C B 63 r7_2 o7_2_0 (φ, H) = some (fput φ 6 (.int .i64 0), H) := nrfl rfl
noncomputable def c7_6 : Code := kR c7_4
noncomputable def c7_7 : Code := kL c7_6
noncomputable def c7_8 : Code := kL c7_7
noncomputable def r7_3 : Array Oper := kO c7_8
noncomputable def o7_3_0 : Oper := opN r7_3 0
noncomputable def o7_3_1 : Oper := opN r7_3 1
noncomputable def o7_3_2 : Oper := opN r7_3 2
noncomputable def o7_3_3 : Oper := opN r7_3 3
noncomputable def o7_3_4 : Oper := opN r7_3 4
noncomputable def o7_3_5 : Oper := opN r7_3 5
noncomputable def o7_3_6 : Oper := opN r7_3 6
noncomputable def o7_3_7 : Oper := opN r7_3 7
noncomputable def o7_3_8 : Oper := opN r7_3 8
noncomputable def o7_3_9 : Oper := opN r7_3 9
theorem x7_8 : execA E C (fg 7) B 63 E0 N c7_8 s = regX (runA E C B 63 r7_3 r7_3.toList s) (fun s => gcM E0 [1, 2, 10, 11, 12, 13, 14, 15, 16] (forget s.1 [1, 2, 10, 11, 12, 13, 14, 15, 16], s.2)) := x_reg (ops := r7_3) (by rfl) (by rfl) s
theorem r7_3_l : r7_3.toList = [o7_3_0, o7_3_1, o7_3_2, o7_3_3, o7_3_4, o7_3_5, o7_3_6, o7_3_7, o7_3_8, o7_3_9] := nrfl rfl
theorem s7_3_0 : stepA E C B 63 r7_3 o7_3_0 (φ, H) = stp (some 10) φ H (just (aFieldAddr E.T 25 (fget φ 2) 1)) := nrfl rfl
theorem s7_3_1 : stepA E C B 63 r7_3 o7_3_1 (φ, H) = stp (some 11) φ H (just (aFieldAddr E.T 25 (fget φ 2) 0)) := nrfl rfl
theorem s7_3_2 : stepA E C B 63 r7_3 o7_3_2 (φ, H) = stp (some 12) φ H (just (aLoad E.T 5 (fget φ 11))) := nrfl rfl
theorem s7_3_3 : stepA E C B 63 r7_3 o7_3_3 (φ, H) = stp (some 13) φ H (justO (aConv E.T 5 3 (fget φ 12))) := nrfl rfl
theorem s7_3_4 : stepA E C B 63 r7_3 o7_3_4 (φ, H) = some (fput φ 14 (fget φ 1), H) := nrfl rfl
theorem s7_3_5 : stepA E C B 63 r7_3 o7_3_5 (φ, H) = stp (some 15) φ H (just (aBin E.T .rem 3 (fget φ 13) (fget φ 14))) := nrfl rfl
theorem s7_3_6 : stepA E C B 63 r7_3 o7_3_6 (φ, H) = stp (some 16) φ H (just (aBin E.T .add 3 (.int .i64 1) (fget φ 15))) := nrfl rfl
theorem s7_3_7 : stepA E C B 63 r7_3 o7_3_7 (φ, H) = stp (some 17) φ H (just (aSlice E.T 23 (fget φ 10) none (some (fget φ 16)) none)) := nrfl rfl
theorem s7_3_8 : stepA E C B 63 r7_3 o7_3_8 (φ, H) = stp (some 18) φ H (aBuiltin E.T (B + 18) .len #[64] [(fget φ 17)]) := nrfl rfl
theorem s7_3_9 : stepA E C B 63 r7_3 o7_3_9 (φ, H) = some (fput φ 19 (.int .i64 0), H) := nrfl rfl
noncomputable def c7_9 : Code := kR c7_7
noncomputable def c7_10 : Code := kB c7_9
noncomputable def c7_11 : Code := kB c7_10
noncomputable def c7_12 : Code := kL c7_11
noncomputable def r7_4 : Array Oper := kO c7_12
noncomputable def o7_4_0 : Oper := opN r7_4 0
theorem x7_12 : execA E C (fg 7) B 63 E0 N c7_12 s = regX (runA E C B 63 r7_4 r7_4.toList s) (fun s => gcM E0 [] (forget s.1 [], s.2)) := x_reg (ops := r7_4) (by rfl) (by rfl) s
theorem r7_4_l : r7_4.toList = [o7_4_0] := nrfl rfl
theorem s7_4_0 : stepA E C B 63 r7_4 o7_4_0 (φ, H) = stp (some 20) φ H (just (aBin E.T .lss 3 (fget φ 19) (fget φ 18))) := nrfl rfl
noncomputable def c7_13 : Code := kR c7_11
noncomputable def c7_14 : Code := kL c7_13
noncomputable def c7_15 : Code := kT c7_14
theorem x7_15 : execA E C (fg 7) B 63 E0 N c7_15 s = some (.normal, s) := x_skip (by rfl) s
noncomputable def c7_16 : Code := kE c7_14
theorem x7_16 : execA E C (fg 7) B 63 E0 N c7_16 s = some (.exit 0, s) := x_exit (by rfl) s
theorem x7_14 : execA E C (fg 7) B 63 E0 N c7_14 (φ, H) = condX (fget φ 20) (execA E C (fg 7) B 63 E0 N c7_15 (φ, H)) (execA E C (fg 7) B 63 E0 N c7_16 (φ, H)) := x_cond (by rfl) _
noncomputable def c7_17 : Code := kR c7_13
noncomputable def c7_18 : Code := kL c7_17
noncomputable def c7_19 : Code := kB c7_18
noncomputable def c7_20 : Code := kL c7_19
noncomputable def r7_5 : Array Oper := kO c7_20
noncomputable def o7_5_0 : Oper := opN r7_5 0
noncomputable def o7_5_1 : Oper := opN r7_5 1
noncomputable def o7_5_2 : Oper := opN r7_5 2
noncomputable def o7_5_3 : Oper := opN r7_5 3
theorem x7_20 : execA E C (fg 7) B 63 E0 N c7_20 s = regX (runA E C B 63 r7_5 r7_5.toList s) (fun s => gcM E0 [20, 21, 22] (forget s.1 [20, 21, 22], s.2)) := x_reg (ops := r7_5) (by rfl) (by rfl) s
theorem r7_5_l : r7_5.toList = [o7_5_0, o7_5_1, o7_5_2, o7_5_3] := nrfl rfl
theorem s7_5_0 : stepA E C B 63 r7_5 o7_5_0 (φ, H) = stp (some 21) φ H (just (aIndexAddr E.T 64 (fget φ 17) (fget φ 19))) := nrfl rfl
theorem s7_5_1 : stepA E C B 63 r7_5 o7_5_1 (φ, H) = stp (some 22) φ H (just (aLoad E.T 22 (fget φ 21))) := nrfl rfl
theorem s7_5_2 : stepA E C B 63 r7_5 o7_5_2 (φ, H) = stp (some 8) φ H (opBox (B + 8) (zeroCells E.T 22)) := nrfl rfl
theorem s7_5_3 : stepA E C B 63 r7_5 o7_5_3 (φ, H) = stp none φ H (opStore E.T 22 (fget φ 8) (fget φ 22)) := nrfl rfl
noncomputable def c7_21 : Code := kR c7_19
noncomputable def c7_22 : Code := kL c7_21
noncomputable def r7_6 : Array Oper := kO c7_22
noncomputable def o7_6_0 : Oper := opN r7_6 0
noncomputable def o7_6_1 : Oper := opN r7_6 1
noncomputable def o7_6_2 : Oper := opN r7_6 2
noncomputable def o7_6_3 : Oper := opN r7_6 3
noncomputable def o7_6_4 : Oper := opN r7_6 4
noncomputable def o7_6_5 : Oper := opN r7_6 5
noncomputable def o7_6_6 : Oper := opN r7_6 6
noncomputable def o7_6_7 : Oper := opN r7_6 7
noncomputable def o7_6_8 : Oper := opN r7_6 8
noncomputable def o7_6_9 : Oper := opN r7_6 9
noncomputable def o7_6_10 : Oper := opN r7_6 10
noncomputable def o7_6_11 : Oper := opN r7_6 11
noncomputable def o7_6_12 : Oper := opN r7_6 12
noncomputable def o7_6_13 : Oper := opN r7_6 13
noncomputable def o7_6_14 : Oper := opN r7_6 14
noncomputable def o7_6_15 : Oper := opN r7_6 15
noncomputable def o7_6_16 : Oper := opN r7_6 16
noncomputable def o7_6_17 : Oper := opN r7_6 17
noncomputable def o7_6_18 : Oper := opN r7_6 18
noncomputable def o7_6_19 : Oper := opN r7_6 19
theorem x7_22 : execA E C (fg 7) B 63 E0 N c7_22 s = regX (runA E C B 63 r7_6 r7_6.toList s) (fun s => gcM E0 [6, 23, 24, 25, 26, 27, 28, 29, 30, 31, 32, 33, 34, 35, 36, 37, 38, 39, 40] (forget s.1 [6, 23, 24, 25, 26, 27, 28, 29, 30, 31, 32, 33, 34, 35, 36, 37, 38, 39, 40], s.2)) := x_reg (ops := r7_6) (by rfl) (by rfl) s
theorem r7_6_l : r7_6.toList = [o7_6_0, o7_6_1, o7_6_2, o7_6_3, o7_6_4, o7_6_5, o7_6_6, o7_6_7, o7_6_8, o7_6_9, o7_6_10, o7_6_11, o7_6_12, o7_6_13, o7_6_14, o7_6_15, o7_6_16, o7_6_17, o7_6_18, o7_6_19] := nrfl rfl
theorem s7_6_0 : stepA E C B 63 r7_6 o7_6_0 (φ, H) = stp (some 23) φ H (just (aIndexAddr E.T 22 (fget φ 8) (.int .i64 0))) := nrfl rfl
theorem s7_6_1 : stepA E C B 63 r7_6 o7_6_1 (φ, H) = stp (some 24) φ H (just (aLoad E.T 5 (fget φ 23))) := nrfl rfl
theorem s7_6_2 : stepA E C B 63 r7_6 o7_6_2 (φ, H) = stp (some 25) φ H (justO (aConv E.T 5 3 (fget φ 24))) := nrfl rfl
theorem s7_6_3 : stepA E C B 63 r7_6 o7_6_3 (φ, H) = stp (some 26) φ H (just (aBin E.T .rem 3 (fget φ 25) (.int .i64 12))) := nrfl rfl
theorem s7_6_4 : stepA E C B 63 r7_6 o7_6_4 (φ, H) = stp (some 27) φ H (just (aBin E.T .add 3 (.int .i64 1) (fget φ 26))) := nrfl rfl
theorem s7_6_5 : stepA E C B 63 r7_6 o7_6_5 (φ, H) = some (fput φ 28 (fget φ 6), H) := nrfl rfl
theorem s7_6_6 : stepA E C B 63 r7_6 o7_6_6 (φ, H) = stp (some 29) φ H (just (aBin E.T .add 3 (fget φ 28) (.int .i64 1))) := nrfl rfl
theorem s7_6_7 : stepA E C B 63 r7_6 o7_6_7 (φ, H) = stp (some 30) φ H (just (aIndexAddr E.T 22 (fget φ 8) (.int .i64 1))) := nrfl rfl
theorem s7_6_8 : stepA E C B 63 r7_6 o7_6_8 (φ, H) = stp (some 31) φ H (just (aLoad E.T 5 (fget φ 30))) := nrfl rfl
theorem s7_6_9 : stepA E C B 63 r7_6 o7_6_9 (φ, H) = stp (some 32) φ H (justO (aConv E.T 5 3 (fget φ 31))) := nrfl rfl
theorem s7_6_10 : stepA E C B 63 r7_6 o7_6_10 (φ, H) = stp (some 33) φ H (just (aBin E.T .rem 3 (fget φ 32) (.int .i64 15))) := nrfl rfl
theorem s7_6_11 : stepA E C B 63 r7_6 o7_6_11 (φ, H) = stp (some 34) φ H (just (aBin E.T .sub 3 (fget φ 29) (fget φ 33))) := nrfl rfl
theorem s7_6_12 : stepA E C B 63 r7_6 o7_6_12 (φ, H) = stp (some 35) φ H (just (aIndexAddr E.T 22 (fget φ 8) (.int .i64 2))) := nrfl rfl
theorem s7_6_13 : stepA E C B 63 r7_6 o7_6_13 (φ, H) = stp (some 36) φ H (just (aLoad E.T 5 (fget φ 35))) := nrfl rfl
theorem s7_6_14 : stepA E C B 63 r7_6 o7_6_14 (φ, H) = stp (some 37) φ H (justO (aConv E.T 5 3 (fget φ 36))) := nrfl rfl
theorem s7_6_15 : stepA E C B 63 r7_6 o7_6_15 (φ, H) = stp (some 38) φ H (just (aBin E.T .rem 3 (fget φ 37) (.int .i64 9))) := nrfl rfl
theorem s7_6_16 : stepA E C B 63 r7_6 o7_6_16 (φ, H) = stp (some 39) φ H (just (aBin E.T .add 3 (.int .i64 1) (fget φ 38))) := nrfl rfl
theorem s7_6_17 : stepA E C B 63 r7_6 o7_6_17 (φ, H) = stp (some 40) φ H (justO (aBuild E.T 44 (evO E φ) [(0, Operand.tmp 27), (1, Operand.tmp 34), (2, Operand.tmp 39)])) := nrfl rfl
theorem s7_6_18 : stepA E C B 63 r7_6 o7_6_18 (φ, H) = stp (some 9) φ H (opBox (B + 9) (zeroCells E.T 44)) := nrfl rfl
theorem s7_6_19 : stepA E C B 63 r7_6 o7_6_19 (φ, H) = stp none φ H (opStore E.T 44 (fget φ 9) (fget φ 40)) := nrfl rfl
noncomputable def c7_23 : Code := kR c7_21
noncomputable def c7_24 : Code := kL c7_23
noncomputable def r7_7 : Array Oper := kO c7_24
noncomputable def o7_7_0 : Oper := opN r7_7 0
noncomputable def o7_7_1 : Oper := opN r7_7 1
noncomputable def o7_7_2 : Oper := opN r7_7 2
noncomputable def o7_7_3 : Oper := opN r7_7 3
noncomputable def o7_7_4 : Oper := opN r7_7 4
noncomputable def o7_7_5 : Oper := opN r7_7 5
noncomputable def o7_7_6 : Oper := opN r7_7 6
noncomputable def o7_7_7 : Oper := opN r7_7 7
noncomputable def o7_7_8 : Oper := opN r7_7 8
noncomputable def o7_7_9 : Oper := opN r7_7 9
noncomputable def o7_7_10 : Oper := opN r7_7 10
noncomputable def o7_7_11 : Oper := opN r7_7 11
theorem x7_24 : execA E C (fg 7) B 63 E0 N c7_24 s = regX (drawA E C B 63 r7_7 s) (fun s => gcM E0 [8, 41, 42, 43, 44, 45, 46, 47, 48, 49, 50, 51] (forget s.1 [8, 41, 42, 43, 44, 45, 46, 47, 48, 49, 50, 51], s.2)) := x_draw (ops := r7_7) (by rfl) (by rfl) s
theorem r7_7_l : r7_7.toList = [o7_7_0, o7_7_1, o7_7_2, o7_7_3, o7_7_4, o7_7_5, o7_7_6, o7_7_7, o7_7_8, o7_7_9, o7_7_10, o7_7_11] := nrfl rfl
theorem r7_7_st : statOk r7_7 = true := by kernel_rfl
theorem r7_7_dr : drawA E C B 63 r7_7 s = if neat 63 s = true then drX r7_7 (runT E C B 63 r7_7 r7_7.toList 0 s) else none := draw_eq r7_7_st s
theorem r7_7_an (l : List (Nat × Tr)) : dynOk r7_7 l = (!writing l || dynPairs [[], [0], [], [2], [2, 3], [], [5], [5, 6], [2, 3, 4, 5, 6, 7], [0, 1, 2, 3, 4, 5, 6, 7, 8], [0, 1, 2, 3, 4, 5, 6, 7, 8, 9], [0, 1, 2, 3, 4, 5, 6, 7, 8, 9, 10]] (touching l)) := dynOk_eq (by kernel_rfl) l
theorem s7_7_0 : stepT E C B 63 r7_7 o7_7_0 (φ, H) = stpT (some 41) φ H (just (aFieldAddr E.T 44 (fget φ 9) 2)) := stT_go rfl (goT_R rfl rfl)
theorem s7_7_1 : stepT E C B 63 r7_7 o7_7_1 (φ, H) = stpT (some 42) φ H (just (aLoad E.T 3 (fget φ 41))) := stT_go rfl (goT_R rfl rfl)
theorem s7_7_2 : stepT E C B 63 r7_7 o7_7_2 (φ, H) = stpT (some 43) φ H (just (aIndexAddr E.T 22 (fget φ 8) (.int .i64 3))) := stT_go rfl (goT_R rfl rfl)
theorem s7_7_3 : stepT E C B 63 r7_7 o7_7_3 (φ, H) = stpT (some 44) φ H (just (aLoad E.T 5 (fget φ 43))) := stT_go rfl (goT_R rfl rfl)
theorem s7_7_4 : stepT E C B 63 r7_7 o7_7_4 (φ, H) = stpT (some 45) φ H (justO (aConv E.T 5 3 (fget φ 44))) := stT_go rfl (goT_R rfl rfl)
theorem s7_7_5 : stepT E C B 63 r7_7 o7_7_5 (φ, H) = stpT (some 46) φ H (just (aFieldAddr E.T 44 (fget φ 9) 2)) := stT_go rfl (goT_R rfl rfl)
theorem s7_7_6 : stepT E C B 63 r7_7 o7_7_6 (φ, H) = stpT (some 47) φ H (just (aLoad E.T 3 (fget φ 46))) := stT_go rfl (goT_R rfl rfl)
theorem s7_7_7 : stepT E C B 63 r7_7 o7_7_7 (φ, H) = stpT (some 48) φ H (just (aBin E.T .sub 3 (.int .i64 10) (fget φ 47))) := stT_go rfl (goT_R rfl rfl)
theorem s7_7_8 : stepT E C B 63 r7_7 o7_7_8 (φ, H) = stpT (some 49) φ H (just (aBin E.T .rem 3 (fget φ 45) (fget φ 48))) := stT_go rfl (goT_R rfl rfl)
theorem s7_7_9 : stepT E C B 63 r7_7 o7_7_9 (φ, H) = stpT (some 50) φ H (just (aBin E.T .add 3 (fget φ 42) (fget φ 49))) := stT_go rfl (goT_R rfl rfl)
theorem s7_7_10 : stepT E C B 63 r7_7 o7_7_10 (φ, H) = stpT (some 51) φ H (just (aFieldAddr E.T 44 (fget φ 9) 3)) := stT_go rfl (goT_R rfl rfl)
theorem s7_7_11 : stepT E C B 63 r7_7 o7_7_11 (φ, H) = stpT none φ H (opStore E.T 3 (fget φ 51) (fget φ 50)) := stT_go rfl (goT_R rfl rfl)
noncomputable def c7_25 : Code := kR c7_23
noncomputable def c7_26 : Code := kL c7_25
noncomputable def r7_8 : Array Oper := kO c7_26
noncomputable def o7_8_0 : Oper := opN r7_8 0
noncomputable def o7_8_1 : Oper := opN r7_8 1
noncomputable def o7_8_2 : Oper := opN r7_8 2
noncomputable def o7_8_3 : Oper := opN r7_8 3
noncomputable def o7_8_4 : Oper := opN r7_8 4
theorem x7_26 : execA E C (fg 7) B 63 E0 N c7_26 s = regX (runA E C B 63 r7_8 r7_8.toList s) (fun s => gcM E0 [52, 53, 54, 55] (forget s.1 [52, 53, 54, 55], s.2)) := x_reg (ops := r7_8) (by rfl) (by rfl) s
theorem r7_8_l : r7_8.toList = [o7_8_0, o7_8_1, o7_8_2, o7_8_3, o7_8_4] := nrfl rfl
theorem s7_8_0 : stepA E C B 63 r7_8 o7_8_0 (φ, H) = some (fput φ 52 (fget φ 5), H) := nrfl rfl
theorem s7_8_1 : stepA E C B 63 r7_8 o7_8_1 (φ, H) = stp (some 53) φ H (just (aLoad E.T 44 (fget φ 9))) := nrfl rfl
theorem s7_8_2 : stepA E C B 63 r7_8 o7_8_2 (φ, H) = stp (some 54) φ H (aBuildSlice E.T (B + 54) 27 1 (evO E φ) [(0, Operand.tmp 53)]) := nrfl rfl
theorem s7_8_3 : stepA E C B 63 r7_8 o7_8_3 (φ, H) = stp (some 55) φ H (aBuiltin E.T (B + 55) .append #[27, 27] [(fget φ 52), (fget φ 54)]) := nrfl rfl
theorem s7_8_4 : stepA E C B 63 r7_8 o7_8_4 (φ, H) = some (fput φ 5 (fget φ 55), H) := nrfl rfl
noncomputable def c7_27 : Code := kR c7_25
noncomputable def r7_9 : Array Oper := kO c7_27
noncomputable def o7_9_0 : Oper := opN r7_9 0
noncomputable def o7_9_1 : Oper := opN r7_9 1
noncomputable def o7_9_2 : Oper := opN r7_9 2
noncomputable def o7_9_3 : Oper := opN r7_9 3
noncomputable def o7_9_4 : Oper := opN r7_9 4
noncomputable def o7_9_5 : Oper := opN r7_9 5
theorem x7_27 : execA E C (fg 7) B 63 E0 N c7_27 s = regX (runA E C B 63 r7_9 r7_9.toList s) (fun s => gcM E0 [9, 56, 57, 58, 59, 60] (forget s.1 [9, 56, 57, 58, 59, 60], s.2)) := x_reg (ops := r7_9) (by rfl) (by rfl) s
theorem r7_9_l : r7_9.toList = [o7_9_0, o7_9_1, o7_9_2, o7_9_3, o7_9_4, o7_9_5] := nrfl rfl
theorem s7_9_0 : stepA E C B 63 r7_9 o7_9_0 (φ, H) = stp (some 56) φ H (just (aFieldAddr E.T 44 (fget φ 9) 1)) := nrfl rfl
theorem s7_9_1 : stepA E C B 63 r7_9 o7_9_1 (φ, H) = stp (some 57) φ H (just (aLoad E.T 3 (fget φ 56))) := nrfl rfl
theorem s7_9_2 : stepA E C B 63 r7_9 o7_9_2 (φ, H) = stp (some 58) φ H (just (aFieldAddr E.T 44 (fget φ 9) 0)) := nrfl rfl
theorem s7_9_3 : stepA E C B 63 r7_9 o7_9_3 (φ, H) = stp (some 59) φ H (just (aLoad E.T 3 (fget φ 58))) := nrfl rfl
theorem s7_9_4 : stepA E C B 63 r7_9 o7_9_4 (φ, H) = stp (some 60) φ H (just (aBin E.T .add 3 (fget φ 57) (fget φ 59))) := nrfl rfl
theorem s7_9_5 : stepA E C B 63 r7_9 o7_9_5 (φ, H) = some (fput φ 6 (fget φ 60), H) := nrfl rfl
theorem x7_25 : execA E C (fg 7) B 63 E0 N c7_25 s = seqX (execA E C (fg 7) B 63 E0 N c7_26 s) (execA E C (fg 7) B 63 E0 N c7_27) := x_seq (by rfl) s
theorem x7_23 : execA E C (fg 7) B 63 E0 N c7_23 s = seqX (execA E C (fg 7) B 63 E0 N c7_24 s) (execA E C (fg 7) B 63 E0 N c7_25) := x_seq (by rfl) s
theorem x7_21 : execA E C (fg 7) B 63 E0 N c7_21 s = seqX (execA E C (fg 7) B 63 E0 N c7_22 s) (execA E C (fg 7) B 63 E0 N c7_23) := x_seq (by rfl) s
theorem x7_19 : execA E C (fg 7) B 63 E0 N c7_19 s = seqX (execA E C (fg 7) B 63 E0 N c7_20 s) (execA E C (fg 7) B 63 E0 N c7_21) := x_seq (by rfl) s
theorem x7_18 : execA E C (fg 7) B 63 E0 N c7_18 s = blockX 1 (fun s => (forget s.1 [], s.2)) (execA E C (fg 7) B 63 E0 N c7_19 s) := x_block (by rfl) (by rfl) s
noncomputable def c7_28 : Code := kR c7_17
noncomputable def r7_10 : Array Oper := kO c7_28
noncomputable def o7_10_0 : Oper := opN r7_10 0
noncomputable def o7_10_1 : Oper := opN r7_10 1
theorem x7_28 : execA E C (fg 7) B 63 E0 N c7_28 s = regX (runA E C B 63 r7_10 r7_10.toList s) (fun s => gcM E0 [61] (forget s.1 [61], s.2)) := x_reg (ops := r7_10) (by rfl) (by rfl) s
theorem r7_10_l : r7_10.toList = [o7_10_0, o7_10_1] := nrfl rfl
theorem s7_10_0 : stepA E C B 63 r7_10 o7_10_0 (φ, H) = stp (some 61) φ H (just (aBin E.T .add 3 (fget φ 19) (.int .i64 1))) := nrfl rfl
theorem s7_10_1 : stepA E C B 63 r7_10 o7_10_1 (φ, H) = some (fput φ 19 (fget φ 61), H) := nrfl rfl
theorem x7_17 : execA E C (fg 7) B 63 E0 N c7_17 s = seqX (execA E C (fg 7) B 63 E0 N c7_18 s) (execA E C (fg 7) B 63 E0 N c7_28) := x_seq (by rfl) s
theorem x7_13 : execA E C (fg 7) B 63 E0 N c7_13 s = seqX (execA E C (fg 7) B 63 E0 N c7_14 s) (execA E C (fg 7) B 63 E0 N c7_17) := x_seq (by rfl) s
theorem x7_11 : execA E C (fg 7) B 63 E0 N c7_11 s = seqX (execA E C (fg 7) B 63 E0 N c7_12 s) (execA E C (fg 7) B 63 E0 N c7_13) := x_seq (by rfl) s
-- a loop of f7: x7_10; body c7_11; slots [19, 18, 17, 6, 5]
theorem x7_10 : execA E C (fg 7) B 63 E0 N c7_10 s = iterA (execA E C (fg 7) B 63 E0 N c7_11) (headA E0) N s := x_loop (by rfl) s
theorem x7_9 : execA E C (fg 7) B 63 E0 N c7_9 s = blockX 0 (fun s => (forget s.1 [6, 17, 18, 19, 20], s.2)) (execA E C (fg 7) B 63 E0 N c7_10 s) := x_block (by rfl) (by rfl) s
theorem x7_7 : execA E C (fg 7) B 63 E0 N c7_7 s = seqX (execA E C (fg 7) B 63 E0 N c7_8 s) (execA E C (fg 7) B 63 E0 N c7_9) := x_seq (by rfl) s
noncomputable def c7_29 : Code := kR c7_6
noncomputable def c7_30 : Code := kL c7_29
noncomputable def r7_11 : Array Oper := kO c7_30
noncomputable def o7_11_0 : Oper := opN r7_11 0
noncomputable def o7_11_1 : Oper := opN r7_11 1
theorem x7_30 : execA E C (fg 7) B 63 E0 N c7_30 s = regX (runA E C B 63 r7_11 r7_11.toList s) (fun s => gcM E0 [5, 62] (forget s.1 [5, 62], s.2)) := x_reg (ops := r7_11) (by rfl) (by rfl) s
theorem r7_11_l : r7_11.toList = [o7_11_0, o7_11_1] := nrfl rfl
theorem s7_11_0 : stepA E C B 63 r7_11 o7_11_0 (φ, H) = some (fput φ 62 (fget φ 5), H) := nrfl rfl
theorem s7_11_1 : stepA E C B 63 r7_11 o7_11_1 (φ, H) = some (fput φ 4 (fget φ 62), H) := nrfl rfl
noncomputable def c7_31 : Code := kR c7_29
theorem x7_31 : execA E C (fg 7) B 63 E0 N c7_31 s = some (.ret, s) := x_ret (by rfl) s
theorem x7_29 : execA E C (fg 7) B 63 E0 N c7_29 s = seqX (execA E C (fg 7) B 63 E0 N c7_30 s) (execA E C (fg 7) B 63 E0 N c7_31) := x_seq (by rfl) s
theorem x7_6 : execA E C (fg 7) B 63 E0 N c7_6 s = seqX (execA E C (fg 7) B 63 E0 N c7_7 s) (execA E C (fg 7) B 63 E0 N c7_29) := x_seq (by rfl) s
theorem x7_4 : execA E C (fg 7) B 63 E0 N c7_4 s = seqX (execA E C (fg 7) B 63 E0 N c7_5 s) (execA E C (fg 7) B 63 E0 N c7_6) := x_seq (by rfl) s
theorem x7_2 : execA E C (fg 7) B 63 E0 N c7_2 s = seqX (execA E C (fg 7) B 63 E0 N c7_3 s) (execA E C (fg 7) B 63 E0 N c7_4) := x_seq (by rfl) s
theorem x7_0 : execA E C (fg 7) B 63 E0 N c7_0 s = seqX (execA E C (fg 7) B 63 E0 N c7_1 s) (execA E C (fg 7) B 63 E0 N c7_2) := x_seq (by rfl) s
theorem fi_7 : fInfo E 7 = some ⟨63, #[.tmp 4], c7_0⟩ := nrfl rfl
theorem b_7 (args : List AV) : bodyA E C fg N 7 args H B = bodyX E [.tmp 4] (execA E C (fg 7) B 63 H N c7_0 (frame0 args 0 [], H)) := bodyA_eq fi_7 args H
/-! ### f25: novaculite/novaculitelaw07.total -/
noncomputable def c25_0 : Code := kBody Proofs.Try.f25
noncomputable def c25_1 : Code := kL c25_0
noncomputable def r25_0 : Array Oper := kO c25_1
noncomputable def o25_0_0 : Oper := opN r25_0 0
theorem x25_1 : execA E C (fg 25) B 17 E0 N c25_1 s = regX (runA E C B 17 r25_0 r25_0.toList s) (fun s => gcM E0 [2] (forget s.1 [2], s.2)) := x_reg (ops := r25_0) (by rfl) (by rfl) s
theorem r25_0_l : r25_0.toList = [o25_0_0] := nrfl rfl
theorem s25_0_0 : stepA E C B 17 r25_0 o25_0_0 (φ, H) = some (fput φ 2 (.int .i64 0), H) := nrfl rfl
noncomputable def c25_2 : Code := kR c25_0
noncomputable def c25_3 : Code := kL c25_2
noncomputable def r25_1 : Array Oper := kO c25_3
noncomputable def o25_1_0 : Oper := opN r25_1 0
theorem x25_3 : execA E C (fg 25) B 17 E0 N c25_3 s = regX (runA E C B 17 r25_1 r25_1.toList s) (fun s => gcM E0 [] (forget s.1 [], s.2)) := x_reg (ops := r25_1) (by rfl) (by rfl) s
theorem r25_1_l : r25_1.toList = [o25_1_0] := nrfl rfl
theorem s25_1_0 : stepA E C B 17 r25_1 o25_1_0 (φ, H) = some (fput φ 3 (.int .i64 0), H) := nrfl rfl
noncomputable def c25_4 : Code := kR c25_2
noncomputable def c25_5 : Code := kL c25_4
noncomputable def c25_6 : Code := kL c25_5
noncomputable def r25_2 : Array Oper := kO c25_6
noncomputable def o25_2_0 : Oper := opN r25_2 0
noncomputable def o25_2_1 : Oper := opN r25_2 1
noncomputable def o25_2_2 : Oper := opN r25_2 2
theorem x25_6 : execA E C (fg 25) B 17 E0 N c25_6 s = regX (runA E C B 17 r25_2 r25_2.toList s) (fun s => gcM E0 [0] (forget s.1 [0], s.2)) := x_reg (ops := r25_2) (by rfl) (by rfl) s
theorem r25_2_l : r25_2.toList = [o25_2_0, o25_2_1, o25_2_2] := nrfl rfl
theorem s25_2_0 : stepA E C B 17 r25_2 o25_2_0 (φ, H) = some (fput φ 6 (fget φ 0), H) := nrfl rfl
theorem s25_2_1 : stepA E C B 17 r25_2 o25_2_1 (φ, H) = stp (some 7) φ H (aBuiltin E.T (B + 7) .len #[36] [(fget φ 6)]) := nrfl rfl
theorem s25_2_2 : stepA E C B 17 r25_2 o25_2_2 (φ, H) = some (fput φ 8 (.int .i64 0), H) := nrfl rfl
noncomputable def c25_7 : Code := kR c25_5
noncomputable def c25_8 : Code := kB c25_7
noncomputable def c25_9 : Code := kB c25_8
noncomputable def c25_10 : Code := kL c25_9
noncomputable def r25_3 : Array Oper := kO c25_10
noncomputable def o25_3_0 : Oper := opN r25_3 0
theorem x25_10 : execA E C (fg 25) B 17 E0 N c25_10 s = regX (runA E C B 17 r25_3 r25_3.toList s) (fun s => gcM E0 [] (forget s.1 [], s.2)) := x_reg (ops := r25_3) (by rfl) (by rfl) s
theorem r25_3_l : r25_3.toList = [o25_3_0] := nrfl rfl
theorem s25_3_0 : stepA E C B 17 r25_3 o25_3_0 (φ, H) = stp (some 9) φ H (just (aBin E.T .lss 3 (fget φ 8) (fget φ 7))) := nrfl rfl
noncomputable def c25_11 : Code := kR c25_9
noncomputable def c25_12 : Code := kL c25_11
noncomputable def c25_13 : Code := kT c25_12
theorem x25_13 : execA E C (fg 25) B 17 E0 N c25_13 s = some (.normal, s) := x_skip (by rfl) s
noncomputable def c25_14 : Code := kE c25_12
theorem x25_14 : execA E C (fg 25) B 17 E0 N c25_14 s = some (.exit 0, s) := x_exit (by rfl) s
theorem x25_12 : execA E C (fg 25) B 17 E0 N c25_12 (φ, H) = condX (fget φ 9) (execA E C (fg 25) B 17 E0 N c25_13 (φ, H)) (execA E C (fg 25) B 17 E0 N c25_14 (φ, H)) := x_cond (by rfl) _
noncomputable def c25_15 : Code := kR c25_11
noncomputable def c25_16 : Code := kL c25_15
noncomputable def c25_17 : Code := kB c25_16
noncomputable def c25_18 : Code := kL c25_17
noncomputable def r25_4 : Array Oper := kO c25_18
noncomputable def o25_4_0 : Oper := opN r25_4 0
noncomputable def o25_4_1 : Oper := opN r25_4 1
noncomputable def o25_4_2 : Oper := opN r25_4 2
theorem x25_18 : execA E C (fg 25) B 17 E0 N c25_18 s = regX (runA E C B 17 r25_4 r25_4.toList s) (fun s => gcM E0 [9, 10, 11] (forget s.1 [9, 10, 11], s.2)) := x_reg (ops := r25_4) (by rfl) (by rfl) s
theorem r25_4_l : r25_4.toList = [o25_4_0, o25_4_1, o25_4_2] := nrfl rfl
theorem s25_4_0 : stepA E C B 17 r25_4 o25_4_0 (φ, H) = stp (some 10) φ H (just (aIndexAddr E.T 36 (fget φ 6) (fget φ 8))) := nrfl rfl
theorem s25_4_1 : stepA E C B 17 r25_4 o25_4_1 (φ, H) = stp (some 11) φ H (just (aLoad E.T 3 (fget φ 10))) := nrfl rfl
theorem s25_4_2 : stepA E C B 17 r25_4 o25_4_2 (φ, H) = some (fput φ 5 (fget φ 11), H) := nrfl rfl
noncomputable def c25_19 : Code := kR c25_17
noncomputable def r25_5 : Array Oper := kO c25_19
noncomputable def o25_5_0 : Oper := opN r25_5 0
noncomputable def o25_5_1 : Oper := opN r25_5 1
noncomputable def o25_5_2 : Oper := opN r25_5 2
noncomputable def o25_5_3 : Oper := opN r25_5 3
theorem x25_19 : execA E C (fg 25) B 17 E0 N c25_19 s = regX (runA E C B 17 r25_5 r25_5.toList s) (fun s => gcM E0 [5, 12, 13, 14] (forget s.1 [5, 12, 13, 14], s.2)) := x_reg (ops := r25_5) (by rfl) (by rfl) s
theorem r25_5_l : r25_5.toList = [o25_5_0, o25_5_1, o25_5_2, o25_5_3] := nrfl rfl
theorem s25_5_0 : stepA E C B 17 r25_5 o25_5_0 (φ, H) = some (fput φ 12 (fget φ 3), H) := nrfl rfl
theorem s25_5_1 : stepA E C B 17 r25_5 o25_5_1 (φ, H) = some (fput φ 13 (fget φ 5), H) := nrfl rfl
theorem s25_5_2 : stepA E C B 17 r25_5 o25_5_2 (φ, H) = stp (some 14) φ H (just (aBin E.T .add 3 (fget φ 12) (fget φ 13))) := nrfl rfl
theorem s25_5_3 : stepA E C B 17 r25_5 o25_5_3 (φ, H) = some (fput φ 3 (fget φ 14), H) := nrfl rfl
theorem x25_17 : execA E C (fg 25) B 17 E0 N c25_17 s = seqX (execA E C (fg 25) B 17 E0 N c25_18 s) (execA E C (fg 25) B 17 E0 N c25_19) := x_seq (by rfl) s
theorem x25_16 : execA E C (fg 25) B 17 E0 N c25_16 s = blockX 1 (fun s => (forget s.1 [], s.2)) (execA E C (fg 25) B 17 E0 N c25_17 s) := x_block (by rfl) (by rfl) s
noncomputable def c25_20 : Code := kR c25_15
noncomputable def r25_6 : Array Oper := kO c25_20
noncomputable def o25_6_0 : Oper := opN r25_6 0
noncomputable def o25_6_1 : Oper := opN r25_6 1
theorem x25_20 : execA E C (fg 25) B 17 E0 N c25_20 s = regX (runA E C B 17 r25_6 r25_6.toList s) (fun s => gcM E0 [15] (forget s.1 [15], s.2)) := x_reg (ops := r25_6) (by rfl) (by rfl) s
theorem r25_6_l : r25_6.toList = [o25_6_0, o25_6_1] := nrfl rfl
theorem s25_6_0 : stepA E C B 17 r25_6 o25_6_0 (φ, H) = stp (some 15) φ H (just (aBin E.T .add 3 (fget φ 8) (.int .i64 1))) := nrfl rfl
theorem s25_6_1 : stepA E C B 17 r25_6 o25_6_1 (φ, H) = some (fput φ 8 (fget φ 15), H) := nrfl rfl
theorem x25_15 : execA E C (fg 25) B 17 E0 N c25_15 s = seqX (execA E C (fg 25) B 17 E0 N c25_16 s) (execA E C (fg 25) B 17 E0 N c25_20) := x_seq (by rfl) s
theorem x25_11 : execA E C (fg 25) B 17 E0 N c25_11 s = seqX (execA E C (fg 25) B 17 E0 N c25_12 s) (execA E C (fg 25) B 17 E0 N c25_15) := x_seq (by rfl) s
theorem x25_9 : execA E C (fg 25) B 17 E0 N c25_9 s = seqX (execA E C (fg 25) B 17 E0 N c25_10 s) (execA E C (fg 25) B 17 E0 N c25_11) := x_seq (by rfl) s
-- a loop of f25: x25_8; body c25_9; slots [8, 7, 6, 3]
theorem x25_8 : execA E C (fg 25) B 17 E0 N c25_8 s = iterA (execA E C (fg 25) B 17 E0 N c25_9) (headA E0) N s := x_loop (by rfl) s
theorem x25_7 : execA E C (fg 25) B 17 E0 N c25_7 s = blockX 0 (fun s => (forget s.1 [6, 7, 8, 9], s.2)) (execA E C (fg 25) B 17 E0 N c25_8 s) := x_block (by rfl) (by rfl) s
theorem x25_5 : execA E C (fg 25) B 17 E0 N c25_5 s = seqX (execA E C (fg 25) B 17 E0 N c25_6 s) (execA E C (fg 25) B 17 E0 N c25_7) := x_seq (by rfl) s
noncomputable def c25_21 : Code := kR c25_4
noncomputable def c25_22 : Code := kL c25_21
noncomputable def r25_7 : Array Oper := kO c25_22
noncomputable def o25_7_0 : Oper := opN r25_7 0
noncomputable def o25_7_1 : Oper := opN r25_7 1
theorem x25_22 : execA E C (fg 25) B 17 E0 N c25_22 s = regX (runA E C B 17 r25_7 r25_7.toList s) (fun s => gcM E0 [3, 16] (forget s.1 [3, 16], s.2)) := x_reg (ops := r25_7) (by rfl) (by rfl) s
theorem r25_7_l : r25_7.toList = [o25_7_0, o25_7_1] := nrfl rfl
theorem s25_7_0 : stepA E C B 17 r25_7 o25_7_0 (φ, H) = some (fput φ 16 (fget φ 3), H) := nrfl rfl
theorem s25_7_1 : stepA E C B 17 r25_7 o25_7_1 (φ, H) = some (fput φ 2 (fget φ 16), H) := nrfl rfl
noncomputable def c25_23 : Code := kR c25_21
theorem x25_23 : execA E C (fg 25) B 17 E0 N c25_23 s = some (.ret, s) := x_ret (by rfl) s
theorem x25_21 : execA E C (fg 25) B 17 E0 N c25_21 s = seqX (execA E C (fg 25) B 17 E0 N c25_22 s) (execA E C (fg 25) B 17 E0 N c25_23) := x_seq (by rfl) s
theorem x25_4 : execA E C (fg 25) B 17 E0 N c25_4 s = seqX (execA E C (fg 25) B 17 E0 N c25_5 s) (execA E C (fg 25) B 17 E0 N c25_21) := x_seq (by rfl) s
theorem x25_2 : execA E C (fg 25) B 17 E0 N c25_2 s = seqX (execA E C (fg 25) B 17 E0 N c25_3 s) (execA E C (fg 25) B 17 E0 N c25_4) := x_seq (by rfl) s
theorem x25_0 : execA E C (fg 25) B 17 E0 N c25_0 s = seqX (execA E C (fg 25) B 17 E0 N c25_1 s) (execA E C (fg 25) B 17 E0 N c25_2) := x_seq (by rfl) s
theorem fi_25 : fInfo E 25 = some ⟨17, #[.tmp 2], c25_0⟩ := nrfl rfl
theorem b_25 (args : List AV) : bodyA E C fg N 25 args H B = bodyX E [.tmp 2] (execA E C (fg 25) B 17 H N c25_0 (frame0 args 0 [], H)) := bodyA_eq fi_25 args H
/-! ### f13: novaculite/novaculitelaw07.moments -/
noncomputable def c13_0 : Code := kBody Proofs.Try.f13
noncomputable def c13_1 : Code := kL c13_0
noncomputable def r13_0 : Array Oper := kO c13_1
noncomputable def o13_0_0 : Oper := opN r13_0 0
noncomputable def o13_0_1 : Oper := opN r13_0 1
theorem x13_1 : execA E C (fg 13) B 74 E0 N c13_1 s = regX (runA E C B 74 r13_0 r13_0.toList s) (fun s => gcM E0 [] (forget s.1 [], s.2)) := x_reg (ops := r13_0) (by rfl) (by rfl) s
theorem r13_0_l : r13_0.toList = [o13_0_0, o13_0_1] := nrfl rfl
theorem s13_0_0 : stepA E C B 74 r13_0 o13_0_0 (φ, H) = some (fput φ 6 (.int .i64 0), H) := nrfl rfl
theorem s13_0_1 : stepA E C B 74 r13_0 o13_0_1 (φ, H) = some (fput φ 7 (.int .i64 0), H) := nrfl rfl
noncomputable def c13_2 : Code := kR c13_0
noncomputable def c13_3 : Code := kL c13_2
noncomputable def c13_4 : Code := kL c13_3
noncomputable def r13_1 : Array Oper := kO c13_4
noncomputable def o13_1_0 : Oper := opN r13_1 0
noncomputable def o13_1_1 : Oper := opN r13_1 1
theorem x13_4 : execA E C (fg 13) B 74 E0 N c13_4 s = regX (runA E C B 74 r13_1 r13_1.toList s) (fun s => gcM E0 [10] (forget s.1 [10], s.2)) := x_reg (ops := r13_1) (by rfl) (by rfl) s
theorem r13_1_l : r13_1.toList = [o13_1_0, o13_1_1] := nrfl rfl
theorem s13_1_0 : stepA E C B 74 r13_1 o13_1_0 (φ, H) = some (fput φ 10 (fget φ 2), H) := nrfl rfl
theorem s13_1_1 : stepA E C B 74 r13_1 o13_1_1 (φ, H) = some (fput φ 8 (fget φ 10), H) := nrfl rfl
noncomputable def c13_5 : Code := kR c13_3
noncomputable def c13_6 : Code := kB c13_5
noncomputable def c13_7 : Code := kB c13_6
noncomputable def c13_8 : Code := kL c13_7
noncomputable def c13_9 : Code := kL c13_8
noncomputable def r13_2 : Array Oper := kO c13_9
noncomputable def o13_2_0 : Oper := opN r13_2 0
noncomputable def o13_2_1 : Oper := opN r13_2 1
noncomputable def o13_2_2 : Oper := opN r13_2 2
noncomputable def o13_2_3 : Oper := opN r13_2 3
theorem x13_9 : execA E C (fg 13) B 74 E0 N c13_9 s = regX (runA E C B 74 r13_2 r13_2.toList s) (fun s => gcM E0 [11, 12, 13] (forget s.1 [11, 12, 13], s.2)) := x_reg (ops := r13_2) (by rfl) (by rfl) s
theorem r13_2_l : r13_2.toList = [o13_2_0, o13_2_1, o13_2_2, o13_2_3] := nrfl rfl
theorem s13_2_0 : stepA E C B 74 r13_2 o13_2_0 (φ, H) = some (fput φ 11 (fget φ 8), H) := nrfl rfl
theorem s13_2_1 : stepA E C B 74 r13_2 o13_2_1 (φ, H) = some (fput φ 12 (fget φ 0), H) := nrfl rfl
theorem s13_2_2 : stepA E C B 74 r13_2 o13_2_2 (φ, H) = stp (some 13) φ H (aBuiltin E.T (B + 13) .len #[27] [(fget φ 12)]) := nrfl rfl
theorem s13_2_3 : stepA E C B 74 r13_2 o13_2_3 (φ, H) = stp (some 14) φ H (just (aBin E.T .lss 3 (fget φ 11) (fget φ 13))) := nrfl rfl
noncomputable def c13_10 : Code := kR c13_8
noncomputable def c13_11 : Code := kT c13_10
theorem x13_11 : execA E C (fg 13) B 74 E0 N c13_11 s = some (.normal, s) := x_skip (by rfl) s
noncomputable def c13_12 : Code := kE c13_10
theorem x13_12 : execA E C (fg 13) B 74 E0 N c13_12 s = some (.exit 0, s) := x_exit (by rfl) s
theorem x13_10 : execA E C (fg 13) B 74 E0 N c13_10 (φ, H) = condX (fget φ 14) (execA E C (fg 13) B 74 E0 N c13_11 (φ, H)) (execA E C (fg 13) B 74 E0 N c13_12 (φ, H)) := x_cond (by rfl) _
theorem x13_8 : execA E C (fg 13) B 74 E0 N c13_8 s = seqX (execA E C (fg 13) B 74 E0 N c13_9 s) (execA E C (fg 13) B 74 E0 N c13_10) := x_seq (by rfl) s
noncomputable def c13_13 : Code := kR c13_7
noncomputable def c13_14 : Code := kL c13_13
noncomputable def c13_15 : Code := kB c13_14
noncomputable def c13_16 : Code := kL c13_15
noncomputable def c13_17 : Code := kL c13_16
noncomputable def r13_4 : Array Oper := kO c13_17
noncomputable def o13_4_0 : Oper := opN r13_4 0
noncomputable def o13_4_1 : Oper := opN r13_4 1
theorem x13_17 : execA E C (fg 13) B 74 E0 N c13_17 s = regX (runA E C B 74 r13_4 r13_4.toList s) (fun s => gcM E0 [14, 17] (forget s.1 [14, 17], s.2)) := x_reg (ops := r13_4) (by rfl) (by rfl) s
theorem r13_4_l : r13_4.toList = [o13_4_0, o13_4_1] := nrfl rfl
theorem s13_4_0 : stepA E C B 74 r13_4 o13_4_0 (φ, H) = some (fput φ 17 (fget φ 2), H) := nrfl rfl
theorem s13_4_1 : stepA E C B 74 r13_4 o13_4_1 (φ, H) = stp (some 18) φ H (just (aBin E.T .eql 3 (fget φ 17) (.int .i64 0))) := nrfl rfl
noncomputable def c13_18 : Code := kR c13_16
noncomputable def c13_19 : Code := kT c13_18
noncomputable def c13_20 : Code := kL c13_19
noncomputable def r13_5 : Array Oper := kO c13_20
noncomputable def o13_5_0 : Oper := opN r13_5 0
noncomputable def o13_5_1 : Oper := opN r13_5 1
noncomputable def o13_5_2 : Oper := opN r13_5 2
noncomputable def o13_5_3 : Oper := opN r13_5 3
noncomputable def o13_5_4 : Oper := opN r13_5 4
noncomputable def o13_5_5 : Oper := opN r13_5 5
noncomputable def o13_5_6 : Oper := opN r13_5 6
noncomputable def o13_5_7 : Oper := opN r13_5 7
noncomputable def o13_5_8 : Oper := opN r13_5 8
noncomputable def o13_5_9 : Oper := opN r13_5 9
noncomputable def o13_5_10 : Oper := opN r13_5 10
noncomputable def o13_5_11 : Oper := opN r13_5 11
noncomputable def o13_5_12 : Oper := opN r13_5 12
theorem x13_20 : execA E C (fg 13) B 74 E0 N c13_20 s = regX (drawA E C B 74 r13_5 s) (fun s => gcM E0 [18, 19, 20, 21, 22, 23, 24, 25, 26, 27, 28, 29, 30] (forget s.1 [18, 19, 20, 21, 22, 23, 24, 25, 26, 27, 28, 29, 30], s.2)) := x_draw (ops := r13_5) (by rfl) (by rfl) s
theorem r13_5_l : r13_5.toList = [o13_5_0, o13_5_1, o13_5_2, o13_5_3, o13_5_4, o13_5_5, o13_5_6, o13_5_7, o13_5_8, o13_5_9, o13_5_10, o13_5_11, o13_5_12] := nrfl rfl
theorem r13_5_st : statOk r13_5 = true := by kernel_rfl
theorem r13_5_dr : drawA E C B 74 r13_5 s = if neat 74 s = true then drX r13_5 (runT E C B 74 r13_5 r13_5.toList 0 s) else none := draw_eq r13_5_st s
theorem r13_5_an (l : List (Nat × Tr)) : dynOk r13_5 l = (!writing l || dynPairs [[], [], [], [1, 2], [1, 2, 3], [], [], [5, 6], [5, 6, 7], [5, 6, 7, 8], [1, 2, 3, 4, 5, 6, 7, 8, 9], [0, 1, 2, 3, 4, 5, 6, 7, 8, 9, 10], [0, 1, 2, 3, 4, 5, 6, 7, 8, 9, 10, 11]] (touching l)) := dynOk_eq (by kernel_rfl) l
theorem s13_5_0 : stepT E C B 74 r13_5 o13_5_0 (φ, H) = some ((fput φ 19 (fget φ 6), H), ⟨false, [], []⟩) := stT_go rfl (goT_mv rfl rfl)
theorem s13_5_1 : stepT E C B 74 r13_5 o13_5_1 (φ, H) = some ((fput φ 20 (fget φ 1), H), ⟨false, [], []⟩) := stT_go rfl (goT_mv rfl rfl)
theorem s13_5_2 : stepT E C B 74 r13_5 o13_5_2 (φ, H) = some ((fput φ 21 (fget φ 8), H), ⟨false, [], []⟩) := stT_go rfl (goT_mv rfl rfl)
theorem s13_5_3 : stepT E C B 74 r13_5 o13_5_3 (φ, H) = stpT (some 22) φ H (just (aIndexAddr E.T 36 (fget φ 20) (fget φ 21))) := stT_go rfl (goT_R rfl rfl)
theorem s13_5_4 : stepT E C B 74 r13_5 o13_5_4 (φ, H) = stpT (some 23) φ H (just (aLoad E.T 3 (fget φ 22))) := stT_go rfl (goT_R rfl rfl)
theorem s13_5_5 : stepT E C B 74 r13_5 o13_5_5 (φ, H) = some ((fput φ 24 (fget φ 0), H), ⟨false, [], []⟩) := stT_go rfl (goT_mv rfl rfl)
theorem s13_5_6 : stepT E C B 74 r13_5 o13_5_6 (φ, H) = some ((fput φ 25 (fget φ 8), H), ⟨false, [], []⟩) := stT_go rfl (goT_mv rfl rfl)
theorem s13_5_7 : stepT E C B 74 r13_5 o13_5_7 (φ, H) = stpT (some 26) φ H (just (aIndexAddr E.T 27 (fget φ 24) (fget φ 25))) := stT_go rfl (goT_R rfl rfl)
theorem s13_5_8 : stepT E C B 74 r13_5 o13_5_8 (φ, H) = stpT (some 27) φ H (just (aFieldAddr E.T 44 (fget φ 26) 1)) := stT_go rfl (goT_R rfl rfl)
theorem s13_5_9 : stepT E C B 74 r13_5 o13_5_9 (φ, H) = stpT (some 28) φ H (just (aLoad E.T 3 (fget φ 27))) := stT_go rfl (goT_R rfl rfl)
theorem s13_5_10 : stepT E C B 74 r13_5 o13_5_10 (φ, H) = stpT (some 29) φ H (just (aBin E.T .mul 3 (fget φ 23) (fget φ 28))) := stT_go rfl (goT_R rfl rfl)
theorem s13_5_11 : stepT E C B 74 r13_5 o13_5_11 (φ, H) = stpT (some 30) φ H (just (aBin E.T .add 3 (fget φ 19) (fget φ 29))) := stT_go rfl (goT_R rfl rfl)
theorem s13_5_12 : stepT E C B 74 r13_5 o13_5_12 (φ, H) = some ((fput φ 6 (fget φ 30), H), ⟨false, [], []⟩) := stT_go rfl (goT_mv rfl rfl)
noncomputable def c13_21 : Code := kR c13_19
theorem x13_21 : execA E C (fg 13) B 74 E0 N c13_21 s = some (.exit 1, s) := x_exit (by rfl) s
theorem x13_19 : execA E C (fg 13) B 74 E0 N c13_19 s = seqX (execA E C (fg 13) B 74 E0 N c13_20 s) (execA E C (fg 13) B 74 E0 N c13_21) := x_seq (by rfl) s
noncomputable def c13_22 : Code := kE c13_18
theorem x13_22 : execA E C (fg 13) B 74 E0 N c13_22 s = some (.normal, s) := x_skip (by rfl) s
theorem x13_18 : execA E C (fg 13) B 74 E0 N c13_18 (φ, H) = condX (fget φ 18) (execA E C (fg 13) B 74 E0 N c13_19 (φ, H)) (execA E C (fg 13) B 74 E0 N c13_22 (φ, H)) := x_cond (by rfl) _
theorem x13_16 : execA E C (fg 13) B 74 E0 N c13_16 s = seqX (execA E C (fg 13) B 74 E0 N c13_17 s) (execA E C (fg 13) B 74 E0 N c13_18) := x_seq (by rfl) s
noncomputable def c13_23 : Code := kR c13_15
noncomputable def c13_24 : Code := kL c13_23
noncomputable def r13_6 : Array Oper := kO c13_24
noncomputable def o13_6_0 : Oper := opN r13_6 0
noncomputable def o13_6_1 : Oper := opN r13_6 1
noncomputable def o13_6_2 : Oper := opN r13_6 2
noncomputable def o13_6_3 : Oper := opN r13_6 3
noncomputable def o13_6_4 : Oper := opN r13_6 4
noncomputable def o13_6_5 : Oper := opN r13_6 5
noncomputable def o13_6_6 : Oper := opN r13_6 6
theorem x13_24 : execA E C (fg 13) B 74 E0 N c13_24 s = regX (runA E C B 74 r13_6 r13_6.toList s) (fun s => gcM E0 [18, 31, 32, 33, 34, 35] (forget s.1 [18, 31, 32, 33, 34, 35], s.2)) := x_reg (ops := r13_6) (by rfl) (by rfl) s
theorem r13_6_l : r13_6.toList = [o13_6_0, o13_6_1, o13_6_2, o13_6_3, o13_6_4, o13_6_5, o13_6_6] := nrfl rfl
theorem s13_6_0 : stepA E C B 74 r13_6 o13_6_0 (φ, H) = some (fput φ 31 (fget φ 0), H) := nrfl rfl
theorem s13_6_1 : stepA E C B 74 r13_6 o13_6_1 (φ, H) = some (fput φ 32 (fget φ 2), H) := nrfl rfl
theorem s13_6_2 : stepA E C B 74 r13_6 o13_6_2 (φ, H) = stp (some 33) φ H (just (aBin E.T .sub 3 (fget φ 32) (.int .i64 1))) := nrfl rfl
theorem s13_6_3 : stepA E C B 74 r13_6 o13_6_3 (φ, H) = stp (some 34) φ H (just (aIndexAddr E.T 27 (fget φ 31) (fget φ 33))) := nrfl rfl
theorem s13_6_4 : stepA E C B 74 r13_6 o13_6_4 (φ, H) = stp (some 35) φ H (just (aLoad E.T 44 (fget φ 34))) := nrfl rfl
theorem s13_6_5 : stepA E C B 74 r13_6 o13_6_5 (φ, H) = stp (some 9) φ H (opBox (B + 9) (zeroCells E.T 44)) := nrfl rfl
theorem s13_6_6 : stepA E C B 74 r13_6 o13_6_6 (φ, H) = stp none φ H (opStore E.T 44 (fget φ 9) (fget φ 35)) := nrfl rfl
noncomputable def c13_25 : Code := kR c13_23
noncomputable def c13_26 : Code := kL c13_25
noncomputable def r13_7 : Array Oper := kO c13_26
noncomputable def o13_7_0 : Oper := opN r13_7 0
noncomputable def o13_7_1 : Oper := opN r13_7 1
noncomputable def o13_7_2 : Oper := opN r13_7 2
noncomputable def o13_7_3 : Oper := opN r13_7 3
noncomputable def o13_7_4 : Oper := opN r13_7 4
noncomputable def o13_7_5 : Oper := opN r13_7 5
noncomputable def o13_7_6 : Oper := opN r13_7 6
noncomputable def o13_7_7 : Oper := opN r13_7 7
noncomputable def o13_7_8 : Oper := opN r13_7 8
noncomputable def o13_7_9 : Oper := opN r13_7 9
noncomputable def o13_7_10 : Oper := opN r13_7 10
noncomputable def o13_7_11 : Oper := opN r13_7 11
noncomputable def o13_7_12 : Oper := opN r13_7 12
noncomputable def o13_7_13 : Oper := opN r13_7 13
noncomputable def o13_7_14 : Oper := opN r13_7 14
noncomputable def o13_7_15 : Oper := opN r13_7 15
noncomputable def o13_7_16 : Oper := opN r13_7 16
noncomputable def o13_7_17 : Oper := opN r13_7 17
noncomputable def o13_7_18 : Oper := opN r13_7 18
theorem x13_26 : execA E C (fg 13) B 74 E0 N c13_26 s = regX (drawA E C B 74 r13_7 s) (fun s => gcM E0 [36, 37, 38, 39, 40, 41, 42, 43, 44, 45, 46, 47, 48, 49, 50, 51, 52, 53] (forget s.1 [36, 37, 38, 39, 40, 41, 42, 43, 44, 45, 46, 47, 48, 49, 50, 51, 52, 53], s.2)) := x_draw (ops := r13_7) (by rfl) (by rfl) s
theorem r13_7_l : r13_7.toList = [o13_7_0, o13_7_1, o13_7_2, o13_7_3, o13_7_4, o13_7_5, o13_7_6, o13_7_7, o13_7_8, o13_7_9, o13_7_10, o13_7_11, o13_7_12, o13_7_13, o13_7_14, o13_7_15, o13_7_16, o13_7_17, o13_7_18] := nrfl rfl
theorem r13_7_st : statOk r13_7 = true := by kernel_rfl
theorem r13_7_dr : drawA E C B 74 r13_7 s = if neat 74 s = true then drX r13_7 (runT E C B 74 r13_7 r13_7.toList 0 s) else none := draw_eq r13_7_st s
theorem r13_7_an (l : List (Nat × Tr)) : dynOk r13_7 l = (!writing l || dynPairs [[], [], [], [1, 2], [1, 2, 3], [], [], [5, 6], [5, 6, 7], [5, 6, 7, 8], [], [10], [5, 6, 7, 8, 9, 10, 11], [], [13], [5, 6, 7, 8, 9, 10, 11, 12, 13, 14], [1, 2, 3, 4, 5, 6, 7, 8, 9, 10, 11, 12, 13, 14, 15], [0, 1, 2, 3, 4, 5, 6, 7, 8, 9, 10, 11, 12, 13, 14, 15, 16], [0, 1, 2, 3, 4, 5, 6, 7, 8, 9, 10, 11, 12, 13, 14, 15, 16, 17]] (touching l)) := dynOk_eq (by kernel_rfl) l
theorem s13_7_0 : stepT E C B 74 r13_7 o13_7_0 (φ, H) = some ((fput φ 36 (fget φ 6), H), ⟨false, [], []⟩) := stT_go rfl (goT_mv rfl rfl)
theorem s13_7_1 : stepT E C B 74 r13_7 o13_7_1 (φ, H) = some ((fput φ 37 (fget φ 1), H), ⟨false, [], []⟩) := stT_go rfl (goT_mv rfl rfl)
theorem s13_7_2 : stepT E C B 74 r13_7 o13_7_2 (φ, H) = some ((fput φ 38 (fget φ 8), H), ⟨false, [], []⟩) := stT_go rfl (goT_mv rfl rfl)
theorem s13_7_3 : stepT E C B 74 r13_7 o13_7_3 (φ, H) = stpT (some 39) φ H (just (aIndexAddr E.T 36 (fget φ 37) (fget φ 38))) := stT_go rfl (goT_R rfl rfl)
theorem s13_7_4 : stepT E C B 74 r13_7 o13_7_4 (φ, H) = stpT (some 40) φ H (just (aLoad E.T 3 (fget φ 39))) := stT_go rfl (goT_R rfl rfl)
theorem s13_7_5 : stepT E C B 74 r13_7 o13_7_5 (φ, H) = some ((fput φ 41 (fget φ 0), H), ⟨false, [], []⟩) := stT_go rfl (goT_mv rfl rfl)
theorem s13_7_6 : stepT E C B 74 r13_7 o13_7_6 (φ, H) = some ((fput φ 42 (fget φ 8), H), ⟨false, [], []⟩) := stT_go rfl (goT_mv rfl rfl)
theorem s13_7_7 : stepT E C B 74 r13_7 o13_7_7 (φ, H) = stpT (some 43) φ H (just (aIndexAddr E.T 27 (fget φ 41) (fget φ 42))) := stT_go rfl (goT_R rfl rfl)
theorem s13_7_8 : stepT E C B 74 r13_7 o13_7_8 (φ, H) = stpT (some 44) φ H (just (aFieldAddr E.T 44 (fget φ 43) 1)) := stT_go rfl (goT_R rfl rfl)
theorem s13_7_9 : stepT E C B 74 r13_7 o13_7_9 (φ, H) = stpT (some 45) φ H (just (aLoad E.T 3 (fget φ 44))) := stT_go rfl (goT_R rfl rfl)
theorem s13_7_10 : stepT E C B 74 r13_7 o13_7_10 (φ, H) = stpT (some 46) φ H (just (aFieldAddr E.T 44 (fget φ 9) 1)) := stT_go rfl (goT_R rfl rfl)
theorem s13_7_11 : stepT E C B 74 r13_7 o13_7_11 (φ, H) = stpT (some 47) φ H (just (aLoad E.T 3 (fget φ 46))) := stT_go rfl (goT_R rfl rfl)
theorem s13_7_12 : stepT E C B 74 r13_7 o13_7_12 (φ, H) = stpT (some 48) φ H (just (aBin E.T .sub 3 (fget φ 45) (fget φ 47))) := stT_go rfl (goT_R rfl rfl)
theorem s13_7_13 : stepT E C B 74 r13_7 o13_7_13 (φ, H) = stpT (some 49) φ H (just (aFieldAddr E.T 44 (fget φ 9) 0)) := stT_go rfl (goT_R rfl rfl)
theorem s13_7_14 : stepT E C B 74 r13_7 o13_7_14 (φ, H) = stpT (some 50) φ H (just (aLoad E.T 3 (fget φ 49))) := stT_go rfl (goT_R rfl rfl)
theorem s13_7_15 : stepT E C B 74 r13_7 o13_7_15 (φ, H) = stpT (some 51) φ H (just (aBin E.T .sub 3 (fget φ 48) (fget φ 50))) := stT_go rfl (goT_R rfl rfl)
theorem s13_7_16 : stepT E C B 74 r13_7 o13_7_16 (φ, H) = stpT (some 52) φ H (just (aBin E.T .mul 3 (fget φ 40) (fget φ 51))) := stT_go rfl (goT_R rfl rfl)
theorem s13_7_17 : stepT E C B 74 r13_7 o13_7_17 (φ, H) = stpT (some 53) φ H (just (aBin E.T .add 3 (fget φ 36) (fget φ 52))) := stT_go rfl (goT_R rfl rfl)
theorem s13_7_18 : stepT E C B 74 r13_7 o13_7_18 (φ, H) = some ((fput φ 6 (fget φ 53), H), ⟨false, [], []⟩) := stT_go rfl (goT_mv rfl rfl)
noncomputable def c13_27 : Code := kR c13_25
noncomputable def r13_8 : Array Oper := kO c13_27
noncomputable def o13_8_0 : Oper := opN r13_8 0
noncomputable def o13_8_1 : Oper := opN r13_8 1
noncomputable def o13_8_2 : Oper := opN r13_8 2
noncomputable def o13_8_3 : Oper := opN r13_8 3
noncomputable def o13_8_4 : Oper := opN r13_8 4
noncomputable def o13_8_5 : Oper := opN r13_8 5
noncomputable def o13_8_6 : Oper := opN r13_8 6
noncomputable def o13_8_7 : Oper := opN r13_8 7
noncomputable def o13_8_8 : Oper := opN r13_8 8
noncomputable def o13_8_9 : Oper := opN r13_8 9
noncomputable def o13_8_10 : Oper := opN r13_8 10
noncomputable def o13_8_11 : Oper := opN r13_8 11
noncomputable def o13_8_12 : Oper := opN r13_8 12
noncomputable def o13_8_13 : Oper := opN r13_8 13
noncomputable def o13_8_14 : Oper := opN r13_8 14
noncomputable def o13_8_15 : Oper := opN r13_8 15
noncomputable def o13_8_16 : Oper := opN r13_8 16
noncomputable def o13_8_17 : Oper := opN r13_8 17
noncomputable def o13_8_18 : Oper := opN r13_8 18
theorem x13_27 : execA E C (fg 13) B 74 E0 N c13_27 s = regX (drawA E C B 74 r13_8 s) (fun s => gcM E0 [9, 54, 55, 56, 57, 58, 59, 60, 61, 62, 63, 64, 65, 66, 67, 68, 69, 70, 71] (forget s.1 [9, 54, 55, 56, 57, 58, 59, 60, 61, 62, 63, 64, 65, 66, 67, 68, 69, 70, 71], s.2)) := x_draw (ops := r13_8) (by rfl) (by rfl) s
theorem r13_8_l : r13_8.toList = [o13_8_0, o13_8_1, o13_8_2, o13_8_3, o13_8_4, o13_8_5, o13_8_6, o13_8_7, o13_8_8, o13_8_9, o13_8_10, o13_8_11, o13_8_12, o13_8_13, o13_8_14, o13_8_15, o13_8_16, o13_8_17, o13_8_18] := nrfl rfl
theorem r13_8_st : statOk r13_8 = true := by kernel_rfl
theorem r13_8_dr : drawA E C B 74 r13_8 s = if neat 74 s = true then drX r13_8 (runT E C B 74 r13_8 r13_8.toList 0 s) else none := draw_eq r13_8_st s
theorem r13_8_an (l : List (Nat × Tr)) : dynOk r13_8 l = (!writing l || dynPairs [[], [], [], [1, 2], [1, 2, 3], [], [5], [], [7], [5, 6, 7, 8], [], [], [10, 11], [10, 11, 12], [10, 11, 12, 13], [5, 6, 7, 8, 9, 10, 11, 12, 13, 14], [1, 2, 3, 4, 5, 6, 7, 8, 9, 10, 11, 12, 13, 14, 15], [0, 1, 2, 3, 4, 5, 6, 7, 8, 9, 10, 11, 12, 13, 14, 15, 16], [0, 1, 2, 3, 4, 5, 6, 7, 8, 9, 10, 11, 12, 13, 14, 15, 16, 17]] (touching l)) := dynOk_eq (by kernel_rfl) l
theorem s13_8_0 : stepT E C B 74 r13_8 o13_8_0 (φ, H) = some ((fput φ 54 (fget φ 7), H), ⟨false, [], []⟩) := stT_go rfl (goT_mv rfl rfl)
theorem s13_8_1 : stepT E C B 74 r13_8 o13_8_1 (φ, H) = some ((fput φ 55 (fget φ 1), H), ⟨false, [], []⟩) := stT_go rfl (goT_mv rfl rfl)
theorem s13_8_2 : stepT E C B 74 r13_8 o13_8_2 (φ, H) = some ((fput φ 56 (fget φ 8), H), ⟨false, [], []⟩) := stT_go rfl (goT_mv rfl rfl)
theorem s13_8_3 : stepT E C B 74 r13_8 o13_8_3 (φ, H) = stpT (some 57) φ H (just (aIndexAddr E.T 36 (fget φ 55) (fget φ 56))) := stT_go rfl (goT_R rfl rfl)
theorem s13_8_4 : stepT E C B 74 r13_8 o13_8_4 (φ, H) = stpT (some 58) φ H (just (aLoad E.T 3 (fget φ 57))) := stT_go rfl (goT_R rfl rfl)
theorem s13_8_5 : stepT E C B 74 r13_8 o13_8_5 (φ, H) = stpT (some 59) φ H (just (aFieldAddr E.T 44 (fget φ 9) 1)) := stT_go rfl (goT_R rfl rfl)
theorem s13_8_6 : stepT E C B 74 r13_8 o13_8_6 (φ, H) = stpT (some 60) φ H (just (aLoad E.T 3 (fget φ 59))) := stT_go rfl (goT_R rfl rfl)
theorem s13_8_7 : stepT E C B 74 r13_8 o13_8_7 (φ, H) = stpT (some 61) φ H (just (aFieldAddr E.T 44 (fget φ 9) 0)) := stT_go rfl (goT_R rfl rfl)
theorem s13_8_8 : stepT E C B 74 r13_8 o13_8_8 (φ, H) = stpT (some 62) φ H (just (aLoad E.T 3 (fget φ 61))) := stT_go rfl (goT_R rfl rfl)
theorem s13_8_9 : stepT E C B 74 r13_8 o13_8_9 (φ, H) = stpT (some 63) φ H (just (aBin E.T .sub 3 (fget φ 60) (fget φ 62))) := stT_go rfl (goT_R rfl rfl)
theorem s13_8_10 : stepT E C B 74 r13_8 o13_8_10 (φ, H) = some ((fput φ 64 (fget φ 0), H), ⟨false, [], []⟩) := stT_go rfl (goT_mv rfl rfl)
theorem s13_8_11 : stepT E C B 74 r13_8 o13_8_11 (φ, H) = some ((fput φ 65 (fget φ 8), H), ⟨false, [], []⟩) := stT_go rfl (goT_mv rfl rfl)
theorem s13_8_12 : stepT E C B 74 r13_8 o13_8_12 (φ, H) = stpT (some 66) φ H (just (aIndexAddr E.T 27 (fget φ 64) (fget φ 65))) := stT_go rfl (goT_R rfl rfl)
theorem s13_8_13 : stepT E C B 74 r13_8 o13_8_13 (φ, H) = stpT (some 67) φ H (just (aFieldAddr E.T 44 (fget φ 66) 1)) := stT_go rfl (goT_R rfl rfl)
theorem s13_8_14 : stepT E C B 74 r13_8 o13_8_14 (φ, H) = stpT (some 68) φ H (just (aLoad E.T 3 (fget φ 67))) := stT_go rfl (goT_R rfl rfl)
theorem s13_8_15 : stepT E C B 74 r13_8 o13_8_15 (φ, H) = stpT (some 69) φ H (just (aBin E.T .sub 3 (fget φ 63) (fget φ 68))) := stT_go rfl (goT_R rfl rfl)
theorem s13_8_16 : stepT E C B 74 r13_8 o13_8_16 (φ, H) = stpT (some 70) φ H (just (aBin E.T .mul 3 (fget φ 58) (fget φ 69))) := stT_go rfl (goT_R rfl rfl)
theorem s13_8_17 : stepT E C B 74 r13_8 o13_8_17 (φ, H) = stpT (some 71) φ H (just (aBin E.T .add 3 (fget φ 54) (fget φ 70))) := stT_go rfl (goT_R rfl rfl)
theorem s13_8_18 : stepT E C B 74 r13_8 o13_8_18 (φ, H) = some ((fput φ 7 (fget φ 71), H), ⟨false, [], []⟩) := stT_go rfl (goT_mv rfl rfl)
theorem x13_25 : execA E C (fg 13) B 74 E0 N c13_25 s = seqX (execA E C (fg 13) B 74 E0 N c13_26 s) (execA E C (fg 13) B 74 E0 N c13_27) := x_seq (by rfl) s
theorem x13_23 : execA E C (fg 13) B 74 E0 N c13_23 s = seqX (execA E C (fg 13) B 74 E0 N c13_24 s) (execA E C (fg 13) B 74 E0 N c13_25) := x_seq (by rfl) s
theorem x13_15 : execA E C (fg 13) B 74 E0 N c13_15 s = seqX (execA E C (fg 13) B 74 E0 N c13_16 s) (execA E C (fg 13) B 74 E0 N c13_23) := x_seq (by rfl) s
theorem x13_14 : execA E C (fg 13) B 74 E0 N c13_14 s = blockX 1 (fun s => (forget s.1 [], s.2)) (execA E C (fg 13) B 74 E0 N c13_15 s) := x_block (by rfl) (by rfl) s
noncomputable def c13_28 : Code := kR c13_13
noncomputable def r13_3 : Array Oper := kO c13_28
noncomputable def o13_3_0 : Oper := opN r13_3 0
noncomputable def o13_3_1 : Oper := opN r13_3 1
noncomputable def o13_3_2 : Oper := opN r13_3 2
theorem x13_28 : execA E C (fg 13) B 74 E0 N c13_28 s = regX (runA E C B 74 r13_3 r13_3.toList s) (fun s => gcM E0 [15, 16] (forget s.1 [15, 16], s.2)) := x_reg (ops := r13_3) (by rfl) (by rfl) s
theorem r13_3_l : r13_3.toList = [o13_3_0, o13_3_1, o13_3_2] := nrfl rfl
theorem s13_3_0 : stepA E C B 74 r13_3 o13_3_0 (φ, H) = some (fput φ 15 (fget φ 8), H) := nrfl rfl
theorem s13_3_1 : stepA E C B 74 r13_3 o13_3_1 (φ, H) = stp (some 16) φ H (just (aBin E.T .add 3 (fget φ 15) (.int .i64 1))) := nrfl rfl
theorem s13_3_2 : stepA E C B 74 r13_3 o13_3_2 (φ, H) = some (fput φ 8 (fget φ 16), H) := nrfl rfl
theorem x13_13 : execA E C (fg 13) B 74 E0 N c13_13 s = seqX (execA E C (fg 13) B 74 E0 N c13_14 s) (execA E C (fg 13) B 74 E0 N c13_28) := x_seq (by rfl) s
theorem x13_7 : execA E C (fg 13) B 74 E0 N c13_7 s = seqX (execA E C (fg 13) B 74 E0 N c13_8 s) (execA E C (fg 13) B 74 E0 N c13_13) := x_seq (by rfl) s
-- a loop of f13: x13_6; body c13_7; slots [8, 7, 6, 2, 1, 0]
theorem x13_6 : execA E C (fg 13) B 74 E0 N c13_6 s = iterA (execA E C (fg 13) B 74 E0 N c13_7) (headA E0) N s := x_loop (by rfl) s
theorem x13_5 : execA E C (fg 13) B 74 E0 N c13_5 s = blockX 0 (fun s => (forget s.1 [0, 1, 2, 8, 14], s.2)) (execA E C (fg 13) B 74 E0 N c13_6 s) := x_block (by rfl) (by rfl) s
theorem x13_3 : execA E C (fg 13) B 74 E0 N c13_3 s = seqX (execA E C (fg 13) B 74 E0 N c13_4 s) (execA E C (fg 13) B 74 E0 N c13_5) := x_seq (by rfl) s
noncomputable def c13_29 : Code := kR c13_2
noncomputable def c13_30 : Code := kL c13_29
noncomputable def r13_9 : Array Oper := kO c13_30
noncomputable def o13_9_0 : Oper := opN r13_9 0
noncomputable def o13_9_1 : Oper := opN r13_9 1
noncomputable def o13_9_2 : Oper := opN r13_9 2
noncomputable def o13_9_3 : Oper := opN r13_9 3
theorem x13_30 : execA E C (fg 13) B 74 E0 N c13_30 s = regX (runA E C B 74 r13_9 r13_9.toList s) (fun s => gcM E0 [72, 73] (forget s.1 [72, 73], s.2)) := x_reg (ops := r13_9) (by rfl) (by rfl) s
theorem r13_9_l : r13_9.toList = [o13_9_0, o13_9_1, o13_9_2, o13_9_3] := nrfl rfl
theorem s13_9_0 : stepA E C B 74 r13_9 o13_9_0 (φ, H) = some (fput φ 72 (fget φ 6), H) := nrfl rfl
theorem s13_9_1 : stepA E C B 74 r13_9 o13_9_1 (φ, H) = some (fput φ 73 (fget φ 7), H) := nrfl rfl
theorem s13_9_2 : stepA E C B 74 r13_9 o13_9_2 (φ, H) = some (fput φ 6 (fget φ 72), H) := nrfl rfl
theorem s13_9_3 : stepA E C B 74 r13_9 o13_9_3 (φ, H) = some (fput φ 7 (fget φ 73), H) := nrfl rfl
noncomputable def c13_31 : Code := kR c13_29
theorem x13_31 : execA E C (fg 13) B 74 E0 N c13_31 s = some (.ret, s) := x_ret (by rfl) s
theorem x13_29 : execA E C (fg 13) B 74 E0 N c13_29 s = seqX (execA E C (fg 13) B 74 E0 N c13_30 s) (execA E C (fg 13) B 74 E0 N c13_31) := x_seq (by rfl) s
theorem x13_2 : execA E C (fg 13) B 74 E0 N c13_2 s = seqX (execA E C (fg 13) B 74 E0 N c13_3 s) (execA E C (fg 13) B 74 E0 N c13_29) := x_seq (by rfl) s
theorem x13_0 : execA E C (fg 13) B 74 E0 N c13_0 s = seqX (execA E C (fg 13) B 74 E0 N c13_1 s) (execA E C (fg 13) B 74 E0 N c13_2) := x_seq (by rfl) s
theorem fi_13 : fInfo E 13 = some ⟨74, #[.tmp 6, .tmp 7], c13_0⟩ := nrfl rfl
theorem b_13 (args : List AV) : bodyA E C fg N 13 args H B = bodyX E [.tmp 6, .tmp 7] (execA E C (fg 13) B 74 H N c13_0 (frame0 args 0 [], H)) := bodyA_eq fi_13 args H
/-! ### f5: novaculite/novaculitelaw07.PropShown -/
noncomputable def c5_0 : Code := kBody Proofs.Try.f5
noncomputable def c5_1 : Code := kL c5_0
noncomputable def r5_0 : Array Oper := kO c5_1
noncomputable def o5_0_0 : Oper := opN r5_0 0
noncomputable def o5_0_1 : Oper := opN r5_0 1
noncomputable def o5_0_2 : Oper := opN r5_0 2
theorem x5_1 : execA E C (fg 5) B 249 E0 N c5_1 s = regX (runA E C B 249 r5_0 r5_0.toList s) (fun s => gcM E0 [0, 1, 10] (forget s.1 [0, 1, 10], s.2)) := x_reg (ops := r5_0) (by rfl) (by rfl) s
theorem r5_0_l : r5_0.toList = [o5_0_0, o5_0_1, o5_0_2] := nrfl rfl
theorem s5_0_0 : stepA E C B 249 r5_0 o5_0_0 (φ, H) = stp (some 5) φ H (opBox (B + 5) (acells (fget φ 0))) := nrfl rfl
theorem s5_0_1 : stepA E C B 249 r5_0 o5_0_1 (φ, H) = stp (some 6) φ H (opBox (B + 6) (acells (fget φ 1))) := nrfl rfl
theorem s5_0_2 : stepA E C B 249 r5_0 o5_0_2 (φ, H) = some (fput φ 10 (.bool false), H) := nrfl rfl
noncomputable def c5_2 : Code := kR c5_0
noncomputable def c5_3 : Code := kL c5_2
noncomputable def r5_1 : Array Oper := kO c5_3
noncomputable def o5_1_0 : Oper := opN r5_1 0
noncomputable def o5_1_1 : Oper := opN r5_1 1
noncomputable def o5_1_2 : Oper := opN r5_1 2
theorem x5_3 : execA E C (fg 5) B 249 E0 N c5_3 s = regX (runA E C B 249 r5_1 r5_1.toList s) (fun s => gcM E0 [5, 31, 32] (forget s.1 [5, 31, 32], s.2)) := x_reg (ops := r5_1) (by rfl) (by rfl) s
theorem r5_1_l : r5_1.toList = [o5_1_0, o5_1_1, o5_1_2] := nrfl rfl
theorem s5_1_0 : stepA E C B 249 r5_1 o5_1_0 (φ, H) = stp (some 31) φ H (just (aLoad E.T 25 (fget φ 5))) := nrfl rfl
theorem s5_1_1 : stepA E C B 249 r5_1 o5_1_1 (φ, H) = stp (some 32) φ H (aCall C (fun j => B + j * 249 + 32) true 7 [(fget φ 31), (.int .i64 5)]) := nrfl rfl
theorem s5_1_2 : stepA E C B 249 r5_1 o5_1_2 (φ, H) = some (fput φ 11 (fget φ 32), H) := nrfl rfl
noncomputable def c5_4 : Code := kR c5_2
noncomputable def c5_5 : Code := kL c5_4
noncomputable def r5_2 : Array Oper := kO c5_5
noncomputable def o5_2_0 : Oper := opN r5_2 0
theorem x5_5 : execA E C (fg 5) B 249 E0 N c5_5 s = regX (runA E C B 249 r5_2 r5_2.toList s) (fun s => gcM E0 [] (forget s.1 [], s.2)) := x_reg (ops := r5_2) (by rfl) (by rfl) s
theorem r5_2_l : r5_2.toList = [o5_2_0] := nrfl rfl
theorem s5_2_0 : stepA E C B 249 r5_2 o5_2_0 (φ, H) = some (fput φ 12 (.nilsl), H) := nrfl rfl
noncomputable def c5_6 : Code := kR c5_4
noncomputable def c5_7 : Code := kL c5_6
noncomputable def r5_3 : Array Oper := kO c5_7
noncomputable def o5_3_0 : Oper := opN r5_3 0
theorem x5_7 : execA E C (fg 5) B 249 E0 N c5_7 s = regX (runA E C B 249 r5_3 r5_3.toList s) (fun s => gcM E0 [] (forget s.1 [], s.2)) := x_reg (ops := r5_3) (by rfl) (by rfl) s
theorem r5_3_l : r5_3.toList = [o5_3_0] := nrfl rfl
theorem s5_3_0 : stepA E C B 249 r5_3 o5_3_0 (φ, H) = some (fput φ 13 (.int .i64 0), H) := nrfl rfl
noncomputable def c5_8 : Code := kR c5_6
noncomputable def c5_9 : Code := kL c5_8
noncomputable def c5_10 : Code := kL c5_9
noncomputable def r5_4 : Array Oper := kO c5_10
noncomputable def o5_4_0 : Oper := opN r5_4 0
noncomputable def o5_4_1 : Oper := opN r5_4 1
noncomputable def o5_4_2 : Oper := opN r5_4 2
theorem x5_10 : execA E C (fg 5) B 249 E0 N c5_10 s = regX (runA E C B 249 r5_4 r5_4.toList s) (fun s => gcM E0 [] (forget s.1 [], s.2)) := x_reg (ops := r5_4) (by rfl) (by rfl) s
theorem r5_4_l : r5_4.toList = [o5_4_0, o5_4_1, o5_4_2] := nrfl rfl
theorem s5_4_0 : stepA E C B 249 r5_4 o5_4_0 (φ, H) = some (fput φ 33 (fget φ 11), H) := nrfl rfl
theorem s5_4_1 : stepA E C B 249 r5_4 o5_4_1 (φ, H) = stp (some 34) φ H (aBuiltin E.T (B + 34) .len #[27] [(fget φ 33)]) := nrfl rfl
theorem s5_4_2 : stepA E C B 249 r5_4 o5_4_2 (φ, H) = some (fput φ 35 (.int .i64 0), H) := nrfl rfl
noncomputable def c5_11 : Code := kR c5_9
noncomputable def c5_12 : Code := kB c5_11
noncomputable def c5_13 : Code := kB c5_12
noncomputable def c5_14 : Code := kL c5_13
noncomputable def r5_5 : Array Oper := kO c5_14
noncomputable def o5_5_0 : Oper := opN r5_5 0
theorem x5_14 : execA E C (fg 5) B 249 E0 N c5_14 s = regX (runA E C B 249 r5_5 r5_5.toList s) (fun s => gcM E0 [] (forget s.1 [], s.2)) := x_reg (ops := r5_5) (by rfl) (by rfl) s
theorem r5_5_l : r5_5.toList = [o5_5_0] := nrfl rfl
theorem s5_5_0 : stepA E C B 249 r5_5 o5_5_0 (φ, H) = stp (some 36) φ H (just (aBin E.T .lss 3 (fget φ 35) (fget φ 34))) := nrfl rfl
noncomputable def c5_15 : Code := kR c5_13
noncomputable def c5_16 : Code := kL c5_15
noncomputable def c5_17 : Code := kT c5_16
theorem x5_17 : execA E C (fg 5) B 249 E0 N c5_17 s = some (.normal, s) := x_skip (by rfl) s
noncomputable def c5_18 : Code := kE c5_16
theorem x5_18 : execA E C (fg 5) B 249 E0 N c5_18 s = some (.exit 0, s) := x_exit (by rfl) s
theorem x5_16 : execA E C (fg 5) B 249 E0 N c5_16 (φ, H) = condX (fget φ 36) (execA E C (fg 5) B 249 E0 N c5_17 (φ, H)) (execA E C (fg 5) B 249 E0 N c5_18 (φ, H)) := x_cond (by rfl) _
noncomputable def c5_19 : Code := kR c5_15
noncomputable def c5_20 : Code := kL c5_19
noncomputable def c5_21 : Code := kB c5_20
noncomputable def c5_22 : Code := kL c5_21
noncomputable def r5_6 : Array Oper := kO c5_22
noncomputable def o5_6_0 : Oper := opN r5_6 0
noncomputable def o5_6_1 : Oper := opN r5_6 1
noncomputable def o5_6_2 : Oper := opN r5_6 2
noncomputable def o5_6_3 : Oper := opN r5_6 3
noncomputable def o5_6_4 : Oper := opN r5_6 4
noncomputable def o5_6_5 : Oper := opN r5_6 5
theorem x5_22 : execA E C (fg 5) B 249 E0 N c5_22 s = regX (runA E C B 249 r5_6 r5_6.toList s) (fun s => gcM E0 [36, 37, 38, 39] (forget s.1 [36, 37, 38, 39], s.2)) := x_reg (ops := r5_6) (by rfl) (by rfl) s
theorem r5_6_l : r5_6.toList = [o5_6_0, o5_6_1, o5_6_2, o5_6_3, o5_6_4, o5_6_5] := nrfl rfl
theorem s5_6_0 : stepA E C B 249 r5_6 o5_6_0 (φ, H) = some (fput φ 37 (fget φ 35), H) := nrfl rfl
theorem s5_6_1 : stepA E C B 249 r5_6 o5_6_1 (φ, H) = stp (some 38) φ H (just (aIndexAddr E.T 27 (fget φ 33) (fget φ 35))) := nrfl rfl
theorem s5_6_2 : stepA E C B 249 r5_6 o5_6_2 (φ, H) = stp (some 39) φ H (just (aLoad E.T 44 (fget φ 38))) := nrfl rfl
theorem s5_6_3 : stepA E C B 249 r5_6 o5_6_3 (φ, H) = stp (some 15) φ H (opBox (B + 15) (zeroCells E.T 44)) := nrfl rfl
theorem s5_6_4 : stepA E C B 249 r5_6 o5_6_4 (φ, H) = some (fput φ 14 (fget φ 37), H) := nrfl rfl
theorem s5_6_5 : stepA E C B 249 r5_6 o5_6_5 (φ, H) = stp none φ H (opStore E.T 44 (fget φ 15) (fget φ 39)) := nrfl rfl
noncomputable def c5_23 : Code := kR c5_21
noncomputable def c5_24 : Code := kL c5_23
noncomputable def r5_7 : Array Oper := kO c5_24
noncomputable def o5_7_0 : Oper := opN r5_7 0
noncomputable def o5_7_1 : Oper := opN r5_7 1
noncomputable def o5_7_2 : Oper := opN r5_7 2
noncomputable def o5_7_3 : Oper := opN r5_7 3
noncomputable def o5_7_4 : Oper := opN r5_7 4
noncomputable def o5_7_5 : Oper := opN r5_7 5
noncomputable def o5_7_6 : Oper := opN r5_7 6
noncomputable def o5_7_7 : Oper := opN r5_7 7
noncomputable def o5_7_8 : Oper := opN r5_7 8
noncomputable def o5_7_9 : Oper := opN r5_7 9
noncomputable def o5_7_10 : Oper := opN r5_7 10
noncomputable def o5_7_11 : Oper := opN r5_7 11
noncomputable def o5_7_12 : Oper := opN r5_7 12
noncomputable def o5_7_13 : Oper := opN r5_7 13
noncomputable def o5_7_14 : Oper := opN r5_7 14
theorem x5_24 : execA E C (fg 5) B 249 E0 N c5_24 s = regX (drawA E C B 249 r5_7 s) (fun s => gcM E0 [40, 41, 42, 43, 44, 45, 46, 47, 48, 49, 50, 51, 52, 53] (forget s.1 [40, 41, 42, 43, 44, 45, 46, 47, 48, 49, 50, 51, 52, 53], s.2)) := x_draw (ops := r5_7) (by rfl) (by rfl) s
theorem r5_7_l : r5_7.toList = [o5_7_0, o5_7_1, o5_7_2, o5_7_3, o5_7_4, o5_7_5, o5_7_6, o5_7_7, o5_7_8, o5_7_9, o5_7_10, o5_7_11, o5_7_12, o5_7_13, o5_7_14] := nrfl rfl
theorem r5_7_st : statOk r5_7 = true := by kernel_rfl
theorem r5_7_dr : drawA E C B 249 r5_7 s = if neat 249 s = true then drX r5_7 (runT E C B 249 r5_7 r5_7.toList 0 s) else none := draw_eq r5_7_st s
theorem r5_7_an (l : List (Nat × Tr)) : dynOk r5_7 l = (!writing l || dynPairs [[], [0], [], [2], [2, 3], [2, 3, 4], [], [6], [], [8], [6, 7, 8, 9], [6, 7, 8, 9, 10], [2, 3, 4, 5, 6, 7, 8, 9, 10, 11], [0, 1, 2, 3, 4, 5, 6, 7, 8, 9, 10, 11, 12], [0, 1, 2, 3, 4, 5, 6, 7, 8, 9, 10, 11, 12, 13]] (touching l)) := dynOk_eq (by kernel_rfl) l
theorem s5_7_0 : stepT E C B 249 r5_7 o5_7_0 (φ, H) = stpT (some 40) φ H (just (aFieldAddr E.T 44 (fget φ 15) 2)) := stT_go rfl (goT_R rfl rfl)
theorem s5_7_1 : stepT E C B 249 r5_7 o5_7_1 (φ, H) = stpT (some 41) φ H (just (aLoad E.T 3 (fget φ 40))) := stT_go rfl (goT_R rfl rfl)
theorem s5_7_2 : stepT E C B 249 r5_7 o5_7_2 (φ, H) = some ((fput φ 42 (fget φ 14), H), ⟨false, [], []⟩) := stT_go rfl (goT_mv rfl rfl)
theorem s5_7_3 : stepT E C B 249 r5_7 o5_7_3 (φ, H) = stpT (some 43) φ H (just (aIndexAddr E.T 26 (fget φ 6) (fget φ 42))) := stT_go rfl (goT_R rfl rfl)
theorem s5_7_4 : stepT E C B 249 r5_7 o5_7_4 (φ, H) = stpT (some 44) φ H (just (aLoad E.T 5 (fget φ 43))) := stT_go rfl (goT_R rfl rfl)
theorem s5_7_5 : stepT E C B 249 r5_7 o5_7_5 (φ, H) = stpT (some 45) φ H (justO (aConv E.T 5 3 (fget φ 44))) := stT_go rfl (goT_R rfl rfl)
theorem s5_7_6 : stepT E C B 249 r5_7 o5_7_6 (φ, H) = stpT (some 46) φ H (just (aFieldAddr E.T 44 (fget φ 15) 3)) := stT_go rfl (goT_R rfl rfl)
theorem s5_7_7 : stepT E C B 249 r5_7 o5_7_7 (φ, H) = stpT (some 47) φ H (just (aLoad E.T 3 (fget φ 46))) := stT_go rfl (goT_R rfl rfl)
theorem s5_7_8 : stepT E C B 249 r5_7 o5_7_8 (φ, H) = stpT (some 48) φ H (just (aFieldAddr E.T 44 (fget φ 15) 2)) := stT_go rfl (goT_R rfl rfl)
theorem s5_7_9 : stepT E C B 249 r5_7 o5_7_9 (φ, H) = stpT (some 49) φ H (just (aLoad E.T 3 (fget φ 48))) := stT_go rfl (goT_R rfl rfl)
theorem s5_7_10 : stepT E C B 249 r5_7 o5_7_10 (φ, H) = stpT (some 50) φ H (just (aBin E.T .sub 3 (fget φ 47) (fget φ 49))) := stT_go rfl (goT_R rfl rfl)
theorem s5_7_11 : stepT E C B 249 r5_7 o5_7_11 (φ, H) = stpT (some 51) φ H (just (aBin E.T .add 3 (fget φ 50) (.int .i64 1))) := stT_go rfl (goT_R rfl rfl)
theorem s5_7_12 : stepT E C B 249 r5_7 o5_7_12 (φ, H) = stpT (some 52) φ H (just (aBin E.T .rem 3 (fget φ 45) (fget φ 51))) := stT_go rfl (goT_R rfl rfl)
theorem s5_7_13 : stepT E C B 249 r5_7 o5_7_13 (φ, H) = stpT (some 53) φ H (just (aBin E.T .add 3 (fget φ 41) (fget φ 52))) := stT_go rfl (goT_R rfl rfl)
theorem s5_7_14 : stepT E C B 249 r5_7 o5_7_14 (φ, H) = some ((fput φ 16 (fget φ 53), H), ⟨false, [], []⟩) := stT_go rfl (goT_mv rfl rfl)
noncomputable def c5_25 : Code := kR c5_23
noncomputable def c5_26 : Code := kL c5_25
noncomputable def c5_27 : Code := kL c5_26
noncomputable def r5_8 : Array Oper := kO c5_27
noncomputable def o5_8_0 : Oper := opN r5_8 0
noncomputable def o5_8_1 : Oper := opN r5_8 1
noncomputable def o5_8_2 : Oper := opN r5_8 2
noncomputable def o5_8_3 : Oper := opN r5_8 3
theorem x5_27 : execA E C (fg 5) B 249 E0 N c5_27 s = regX (runA E C B 249 r5_8 r5_8.toList s) (fun s => gcM E0 [54, 55, 56] (forget s.1 [54, 55, 56], s.2)) := x_reg (ops := r5_8) (by rfl) (by rfl) s
theorem r5_8_l : r5_8.toList = [o5_8_0, o5_8_1, o5_8_2, o5_8_3] := nrfl rfl
theorem s5_8_0 : stepA E C B 249 r5_8 o5_8_0 (φ, H) = some (fput φ 54 (fget φ 14), H) := nrfl rfl
theorem s5_8_1 : stepA E C B 249 r5_8 o5_8_1 (φ, H) = stp (some 55) φ H (just (aIndexAddr E.T 26 (fget φ 6) (fget φ 54))) := nrfl rfl
theorem s5_8_2 : stepA E C B 249 r5_8 o5_8_2 (φ, H) = stp (some 56) φ H (just (aLoad E.T 5 (fget φ 55))) := nrfl rfl
theorem s5_8_3 : stepA E C B 249 r5_8 o5_8_3 (φ, H) = stp (some 57) φ H (just (aBin E.T .gtr 5 (fget φ 56) (.int .u8 250))) := nrfl rfl
noncomputable def c5_28 : Code := kR c5_26
noncomputable def c5_29 : Code := kT c5_28
noncomputable def r5_9 : Array Oper := kO c5_29
noncomputable def o5_9_0 : Oper := opN r5_9 0
noncomputable def o5_9_1 : Oper := opN r5_9 1
noncomputable def o5_9_2 : Oper := opN r5_9 2
noncomputable def o5_9_3 : Oper := opN r5_9 3
noncomputable def o5_9_4 : Oper := opN r5_9 4
noncomputable def o5_9_5 : Oper := opN r5_9 5
noncomputable def o5_9_6 : Oper := opN r5_9 6
noncomputable def o5_9_7 : Oper := opN r5_9 7
noncomputable def o5_9_8 : Oper := opN r5_9 8
noncomputable def o5_9_9 : Oper := opN r5_9 9
noncomputable def o5_9_10 : Oper := opN r5_9 10
noncomputable def o5_9_11 : Oper := opN r5_9 11
noncomputable def o5_9_12 : Oper := opN r5_9 12
theorem x5_29 : execA E C (fg 5) B 249 E0 N c5_29 s = regX (drawA E C B 249 r5_9 s) (fun s => gcM E0 [14, 57, 58, 59, 60, 61, 62, 63, 64, 65, 66, 67, 68, 69] (forget s.1 [14, 57, 58, 59, 60, 61, 62, 63, 64, 65, 66, 67, 68, 69], s.2)) := x_draw (ops := r5_9) (by rfl) (by rfl) s
theorem r5_9_l : r5_9.toList = [o5_9_0, o5_9_1, o5_9_2, o5_9_3, o5_9_4, o5_9_5, o5_9_6, o5_9_7, o5_9_8, o5_9_9, o5_9_10, o5_9_11, o5_9_12] := nrfl rfl
theorem r5_9_st : statOk r5_9 = true := by kernel_rfl
theorem r5_9_dr : drawA E C B 249 r5_9 s = if neat 249 s = true then drX r5_9 (runT E C B 249 r5_9 r5_9.toList 0 s) else none := draw_eq r5_9_st s
theorem r5_9_an (l : List (Nat × Tr)) : dynOk r5_9 l = (!writing l || dynPairs [[], [0], [0, 1], [0, 1, 2], [0, 1, 2, 3], [], [5], [5, 6], [5, 6, 7], [5, 6, 7, 8], [5, 6, 7, 8, 9], [0, 1, 2, 3, 4, 5, 6, 7, 8, 9, 10], [0, 1, 2, 3, 4, 5, 6, 7, 8, 9, 10, 11]] (touching l)) := dynOk_eq (by kernel_rfl) l
theorem s5_9_0 : stepT E C B 249 r5_9 o5_9_0 (φ, H) = some ((fput φ 58 (fget φ 14), H), ⟨false, [], []⟩) := stT_go rfl (goT_mv rfl rfl)
theorem s5_9_1 : stepT E C B 249 r5_9 o5_9_1 (φ, H) = stpT (some 59) φ H (just (aIndexAddr E.T 26 (fget φ 6) (fget φ 58))) := stT_go rfl (goT_R rfl rfl)
theorem s5_9_2 : stepT E C B 249 r5_9 o5_9_2 (φ, H) = stpT (some 60) φ H (just (aLoad E.T 5 (fget φ 59))) := stT_go rfl (goT_R rfl rfl)
theorem s5_9_3 : stepT E C B 249 r5_9 o5_9_3 (φ, H) = stpT (some 61) φ H (justO (aConv E.T 5 3 (fget φ 60))) := stT_go rfl (goT_R rfl rfl)
theorem s5_9_4 : stepT E C B 249 r5_9 o5_9_4 (φ, H) = stpT (some 62) φ H (just (aBin E.T .sub 3 (fget φ 61) (.int .i64 250))) := stT_go rfl (goT_R rfl rfl)
theorem s5_9_5 : stepT E C B 249 r5_9 o5_9_5 (φ, H) = some ((fput φ 63 (fget φ 14), H), ⟨false, [], []⟩) := stT_go rfl (goT_mv rfl rfl)
theorem s5_9_6 : stepT E C B 249 r5_9 o5_9_6 (φ, H) = stpT (some 64) φ H (just (aIndexAddr E.T 26 (fget φ 6) (fget φ 63))) := stT_go rfl (goT_R rfl rfl)
theorem s5_9_7 : stepT E C B 249 r5_9 o5_9_7 (φ, H) = stpT (some 65) φ H (just (aLoad E.T 5 (fget φ 64))) := stT_go rfl (goT_R rfl rfl)
theorem s5_9_8 : stepT E C B 249 r5_9 o5_9_8 (φ, H) = stpT (some 66) φ H (justO (aConv E.T 5 3 (fget φ 65))) := stT_go rfl (goT_R rfl rfl)
theorem s5_9_9 : stepT E C B 249 r5_9 o5_9_9 (φ, H) = stpT (some 67) φ H (just (aBin E.T .mul 3 (.int .i64 4) (fget φ 66))) := stT_go rfl (goT_R rfl rfl)
theorem s5_9_10 : stepT E C B 249 r5_9 o5_9_10 (φ, H) = stpT (some 68) φ H (just (aBin E.T .rem 3 (fget φ 67) (.int .i64 8))) := stT_go rfl (goT_R rfl rfl)
theorem s5_9_11 : stepT E C B 249 r5_9 o5_9_11 (φ, H) = stpT (some 69) φ H (just (aBin E.T .add 3 (fget φ 62) (fget φ 68))) := stT_go rfl (goT_R rfl rfl)
theorem s5_9_12 : stepT E C B 249 r5_9 o5_9_12 (φ, H) = some ((fput φ 16 (fget φ 69), H), ⟨false, [], []⟩) := stT_go rfl (goT_mv rfl rfl)
noncomputable def c5_30 : Code := kE c5_28
theorem x5_30 : execA E C (fg 5) B 249 E0 N c5_30 s = some (.normal, s) := x_skip (by rfl) s
theorem x5_28 : execA E C (fg 5) B 249 E0 N c5_28 (φ, H) = condX (fget φ 57) (execA E C (fg 5) B 249 E0 N c5_29 (φ, H)) (execA E C (fg 5) B 249 E0 N c5_30 (φ, H)) := x_cond (by rfl) _
theorem x5_26 : execA E C (fg 5) B 249 E0 N c5_26 s = seqX (execA E C (fg 5) B 249 E0 N c5_27 s) (execA E C (fg 5) B 249 E0 N c5_28) := x_seq (by rfl) s
noncomputable def c5_31 : Code := kR c5_25
noncomputable def c5_32 : Code := kL c5_31
noncomputable def c5_33 : Code := kL c5_32
noncomputable def r5_10 : Array Oper := kO c5_33
noncomputable def o5_10_0 : Oper := opN r5_10 0
noncomputable def o5_10_1 : Oper := opN r5_10 1
noncomputable def o5_10_2 : Oper := opN r5_10 2
noncomputable def o5_10_3 : Oper := opN r5_10 3
noncomputable def o5_10_4 : Oper := opN r5_10 4
noncomputable def o5_10_5 : Oper := opN r5_10 5
noncomputable def o5_10_6 : Oper := opN r5_10 6
noncomputable def o5_10_7 : Oper := opN r5_10 7
noncomputable def o5_10_8 : Oper := opN r5_10 8
noncomputable def o5_10_9 : Oper := opN r5_10 9
noncomputable def o5_10_10 : Oper := opN r5_10 10
noncomputable def o5_10_11 : Oper := opN r5_10 11
noncomputable def o5_10_12 : Oper := opN r5_10 12
noncomputable def o5_10_13 : Oper := opN r5_10 13
theorem x5_33 : execA E C (fg 5) B 249 E0 N c5_33 s = regX (runA E C B 249 r5_10 r5_10.toList s) (fun s => gcM E0 [14, 15, 57, 70, 71, 72, 73, 74, 75, 76, 77, 78, 79, 80, 81, 82] (forget s.1 [14, 15, 57, 70, 71, 72, 73, 74, 75, 76, 77, 78, 79, 80, 81, 82], s.2)) := x_reg (ops := r5_10) (by rfl) (by rfl) s
theorem r5_10_l : r5_10.toList = [o5_10_0, o5_10_1, o5_10_2, o5_10_3, o5_10_4, o5_10_5, o5_10_6, o5_10_7, o5_10_8, o5_10_9, o5_10_10, o5_10_11, o5_10_12, o5_10_13] := nrfl rfl
theorem s5_10_0 : stepA E C B 249 r5_10 o5_10_0 (φ, H) = some (fput φ 70 (fget φ 13), H) := nrfl rfl
theorem s5_10_1 : stepA E C B 249 r5_10 o5_10_1 (φ, H) = stp (some 71) φ H (just (aBin E.T .eql 30 (fget φ 70) (.int .i64 0))) := nrfl rfl
theorem s5_10_2 : stepA E C B 249 r5_10 o5_10_2 (φ, H) = some (fput φ 72 (fget φ 71), H) := nrfl rfl
theorem s5_10_3 : stepA E C B 249 r5_10 o5_10_3 (φ, H) = gd φ 72 true (fun φ => some (fput φ 73 (.tup []), H)) (fun φ => some (fput φ 73 (fget φ 16), H)) := s_gd (j := 2) (oj := o5_10_2) rfl rfl rfl (fun _ => rfl) (fun _ => rfl)
theorem s5_10_4 : stepA E C B 249 r5_10 o5_10_4 (φ, H) = gd φ 72 true (fun φ => some (fput φ 74 (.tup []), H)) (fun φ => stp (some 74) φ H (just (aFieldAddr E.T 44 (fget φ 15) 2))) := s_gd (j := 2) (oj := o5_10_2) rfl rfl rfl (fun _ => rfl) (fun _ => rfl)
theorem s5_10_5 : stepA E C B 249 r5_10 o5_10_5 (φ, H) = gd φ 72 true (fun φ => some (fput φ 75 (.tup []), H)) (fun φ => stp (some 75) φ H (just (aLoad E.T 3 (fget φ 74)))) := s_gd (j := 2) (oj := o5_10_2) rfl rfl rfl (fun _ => rfl) (fun _ => rfl)
theorem s5_10_6 : stepA E C B 249 r5_10 o5_10_6 (φ, H) = gd φ 72 true (fun φ => some (fput φ 76 (.tup []), H)) (fun φ => stp (some 76) φ H (just (aBin E.T .lss 3 (fget φ 73) (fget φ 75)))) := s_gd (j := 2) (oj := o5_10_2) rfl rfl rfl (fun _ => rfl) (fun _ => rfl)
theorem s5_10_7 : stepA E C B 249 r5_10 o5_10_7 (φ, H) = gd φ 72 true (fun φ => some (fput φ 77 (.tup []), H)) (fun φ => some (fput φ 77 (fget φ 76), H)) := s_gd (j := 2) (oj := o5_10_2) rfl rfl rfl (fun _ => rfl) (fun _ => rfl)
theorem s5_10_8 : stepA E C B 249 r5_10 o5_10_8 (φ, H) = gd φ 77 false (fun φ => some (fput φ 78 (.tup []), H)) (fun φ => some (fput φ 78 (fget φ 16), H)) := s_gd (j := 7) (oj := o5_10_7) rfl rfl rfl (fun _ => rfl) (fun _ => rfl)
theorem s5_10_9 : stepA E C B 249 r5_10 o5_10_9 (φ, H) = gd φ 77 false (fun φ => some (fput φ 79 (.tup []), H)) (fun φ => stp (some 79) φ H (just (aFieldAddr E.T 44 (fget φ 15) 3))) := s_gd (j := 7) (oj := o5_10_7) rfl rfl rfl (fun _ => rfl) (fun _ => rfl)
theorem s5_10_10 : stepA E C B 249 r5_10 o5_10_10 (φ, H) = gd φ 77 false (fun φ => some (fput φ 80 (.tup []), H)) (fun φ => stp (some 80) φ H (just (aLoad E.T 3 (fget φ 79)))) := s_gd (j := 7) (oj := o5_10_7) rfl rfl rfl (fun _ => rfl) (fun _ => rfl)
theorem s5_10_11 : stepA E C B 249 r5_10 o5_10_11 (φ, H) = gd φ 77 false (fun φ => some (fput φ 81 (.tup []), H)) (fun φ => stp (some 81) φ H (just (aBin E.T .gtr 3 (fget φ 78) (fget φ 80)))) := s_gd (j := 7) (oj := o5_10_7) rfl rfl rfl (fun _ => rfl) (fun _ => rfl)
theorem s5_10_12 : stepA E C B 249 r5_10 o5_10_12 (φ, H) = gd φ 72 true (fun φ => some (fput φ 82 (.tup []), H)) (fun φ => stp (some 82) φ H (opPick (fget φ 77) (.bool true) (fget φ 81))) := s_gd (j := 2) (oj := o5_10_2) rfl rfl rfl (fun _ => rfl) (fun _ => rfl)
theorem s5_10_13 : stepA E C B 249 r5_10 o5_10_13 (φ, H) = stp (some 83) φ H (opPick (fget φ 72) (fget φ 82) (.bool false)) := nrfl rfl
noncomputable def c5_34 : Code := kR c5_32
noncomputable def c5_35 : Code := kT c5_34
noncomputable def r5_11 : Array Oper := kO c5_35
noncomputable def o5_11_0 : Oper := opN r5_11 0
theorem x5_35 : execA E C (fg 5) B 249 E0 N c5_35 s = regX (runA E C B 249 r5_11 r5_11.toList s) (fun s => gcM E0 [83] (forget s.1 [83], s.2)) := x_reg (ops := r5_11) (by rfl) (by rfl) s
theorem r5_11_l : r5_11.toList = [o5_11_0] := nrfl rfl
theorem s5_11_0 : stepA E C B 249 r5_11 o5_11_0 (φ, H) = some (fput φ 13 (.int .i64 1), H) := nrfl rfl
noncomputable def c5_36 : Code := kE c5_34
theorem x5_36 : execA E C (fg 5) B 249 E0 N c5_36 s = some (.normal, s) := x_skip (by rfl) s
theorem x5_34 : execA E C (fg 5) B 249 E0 N c5_34 (φ, H) = condX (fget φ 83) (execA E C (fg 5) B 249 E0 N c5_35 (φ, H)) (execA E C (fg 5) B 249 E0 N c5_36 (φ, H)) := x_cond (by rfl) _
theorem x5_32 : execA E C (fg 5) B 249 E0 N c5_32 s = seqX (execA E C (fg 5) B 249 E0 N c5_33 s) (execA E C (fg 5) B 249 E0 N c5_34) := x_seq (by rfl) s
noncomputable def c5_37 : Code := kR c5_31
noncomputable def r5_12 : Array Oper := kO c5_37
noncomputable def o5_12_0 : Oper := opN r5_12 0
noncomputable def o5_12_1 : Oper := opN r5_12 1
noncomputable def o5_12_2 : Oper := opN r5_12 2
noncomputable def o5_12_3 : Oper := opN r5_12 3
noncomputable def o5_12_4 : Oper := opN r5_12 4
theorem x5_37 : execA E C (fg 5) B 249 E0 N c5_37 s = regX (runA E C B 249 r5_12 r5_12.toList s) (fun s => gcM E0 [16, 83, 84, 85, 86, 87] (forget s.1 [16, 83, 84, 85, 86, 87], s.2)) := x_reg (ops := r5_12) (by rfl) (by rfl) s
theorem r5_12_l : r5_12.toList = [o5_12_0, o5_12_1, o5_12_2, o5_12_3, o5_12_4] := nrfl rfl
theorem s5_12_0 : stepA E C B 249 r5_12 o5_12_0 (φ, H) = some (fput φ 84 (fget φ 12), H) := nrfl rfl
theorem s5_12_1 : stepA E C B 249 r5_12 o5_12_1 (φ, H) = some (fput φ 85 (fget φ 16), H) := nrfl rfl
theorem s5_12_2 : stepA E C B 249 r5_12 o5_12_2 (φ, H) = stp (some 86) φ H (aBuildSlice E.T (B + 86) 36 1 (evO E φ) [(0, Operand.tmp 85)]) := nrfl rfl
theorem s5_12_3 : stepA E C B 249 r5_12 o5_12_3 (φ, H) = stp (some 87) φ H (aBuiltin E.T (B + 87) .append #[36, 36] [(fget φ 84), (fget φ 86)]) := nrfl rfl
theorem s5_12_4 : stepA E C B 249 r5_12 o5_12_4 (φ, H) = some (fput φ 12 (fget φ 87), H) := nrfl rfl
theorem x5_31 : execA E C (fg 5) B 249 E0 N c5_31 s = seqX (execA E C (fg 5) B 249 E0 N c5_32 s) (execA E C (fg 5) B 249 E0 N c5_37) := x_seq (by rfl) s
theorem x5_25 : execA E C (fg 5) B 249 E0 N c5_25 s = seqX (execA E C (fg 5) B 249 E0 N c5_26 s) (execA E C (fg 5) B 249 E0 N c5_31) := x_seq (by rfl) s
theorem x5_23 : execA E C (fg 5) B 249 E0 N c5_23 s = seqX (execA E C (fg 5) B 249 E0 N c5_24 s) (execA E C (fg 5) B 249 E0 N c5_25) := x_seq (by rfl) s
theorem x5_21 : execA E C (fg 5) B 249 E0 N c5_21 s = seqX (execA E C (fg 5) B 249 E0 N c5_22 s) (execA E C (fg 5) B 249 E0 N c5_23) := x_seq (by rfl) s
theorem x5_20 : execA E C (fg 5) B 249 E0 N c5_20 s = blockX 1 (fun s => (forget s.1 [], s.2)) (execA E C (fg 5) B 249 E0 N c5_21 s) := x_block (by rfl) (by rfl) s
noncomputable def c5_38 : Code := kR c5_19
noncomputable def r5_13 : Array Oper := kO c5_38
noncomputable def o5_13_0 : Oper := opN r5_13 0
noncomputable def o5_13_1 : Oper := opN r5_13 1
theorem x5_38 : execA E C (fg 5) B 249 E0 N c5_38 s = regX (runA E C B 249 r5_13 r5_13.toList s) (fun s => gcM E0 [88] (forget s.1 [88], s.2)) := x_reg (ops := r5_13) (by rfl) (by rfl) s
theorem r5_13_l : r5_13.toList = [o5_13_0, o5_13_1] := nrfl rfl
theorem s5_13_0 : stepA E C B 249 r5_13 o5_13_0 (φ, H) = stp (some 88) φ H (just (aBin E.T .add 3 (fget φ 35) (.int .i64 1))) := nrfl rfl
theorem s5_13_1 : stepA E C B 249 r5_13 o5_13_1 (φ, H) = some (fput φ 35 (fget φ 88), H) := nrfl rfl
theorem x5_19 : execA E C (fg 5) B 249 E0 N c5_19 s = seqX (execA E C (fg 5) B 249 E0 N c5_20 s) (execA E C (fg 5) B 249 E0 N c5_38) := x_seq (by rfl) s
theorem x5_15 : execA E C (fg 5) B 249 E0 N c5_15 s = seqX (execA E C (fg 5) B 249 E0 N c5_16 s) (execA E C (fg 5) B 249 E0 N c5_19) := x_seq (by rfl) s
theorem x5_13 : execA E C (fg 5) B 249 E0 N c5_13 s = seqX (execA E C (fg 5) B 249 E0 N c5_14 s) (execA E C (fg 5) B 249 E0 N c5_15) := x_seq (by rfl) s
-- a loop of f5: x5_12; body c5_13; slots [35, 34, 33, 13, 12, 11, 6, 4, 3, 2]
theorem x5_12 : execA E C (fg 5) B 249 E0 N c5_12 s = iterA (execA E C (fg 5) B 249 E0 N c5_13) (headA E0) N s := x_loop (by rfl) s
theorem x5_11 : execA E C (fg 5) B 249 E0 N c5_11 s = blockX 0 (fun s => (forget s.1 [6, 33, 34, 35, 36], s.2)) (execA E C (fg 5) B 249 E0 N c5_12 s) := x_block (by rfl) (by rfl) s
theorem x5_9 : execA E C (fg 5) B 249 E0 N c5_9 s = seqX (execA E C (fg 5) B 249 E0 N c5_10 s) (execA E C (fg 5) B 249 E0 N c5_11) := x_seq (by rfl) s
noncomputable def c5_39 : Code := kR c5_8
noncomputable def c5_40 : Code := kL c5_39
noncomputable def c5_41 : Code := kL c5_40
noncomputable def r5_14 : Array Oper := kO c5_41
noncomputable def o5_14_0 : Oper := opN r5_14 0
noncomputable def o5_14_1 : Oper := opN r5_14 1
theorem x5_41 : execA E C (fg 5) B 249 E0 N c5_41 s = regX (runA E C B 249 r5_14 r5_14.toList s) (fun s => gcM E0 [4, 89] (forget s.1 [4, 89], s.2)) := x_reg (ops := r5_14) (by rfl) (by rfl) s
theorem r5_14_l : r5_14.toList = [o5_14_0, o5_14_1] := nrfl rfl
theorem s5_14_0 : stepA E C B 249 r5_14 o5_14_0 (φ, H) = some (fput φ 89 (fget φ 4), H) := nrfl rfl
theorem s5_14_1 : stepA E C B 249 r5_14 o5_14_1 (φ, H) = stp (some 90) φ H (just (aBin E.T .gtr 5 (fget φ 89) (.int .u8 245))) := nrfl rfl
noncomputable def c5_42 : Code := kR c5_40
noncomputable def c5_43 : Code := kT c5_42
noncomputable def r5_15 : Array Oper := kO c5_43
noncomputable def o5_15_0 : Oper := opN r5_15 0
noncomputable def o5_15_1 : Oper := opN r5_15 1
noncomputable def o5_15_2 : Oper := opN r5_15 2
noncomputable def o5_15_3 : Oper := opN r5_15 3
noncomputable def o5_15_4 : Oper := opN r5_15 4
theorem x5_43 : execA E C (fg 5) B 249 E0 N c5_43 s = regX (runA E C B 249 r5_15 r5_15.toList s) (fun s => gcM E0 [90, 91, 92, 93] (forget s.1 [90, 91, 92, 93], s.2)) := x_reg (ops := r5_15) (by rfl) (by rfl) s
theorem r5_15_l : r5_15.toList = [o5_15_0, o5_15_1, o5_15_2, o5_15_3, o5_15_4] := nrfl rfl
theorem s5_15_0 : stepA E C B 249 r5_15 o5_15_0 (φ, H) = some (fput φ 91 (fget φ 12), H) := nrfl rfl
theorem s5_15_1 : stepA E C B 249 r5_15 o5_15_1 (φ, H) = stp (some 92) φ H (aBuildSlice E.T (B + 92) 36 1 (evO E φ) [(0, Operand.const (Value.int .i64 1))]) := nrfl rfl
theorem s5_15_2 : stepA E C B 249 r5_15 o5_15_2 (φ, H) = stp (some 93) φ H (aBuiltin E.T (B + 93) .append #[36, 36] [(fget φ 91), (fget φ 92)]) := nrfl rfl
theorem s5_15_3 : stepA E C B 249 r5_15 o5_15_3 (φ, H) = some (fput φ 12 (fget φ 93), H) := nrfl rfl
theorem s5_15_4 : stepA E C B 249 r5_15 o5_15_4 (φ, H) = some (fput φ 13 (.int .i64 5), H) := nrfl rfl
noncomputable def c5_44 : Code := kE c5_42
theorem x5_44 : execA E C (fg 5) B 249 E0 N c5_44 s = some (.normal, s) := x_skip (by rfl) s
theorem x5_42 : execA E C (fg 5) B 249 E0 N c5_42 (φ, H) = condX (fget φ 90) (execA E C (fg 5) B 249 E0 N c5_43 (φ, H)) (execA E C (fg 5) B 249 E0 N c5_44 (φ, H)) := x_cond (by rfl) _
theorem x5_40 : execA E C (fg 5) B 249 E0 N c5_40 s = seqX (execA E C (fg 5) B 249 E0 N c5_41 s) (execA E C (fg 5) B 249 E0 N c5_42) := x_seq (by rfl) s
noncomputable def c5_45 : Code := kR c5_39
noncomputable def c5_46 : Code := kL c5_45
noncomputable def r5_16 : Array Oper := kO c5_46
noncomputable def o5_16_0 : Oper := opN r5_16 0
noncomputable def o5_16_1 : Oper := opN r5_16 1
noncomputable def o5_16_2 : Oper := opN r5_16 2
noncomputable def o5_16_3 : Oper := opN r5_16 3
noncomputable def o5_16_4 : Oper := opN r5_16 4
theorem x5_46 : execA E C (fg 5) B 249 E0 N c5_46 s = regX (runA E C B 249 r5_16 r5_16.toList s) (fun s => gcM E0 [2, 90, 94, 95, 96, 97] (forget s.1 [2, 90, 94, 95, 96, 97], s.2)) := x_reg (ops := r5_16) (by rfl) (by rfl) s
theorem r5_16_l : r5_16.toList = [o5_16_0, o5_16_1, o5_16_2, o5_16_3, o5_16_4] := nrfl rfl
theorem s5_16_0 : stepA E C B 249 r5_16 o5_16_0 (φ, H) = some (fput φ 94 (fget φ 2), H) := nrfl rfl
theorem s5_16_1 : stepA E C B 249 r5_16 o5_16_1 (φ, H) = stp (some 95) φ H (justO (aConv E.T 5 3 (fget φ 94))) := nrfl rfl
theorem s5_16_2 : stepA E C B 249 r5_16 o5_16_2 (φ, H) = stp (some 96) φ H (just (aBin E.T .rem 3 (fget φ 95) (.int .i64 8))) := nrfl rfl
theorem s5_16_3 : stepA E C B 249 r5_16 o5_16_3 (φ, H) = stp (some 97) φ H (just (aBin E.T .sub 3 (fget φ 96) (.int .i64 1))) := nrfl rfl
theorem s5_16_4 : stepA E C B 249 r5_16 o5_16_4 (φ, H) = some (fput φ 17 (fget φ 97), H) := nrfl rfl
noncomputable def c5_47 : Code := kR c5_45
noncomputable def c5_48 : Code := kL c5_47
noncomputable def r5_17 : Array Oper := kO c5_48
noncomputable def o5_17_0 : Oper := opN r5_17 0
noncomputable def o5_17_1 : Oper := opN r5_17 1
noncomputable def o5_17_2 : Oper := opN r5_17 2
noncomputable def o5_17_3 : Oper := opN r5_17 3
noncomputable def o5_17_4 : Oper := opN r5_17 4
theorem x5_48 : execA E C (fg 5) B 249 E0 N c5_48 s = regX (runA E C B 249 r5_17 r5_17.toList s) (fun s => gcM E0 [3, 98, 99, 100, 101] (forget s.1 [3, 98, 99, 100, 101], s.2)) := x_reg (ops := r5_17) (by rfl) (by rfl) s
theorem r5_17_l : r5_17.toList = [o5_17_0, o5_17_1, o5_17_2, o5_17_3, o5_17_4] := nrfl rfl
theorem s5_17_0 : stepA E C B 249 r5_17 o5_17_0 (φ, H) = some (fput φ 98 (fget φ 3), H) := nrfl rfl
theorem s5_17_1 : stepA E C B 249 r5_17 o5_17_1 (φ, H) = stp (some 99) φ H (justO (aConv E.T 5 3 (fget φ 98))) := nrfl rfl
theorem s5_17_2 : stepA E C B 249 r5_17 o5_17_2 (φ, H) = stp (some 100) φ H (just (aBin E.T .rem 3 (fget φ 99) (.int .i64 4))) := nrfl rfl
theorem s5_17_3 : stepA E C B 249 r5_17 o5_17_3 (φ, H) = stp (some 101) φ H (just (aBin E.T .sub 3 (fget φ 100) (.int .i64 1))) := nrfl rfl
theorem s5_17_4 : stepA E C B 249 r5_17 o5_17_4 (φ, H) = some (fput φ 18 (fget φ 101), H) := nrfl rfl
noncomputable def c5_49 : Code := kR c5_47
noncomputable def c5_50 : Code := kL c5_49
noncomputable def r5_18 : Array Oper := kO c5_50
noncomputable def o5_18_0 : Oper := opN r5_18 0
theorem x5_50 : execA E C (fg 5) B 249 E0 N c5_50 s = regX (runA E C B 249 r5_18 r5_18.toList s) (fun s => gcM E0 [] (forget s.1 [], s.2)) := x_reg (ops := r5_18) (by rfl) (by rfl) s
theorem r5_18_l : r5_18.toList = [o5_18_0] := nrfl rfl
theorem s5_18_0 : stepA E C B 249 r5_18 o5_18_0 (φ, H) = some (fput φ 19 (.int .i64 0), H) := nrfl rfl
noncomputable def c5_51 : Code := kR c5_49
noncomputable def c5_52 : Code := kL c5_51
noncomputable def c5_53 : Code := kL c5_52
noncomputable def r5_19 : Array Oper := kO c5_53
noncomputable def o5_19_0 : Oper := opN r5_19 0
noncomputable def o5_19_1 : Oper := opN r5_19 1
noncomputable def o5_19_2 : Oper := opN r5_19 2
noncomputable def o5_19_3 : Oper := opN r5_19 3
noncomputable def o5_19_4 : Oper := opN r5_19 4
noncomputable def o5_19_5 : Oper := opN r5_19 5
noncomputable def o5_19_6 : Oper := opN r5_19 6
noncomputable def o5_19_7 : Oper := opN r5_19 7
theorem x5_53 : execA E C (fg 5) B 249 E0 N c5_53 s = regX (runA E C B 249 r5_19 r5_19.toList s) (fun s => gcM E0 [102, 103, 104, 105, 106, 107, 108] (forget s.1 [102, 103, 104, 105, 106, 107, 108], s.2)) := x_reg (ops := r5_19) (by rfl) (by rfl) s
theorem r5_19_l : r5_19.toList = [o5_19_0, o5_19_1, o5_19_2, o5_19_3, o5_19_4, o5_19_5, o5_19_6, o5_19_7] := nrfl rfl
theorem s5_19_0 : stepA E C B 249 r5_19 o5_19_0 (φ, H) = some (fput φ 102 (fget φ 17), H) := nrfl rfl
theorem s5_19_1 : stepA E C B 249 r5_19 o5_19_1 (φ, H) = stp (some 103) φ H (just (aBin E.T .lss 3 (fget φ 102) (.int .i64 0))) := nrfl rfl
theorem s5_19_2 : stepA E C B 249 r5_19 o5_19_2 (φ, H) = some (fput φ 104 (fget φ 103), H) := nrfl rfl
theorem s5_19_3 : stepA E C B 249 r5_19 o5_19_3 (φ, H) = gd φ 104 false (fun φ => some (fput φ 105 (.tup []), H)) (fun φ => some (fput φ 105 (fget φ 17), H)) := s_gd (j := 2) (oj := o5_19_2) rfl rfl rfl (fun _ => rfl) (fun _ => rfl)
theorem s5_19_4 : stepA E C B 249 r5_19 o5_19_4 (φ, H) = gd φ 104 false (fun φ => some (fput φ 106 (.tup []), H)) (fun φ => some (fput φ 106 (fget φ 11), H)) := s_gd (j := 2) (oj := o5_19_2) rfl rfl rfl (fun _ => rfl) (fun _ => rfl)
theorem s5_19_5 : stepA E C B 249 r5_19 o5_19_5 (φ, H) = gd φ 104 false (fun φ => some (fput φ 107 (.tup []), H)) (fun φ => stp (some 107) φ H (aBuiltin E.T (B + 107) .len #[27] [(fget φ 106)])) := s_gd (j := 2) (oj := o5_19_2) rfl rfl rfl (fun _ => rfl) (fun _ => rfl)
theorem s5_19_6 : stepA E C B 249 r5_19 o5_19_6 (φ, H) = gd φ 104 false (fun φ => some (fput φ 108 (.tup []), H)) (fun φ => stp (some 108) φ H (just (aBin E.T .geq 3 (fget φ 105) (fget φ 107)))) := s_gd (j := 2) (oj := o5_19_2) rfl rfl rfl (fun _ => rfl) (fun _ => rfl)
theorem s5_19_7 : stepA E C B 249 r5_19 o5_19_7 (φ, H) = stp (some 109) φ H (opPick (fget φ 104) (.bool true) (fget φ 108)) := nrfl rfl
noncomputable def c5_54 : Code := kR c5_52
noncomputable def c5_55 : Code := kT c5_54
noncomputable def r5_20 : Array Oper := kO c5_55
noncomputable def o5_20_0 : Oper := opN r5_20 0
theorem x5_55 : execA E C (fg 5) B 249 E0 N c5_55 s = regX (runA E C B 249 r5_20 r5_20.toList s) (fun s => gcM E0 [109] (forget s.1 [109], s.2)) := x_reg (ops := r5_20) (by rfl) (by rfl) s
theorem r5_20_l : r5_20.toList = [o5_20_0] := nrfl rfl
theorem s5_20_0 : stepA E C B 249 r5_20 o5_20_0 (φ, H) = some (fput φ 19 (.int .i64 2), H) := nrfl rfl
noncomputable def c5_56 : Code := kE c5_54
theorem x5_56 : execA E C (fg 5) B 249 E0 N c5_56 s = some (.normal, s) := x_skip (by rfl) s
theorem x5_54 : execA E C (fg 5) B 249 E0 N c5_54 (φ, H) = condX (fget φ 109) (execA E C (fg 5) B 249 E0 N c5_55 (φ, H)) (execA E C (fg 5) B 249 E0 N c5_56 (φ, H)) := x_cond (by rfl) _
theorem x5_52 : execA E C (fg 5) B 249 E0 N c5_52 s = seqX (execA E C (fg 5) B 249 E0 N c5_53 s) (execA E C (fg 5) B 249 E0 N c5_54) := x_seq (by rfl) s
noncomputable def c5_57 : Code := kR c5_51
noncomputable def c5_58 : Code := kL c5_57
noncomputable def r5_21 : Array Oper := kO c5_58
noncomputable def o5_21_0 : Oper := opN r5_21 0
noncomputable def o5_21_1 : Oper := opN r5_21 1
noncomputable def o5_21_2 : Oper := opN r5_21 2
noncomputable def o5_21_3 : Oper := opN r5_21 3
noncomputable def o5_21_4 : Oper := opN r5_21 4
noncomputable def o5_21_5 : Oper := opN r5_21 5
noncomputable def o5_21_6 : Oper := opN r5_21 6
noncomputable def o5_21_7 : Oper := opN r5_21 7
noncomputable def o5_21_8 : Oper := opN r5_21 8
noncomputable def o5_21_9 : Oper := opN r5_21 9
theorem x5_58 : execA E C (fg 5) B 249 E0 N c5_58 s = regX (runA E C B 249 r5_21 r5_21.toList s) (fun s => gcM E0 [109, 110, 111, 112, 113, 114, 115, 116, 117] (forget s.1 [109, 110, 111, 112, 113, 114, 115, 116, 117], s.2)) := x_reg (ops := r5_21) (by rfl) (by rfl) s
theorem r5_21_l : r5_21.toList = [o5_21_0, o5_21_1, o5_21_2, o5_21_3, o5_21_4, o5_21_5, o5_21_6, o5_21_7, o5_21_8, o5_21_9] := nrfl rfl
theorem s5_21_0 : stepA E C B 249 r5_21 o5_21_0 (φ, H) = some (fput φ 111 (fget φ 11), H) := nrfl rfl
theorem s5_21_1 : stepA E C B 249 r5_21 o5_21_1 (φ, H) = some (fput φ 112 (fget φ 12), H) := nrfl rfl
theorem s5_21_2 : stepA E C B 249 r5_21 o5_21_2 (φ, H) = some (fput φ 113 (fget φ 17), H) := nrfl rfl
theorem s5_21_3 : stepA E C B 249 r5_21 o5_21_3 (φ, H) = some (fput φ 114 (fget φ 18), H) := nrfl rfl
theorem s5_21_4 : stepA E C B 249 r5_21 o5_21_4 (φ, H) = stp (some 115) φ H (aCall C (fun j => B + j * 249 + 115) true 15 [(fget φ 111), (fget φ 112), (fget φ 113), (fget φ 114)]) := nrfl rfl
theorem s5_21_5 : stepA E C B 249 r5_21 o5_21_5 (φ, H) = some (fput φ 110 (fget φ 115), H) := nrfl rfl
theorem s5_21_6 : stepA E C B 249 r5_21 o5_21_6 (φ, H) = stp (some 116) φ H (opExtract (fget φ 110) 0) := nrfl rfl
theorem s5_21_7 : stepA E C B 249 r5_21 o5_21_7 (φ, H) = stp (some 117) φ H (opExtract (fget φ 110) 1) := nrfl rfl
theorem s5_21_8 : stepA E C B 249 r5_21 o5_21_8 (φ, H) = some (fput φ 20 (fget φ 116), H) := nrfl rfl
theorem s5_21_9 : stepA E C B 249 r5_21 o5_21_9 (φ, H) = some (fput φ 21 (fget φ 117), H) := nrfl rfl
noncomputable def c5_59 : Code := kR c5_57
noncomputable def c5_60 : Code := kL c5_59
noncomputable def r5_22 : Array Oper := kO c5_60
noncomputable def o5_22_0 : Oper := opN r5_22 0
noncomputable def o5_22_1 : Oper := opN r5_22 1
noncomputable def o5_22_2 : Oper := opN r5_22 2
noncomputable def o5_22_3 : Oper := opN r5_22 3
noncomputable def o5_22_4 : Oper := opN r5_22 4
theorem x5_60 : execA E C (fg 5) B 249 E0 N c5_60 s = regX (runA E C B 249 r5_22 r5_22.toList s) (fun s => gcM E0 [118, 119, 120, 121] (forget s.1 [118, 119, 120, 121], s.2)) := x_reg (ops := r5_22) (by rfl) (by rfl) s
theorem r5_22_l : r5_22.toList = [o5_22_0, o5_22_1, o5_22_2, o5_22_3, o5_22_4] := nrfl rfl
theorem s5_22_0 : stepA E C B 249 r5_22 o5_22_0 (φ, H) = some (fput φ 118 (fget φ 11), H) := nrfl rfl
theorem s5_22_1 : stepA E C B 249 r5_22 o5_22_1 (φ, H) = some (fput φ 119 (fget φ 12), H) := nrfl rfl
theorem s5_22_2 : stepA E C B 249 r5_22 o5_22_2 (φ, H) = some (fput φ 120 (fget φ 17), H) := nrfl rfl
theorem s5_22_3 : stepA E C B 249 r5_22 o5_22_3 (φ, H) = stp (some 121) φ H (aCall C (fun j => B + j * 249 + 121) true 19 [(fget φ 118), (fget φ 119), (fget φ 120)]) := nrfl rfl
theorem s5_22_4 : stepA E C B 249 r5_22 o5_22_4 (φ, H) = some (fput φ 22 (fget φ 121), H) := nrfl rfl
noncomputable def c5_61 : Code := kR c5_59
noncomputable def c5_62 : Code := kL c5_61
noncomputable def r5_23 : Array Oper := kO c5_62
noncomputable def o5_23_0 : Oper := opN r5_23 0
noncomputable def o5_23_1 : Oper := opN r5_23 1
noncomputable def o5_23_2 : Oper := opN r5_23 2
noncomputable def o5_23_3 : Oper := opN r5_23 3
noncomputable def o5_23_4 : Oper := opN r5_23 4
noncomputable def o5_23_5 : Oper := opN r5_23 5
noncomputable def o5_23_6 : Oper := opN r5_23 6
noncomputable def o5_23_7 : Oper := opN r5_23 7
noncomputable def o5_23_8 : Oper := opN r5_23 8
theorem x5_62 : execA E C (fg 5) B 249 E0 N c5_62 s = regX (runA E C B 249 r5_23 r5_23.toList s) (fun s => gcM E0 [23, 122, 123, 124, 125, 126, 127, 128] (forget s.1 [23, 122, 123, 124, 125, 126, 127, 128], s.2)) := x_reg (ops := r5_23) (by rfl) (by rfl) s
theorem r5_23_l : r5_23.toList = [o5_23_0, o5_23_1, o5_23_2, o5_23_3, o5_23_4, o5_23_5, o5_23_6, o5_23_7, o5_23_8] := nrfl rfl
theorem s5_23_0 : stepA E C B 249 r5_23 o5_23_0 (φ, H) = some (fput φ 123 (fget φ 11), H) := nrfl rfl
theorem s5_23_1 : stepA E C B 249 r5_23 o5_23_1 (φ, H) = some (fput φ 124 (fget φ 17), H) := nrfl rfl
theorem s5_23_2 : stepA E C B 249 r5_23 o5_23_2 (φ, H) = some (fput φ 125 (fget φ 18), H) := nrfl rfl
theorem s5_23_3 : stepA E C B 249 r5_23 o5_23_3 (φ, H) = stp (some 126) φ H (aCall C (fun j => B + j * 249 + 126) true 14 [(fget φ 123), (fget φ 124), (fget φ 125)]) := nrfl rfl
theorem s5_23_4 : stepA E C B 249 r5_23 o5_23_4 (φ, H) = some (fput φ 122 (fget φ 126), H) := nrfl rfl
theorem s5_23_5 : stepA E C B 249 r5_23 o5_23_5 (φ, H) = stp (some 127) φ H (opExtract (fget φ 122) 0) := nrfl rfl
theorem s5_23_6 : stepA E C B 249 r5_23 o5_23_6 (φ, H) = stp (some 128) φ H (opExtract (fget φ 122) 1) := nrfl rfl
theorem s5_23_7 : stepA E C B 249 r5_23 o5_23_7 (φ, H) = some (fput φ 23 (fget φ 127), H) := nrfl rfl
theorem s5_23_8 : stepA E C B 249 r5_23 o5_23_8 (φ, H) = some (fput φ 24 (fget φ 128), H) := nrfl rfl
noncomputable def c5_63 : Code := kR c5_61
noncomputable def c5_64 : Code := kL c5_63
noncomputable def r5_24 : Array Oper := kO c5_64
noncomputable def o5_24_0 : Oper := opN r5_24 0
noncomputable def o5_24_1 : Oper := opN r5_24 1
theorem x5_64 : execA E C (fg 5) B 249 E0 N c5_64 s = regX (runA E C B 249 r5_24 r5_24.toList s) (fun s => gcM E0 [129] (forget s.1 [129], s.2)) := x_reg (ops := r5_24) (by rfl) (by rfl) s
theorem r5_24_l : r5_24.toList = [o5_24_0, o5_24_1] := nrfl rfl
theorem s5_24_0 : stepA E C B 249 r5_24 o5_24_0 (φ, H) = some (fput φ 129 (fget φ 19), H) := nrfl rfl
theorem s5_24_1 : stepA E C B 249 r5_24 o5_24_1 (φ, H) = some (fput φ 25 (fget φ 129), H) := nrfl rfl
noncomputable def c5_65 : Code := kR c5_63
noncomputable def c5_66 : Code := kL c5_65
noncomputable def c5_67 : Code := kB c5_66
noncomputable def c5_68 : Code := kL c5_67
noncomputable def r5_25 : Array Oper := kO c5_68
noncomputable def o5_25_0 : Oper := opN r5_25 0
noncomputable def o5_25_1 : Oper := opN r5_25 1
noncomputable def o5_25_2 : Oper := opN r5_25 2
theorem x5_68 : execA E C (fg 5) B 249 E0 N c5_68 s = regX (runA E C B 249 r5_25 r5_25.toList s) (fun s => gcM E0 [131, 132] (forget s.1 [131, 132], s.2)) := x_reg (ops := r5_25) (by rfl) (by rfl) s
theorem r5_25_l : r5_25.toList = [o5_25_0, o5_25_1, o5_25_2] := nrfl rfl
theorem s5_25_0 : stepA E C B 249 r5_25 o5_25_0 (φ, H) = some (fput φ 131 (fget φ 19), H) := nrfl rfl
theorem s5_25_1 : stepA E C B 249 r5_25 o5_25_1 (φ, H) = stp (some 132) φ H (just (aBin E.T .neq 30 (fget φ 131) (.int .i64 0))) := nrfl rfl
theorem s5_25_2 : stepA E C B 249 r5_25 o5_25_2 (φ, H) = some (fput φ 130 (fget φ 132), H) := nrfl rfl
noncomputable def c5_69 : Code := kR c5_67
noncomputable def c5_70 : Code := kT c5_69
theorem x5_70 : execA E C (fg 5) B 249 E0 N c5_70 s = some (.normal, s) := x_skip (by rfl) s
noncomputable def c5_71 : Code := kE c5_69
noncomputable def c5_72 : Code := kL c5_71
noncomputable def r5_26 : Array Oper := kO c5_72
noncomputable def o5_26_0 : Oper := opN r5_26 0
noncomputable def o5_26_1 : Oper := opN r5_26 1
noncomputable def o5_26_2 : Oper := opN r5_26 2
noncomputable def o5_26_3 : Oper := opN r5_26 3
noncomputable def o5_26_4 : Oper := opN r5_26 4
noncomputable def o5_26_5 : Oper := opN r5_26 5
noncomputable def o5_26_6 : Oper := opN r5_26 6
theorem x5_72 : execA E C (fg 5) B 249 E0 N c5_72 s = regX (runA E C B 249 r5_26 r5_26.toList s) (fun s => gcM E0 [130, 134, 135, 136, 137, 138, 139] (forget s.1 [130, 134, 135, 136, 137, 138, 139], s.2)) := x_reg (ops := r5_26) (by rfl) (by rfl) s
theorem r5_26_l : r5_26.toList = [o5_26_0, o5_26_1, o5_26_2, o5_26_3, o5_26_4, o5_26_5, o5_26_6] := nrfl rfl
theorem s5_26_0 : stepA E C B 249 r5_26 o5_26_0 (φ, H) = some (fput φ 134 (fget φ 18), H) := nrfl rfl
theorem s5_26_1 : stepA E C B 249 r5_26 o5_26_1 (φ, H) = stp (some 135) φ H (just (aBin E.T .neq 3 (fget φ 134) (.int .i64 1))) := nrfl rfl
theorem s5_26_2 : stepA E C B 249 r5_26 o5_26_2 (φ, H) = some (fput φ 136 (fget φ 135), H) := nrfl rfl
theorem s5_26_3 : stepA E C B 249 r5_26 o5_26_3 (φ, H) = gd φ 136 true (fun φ => some (fput φ 137 (.tup []), H)) (fun φ => some (fput φ 137 (fget φ 18), H)) := s_gd (j := 2) (oj := o5_26_2) rfl rfl rfl (fun _ => rfl) (fun _ => rfl)
theorem s5_26_4 : stepA E C B 249 r5_26 o5_26_4 (φ, H) = gd φ 136 true (fun φ => some (fput φ 138 (.tup []), H)) (fun φ => stp (some 138) φ H (just (aBin E.T .neq 3 (fget φ 137) (.int .i64 (-1))))) := s_gd (j := 2) (oj := o5_26_2) rfl rfl rfl (fun _ => rfl) (fun _ => rfl)
theorem s5_26_5 : stepA E C B 249 r5_26 o5_26_5 (φ, H) = stp (some 139) φ H (opPick (fget φ 136) (fget φ 138) (.bool false)) := nrfl rfl
theorem s5_26_6 : stepA E C B 249 r5_26 o5_26_6 (φ, H) = some (fput φ 133 (fget φ 139), H) := nrfl rfl
noncomputable def c5_73 : Code := kR c5_71
noncomputable def c5_74 : Code := kT c5_73
noncomputable def r5_27 : Array Oper := kO c5_74
noncomputable def o5_27_0 : Oper := opN r5_27 0
theorem x5_74 : execA E C (fg 5) B 249 E0 N c5_74 s = regX (runA E C B 249 r5_27 r5_27.toList s) (fun s => gcM E0 [18, 133] (forget s.1 [18, 133], s.2)) := x_reg (ops := r5_27) (by rfl) (by rfl) s
theorem r5_27_l : r5_27.toList = [o5_27_0] := nrfl rfl
theorem s5_27_0 : stepA E C B 249 r5_27 o5_27_0 (φ, H) = some (fput φ 25 (.int .i64 1), H) := nrfl rfl
noncomputable def c5_75 : Code := kE c5_73
noncomputable def c5_76 : Code := kL c5_75
noncomputable def r5_28 : Array Oper := kO c5_76
noncomputable def o5_28_0 : Oper := opN r5_28 0
noncomputable def o5_28_1 : Oper := opN r5_28 1
noncomputable def o5_28_2 : Oper := opN r5_28 2
noncomputable def o5_28_3 : Oper := opN r5_28 3
noncomputable def o5_28_4 : Oper := opN r5_28 4
noncomputable def o5_28_5 : Oper := opN r5_28 5
noncomputable def o5_28_6 : Oper := opN r5_28 6
theorem x5_76 : execA E C (fg 5) B 249 E0 N c5_76 s = regX (runA E C B 249 r5_28 r5_28.toList s) (fun s => gcM E0 [18, 133, 141, 142, 143, 144, 145, 146] (forget s.1 [18, 133, 141, 142, 143, 144, 145, 146], s.2)) := x_reg (ops := r5_28) (by rfl) (by rfl) s
theorem r5_28_l : r5_28.toList = [o5_28_0, o5_28_1, o5_28_2, o5_28_3, o5_28_4, o5_28_5, o5_28_6] := nrfl rfl
theorem s5_28_0 : stepA E C B 249 r5_28 o5_28_0 (φ, H) = some (fput φ 141 (fget φ 17), H) := nrfl rfl
theorem s5_28_1 : stepA E C B 249 r5_28 o5_28_1 (φ, H) = stp (some 142) φ H (just (aBin E.T .eql 3 (fget φ 141) (.int .i64 0))) := nrfl rfl
theorem s5_28_2 : stepA E C B 249 r5_28 o5_28_2 (φ, H) = some (fput φ 143 (fget φ 142), H) := nrfl rfl
theorem s5_28_3 : stepA E C B 249 r5_28 o5_28_3 (φ, H) = gd φ 143 true (fun φ => some (fput φ 144 (.tup []), H)) (fun φ => some (fput φ 144 (fget φ 18), H)) := s_gd (j := 2) (oj := o5_28_2) rfl rfl rfl (fun _ => rfl) (fun _ => rfl)
theorem s5_28_4 : stepA E C B 249 r5_28 o5_28_4 (φ, H) = gd φ 143 true (fun φ => some (fput φ 145 (.tup []), H)) (fun φ => stp (some 145) φ H (just (aBin E.T .eql 3 (fget φ 144) (.int .i64 (-1))))) := s_gd (j := 2) (oj := o5_28_2) rfl rfl rfl (fun _ => rfl) (fun _ => rfl)
theorem s5_28_5 : stepA E C B 249 r5_28 o5_28_5 (φ, H) = stp (some 146) φ H (opPick (fget φ 143) (fget φ 145) (.bool false)) := nrfl rfl
theorem s5_28_6 : stepA E C B 249 r5_28 o5_28_6 (φ, H) = some (fput φ 140 (fget φ 146), H) := nrfl rfl
noncomputable def c5_77 : Code := kR c5_75
noncomputable def c5_78 : Code := kT c5_77
noncomputable def r5_29 : Array Oper := kO c5_78
noncomputable def o5_29_0 : Oper := opN r5_29 0
theorem x5_78 : execA E C (fg 5) B 249 E0 N c5_78 s = regX (runA E C B 249 r5_29 r5_29.toList s) (fun s => gcM E0 [140] (forget s.1 [140], s.2)) := x_reg (ops := r5_29) (by rfl) (by rfl) s
theorem r5_29_l : r5_29.toList = [o5_29_0] := nrfl rfl
theorem s5_29_0 : stepA E C B 249 r5_29 o5_29_0 (φ, H) = some (fput φ 25 (.int .i64 21), H) := nrfl rfl
noncomputable def c5_79 : Code := kE c5_77
theorem x5_79 : execA E C (fg 5) B 249 E0 N c5_79 s = some (.normal, s) := x_skip (by rfl) s
theorem x5_77 : execA E C (fg 5) B 249 E0 N c5_77 (φ, H) = condX (fget φ 140) (execA E C (fg 5) B 249 E0 N c5_78 (φ, H)) (execA E C (fg 5) B 249 E0 N c5_79 (φ, H)) := x_cond (by rfl) _
theorem x5_75 : execA E C (fg 5) B 249 E0 N c5_75 s = seqX (execA E C (fg 5) B 249 E0 N c5_76 s) (execA E C (fg 5) B 249 E0 N c5_77) := x_seq (by rfl) s
theorem x5_73 : execA E C (fg 5) B 249 E0 N c5_73 (φ, H) = condX (fget φ 133) (execA E C (fg 5) B 249 E0 N c5_74 (φ, H)) (execA E C (fg 5) B 249 E0 N c5_75 (φ, H)) := x_cond (by rfl) _
theorem x5_71 : execA E C (fg 5) B 249 E0 N c5_71 s = seqX (execA E C (fg 5) B 249 E0 N c5_72 s) (execA E C (fg 5) B 249 E0 N c5_73) := x_seq (by rfl) s
theorem x5_69 : execA E C (fg 5) B 249 E0 N c5_69 (φ, H) = condX (fget φ 130) (execA E C (fg 5) B 249 E0 N c5_70 (φ, H)) (execA E C (fg 5) B 249 E0 N c5_71 (φ, H)) := x_cond (by rfl) _
theorem x5_67 : execA E C (fg 5) B 249 E0 N c5_67 s = seqX (execA E C (fg 5) B 249 E0 N c5_68 s) (execA E C (fg 5) B 249 E0 N c5_69) := x_seq (by rfl) s
theorem x5_66 : execA E C (fg 5) B 249 E0 N c5_66 s = blockX 2 (fun s => (forget s.1 [18, 130, 140], s.2)) (execA E C (fg 5) B 249 E0 N c5_67 s) := x_block (by rfl) (by rfl) s
noncomputable def c5_80 : Code := kR c5_65
noncomputable def c5_81 : Code := kL c5_80
noncomputable def c5_82 : Code := kL c5_81
noncomputable def r5_30 : Array Oper := kO c5_82
noncomputable def o5_30_0 : Oper := opN r5_30 0
noncomputable def o5_30_1 : Oper := opN r5_30 1
noncomputable def o5_30_2 : Oper := opN r5_30 2
theorem x5_82 : execA E C (fg 5) B 249 E0 N c5_82 s = regX (runA E C B 249 r5_30 r5_30.toList s) (fun s => gcM E0 [24, 147, 148] (forget s.1 [24, 147, 148], s.2)) := x_reg (ops := r5_30) (by rfl) (by rfl) s
theorem r5_30_l : r5_30.toList = [o5_30_0, o5_30_1, o5_30_2] := nrfl rfl
theorem s5_30_0 : stepA E C B 249 r5_30 o5_30_0 (φ, H) = some (fput φ 147 (fget φ 24), H) := nrfl rfl
theorem s5_30_1 : stepA E C B 249 r5_30 o5_30_1 (φ, H) = some (fput φ 148 (fget φ 25), H) := nrfl rfl
theorem s5_30_2 : stepA E C B 249 r5_30 o5_30_2 (φ, H) = stp (some 149) φ H (just (aBin E.T .neq 30 (fget φ 147) (fget φ 148))) := nrfl rfl
noncomputable def c5_83 : Code := kR c5_81
noncomputable def c5_84 : Code := kT c5_83
noncomputable def c5_85 : Code := kL c5_84
noncomputable def r5_31 : Array Oper := kO c5_85
noncomputable def o5_31_0 : Oper := opN r5_31 0
theorem x5_85 : execA E C (fg 5) B 249 E0 N c5_85 s = regX (runA E C B 249 r5_31 r5_31.toList s) (fun s => gcM E0 [11, 12, 13, 17, 19, 20, 21, 22, 25, 149] (forget s.1 [11, 12, 13, 17, 19, 20, 21, 22, 25, 149], s.2)) := x_reg (ops := r5_31) (by rfl) (by rfl) s
theorem r5_31_l : r5_31.toList = [o5_31_0] := nrfl rfl
theorem s5_31_0 : stepA E C B 249 r5_31 o5_31_0 (φ, H) = some (fput φ 10 (.bool false), H) := nrfl rfl
noncomputable def c5_86 : Code := kR c5_84
theorem x5_86 : execA E C (fg 5) B 249 E0 N c5_86 s = some (.ret, s) := x_ret (by rfl) s
theorem x5_84 : execA E C (fg 5) B 249 E0 N c5_84 s = seqX (execA E C (fg 5) B 249 E0 N c5_85 s) (execA E C (fg 5) B 249 E0 N c5_86) := x_seq (by rfl) s
noncomputable def c5_87 : Code := kE c5_83
theorem x5_87 : execA E C (fg 5) B 249 E0 N c5_87 s = some (.normal, s) := x_skip (by rfl) s
theorem x5_83 : execA E C (fg 5) B 249 E0 N c5_83 (φ, H) = condX (fget φ 149) (execA E C (fg 5) B 249 E0 N c5_84 (φ, H)) (execA E C (fg 5) B 249 E0 N c5_87 (φ, H)) := x_cond (by rfl) _
theorem x5_81 : execA E C (fg 5) B 249 E0 N c5_81 s = seqX (execA E C (fg 5) B 249 E0 N c5_82 s) (execA E C (fg 5) B 249 E0 N c5_83) := x_seq (by rfl) s
noncomputable def c5_88 : Code := kR c5_80
noncomputable def c5_89 : Code := kL c5_88
noncomputable def c5_90 : Code := kL c5_89
noncomputable def r5_32 : Array Oper := kO c5_90
noncomputable def o5_32_0 : Oper := opN r5_32 0
noncomputable def o5_32_1 : Oper := opN r5_32 1
theorem x5_90 : execA E C (fg 5) B 249 E0 N c5_90 s = regX (runA E C B 249 r5_32 r5_32.toList s) (fun s => gcM E0 [149, 150] (forget s.1 [149, 150], s.2)) := x_reg (ops := r5_32) (by rfl) (by rfl) s
theorem r5_32_l : r5_32.toList = [o5_32_0, o5_32_1] := nrfl rfl
theorem s5_32_0 : stepA E C B 249 r5_32 o5_32_0 (φ, H) = some (fput φ 150 (fget φ 25), H) := nrfl rfl
theorem s5_32_1 : stepA E C B 249 r5_32 o5_32_1 (φ, H) = stp (some 151) φ H (just (aBin E.T .eql 30 (fget φ 150) (.int .i64 0))) := nrfl rfl
noncomputable def c5_91 : Code := kR c5_89
noncomputable def c5_92 : Code := kT c5_91
noncomputable def r5_33 : Array Oper := kO c5_92
noncomputable def o5_33_0 : Oper := opN r5_33 0
noncomputable def o5_33_1 : Oper := opN r5_33 1
theorem x5_92 : execA E C (fg 5) B 249 E0 N c5_92 s = regX (runA E C B 249 r5_33 r5_33.toList s) (fun s => gcM E0 [151, 152] (forget s.1 [151, 152], s.2)) := x_reg (ops := r5_33) (by rfl) (by rfl) s
theorem r5_33_l : r5_33.toList = [o5_33_0, o5_33_1] := nrfl rfl
theorem s5_33_0 : stepA E C B 249 r5_33 o5_33_0 (φ, H) = some (fput φ 152 (fget φ 13), H) := nrfl rfl
theorem s5_33_1 : stepA E C B 249 r5_33 o5_33_1 (φ, H) = some (fput φ 25 (fget φ 152), H) := nrfl rfl
noncomputable def c5_93 : Code := kE c5_91
theorem x5_93 : execA E C (fg 5) B 249 E0 N c5_93 s = some (.normal, s) := x_skip (by rfl) s
theorem x5_91 : execA E C (fg 5) B 249 E0 N c5_91 (φ, H) = condX (fget φ 151) (execA E C (fg 5) B 249 E0 N c5_92 (φ, H)) (execA E C (fg 5) B 249 E0 N c5_93 (φ, H)) := x_cond (by rfl) _
theorem x5_89 : execA E C (fg 5) B 249 E0 N c5_89 s = seqX (execA E C (fg 5) B 249 E0 N c5_90 s) (execA E C (fg 5) B 249 E0 N c5_91) := x_seq (by rfl) s
noncomputable def c5_94 : Code := kR c5_88
noncomputable def c5_95 : Code := kL c5_94
noncomputable def c5_96 : Code := kL c5_95
noncomputable def r5_34 : Array Oper := kO c5_96
noncomputable def o5_34_0 : Oper := opN r5_34 0
noncomputable def o5_34_1 : Oper := opN r5_34 1
noncomputable def o5_34_2 : Oper := opN r5_34 2
noncomputable def o5_34_3 : Oper := opN r5_34 3
noncomputable def o5_34_4 : Oper := opN r5_34 4
noncomputable def o5_34_5 : Oper := opN r5_34 5
noncomputable def o5_34_6 : Oper := opN r5_34 6
noncomputable def o5_34_7 : Oper := opN r5_34 7
noncomputable def o5_34_8 : Oper := opN r5_34 8
noncomputable def o5_34_9 : Oper := opN r5_34 9
noncomputable def o5_34_10 : Oper := opN r5_34 10
theorem x5_96 : execA E C (fg 5) B 249 E0 N c5_96 s = regX (runA E C B 249 r5_34 r5_34.toList s) (fun s => gcM E0 [20, 21, 25, 151, 153, 154, 155, 156, 157, 158, 159, 160, 161, 162] (forget s.1 [20, 21, 25, 151, 153, 154, 155, 156, 157, 158, 159, 160, 161, 162], s.2)) := x_reg (ops := r5_34) (by rfl) (by rfl) s
theorem r5_34_l : r5_34.toList = [o5_34_0, o5_34_1, o5_34_2, o5_34_3, o5_34_4, o5_34_5, o5_34_6, o5_34_7, o5_34_8, o5_34_9, o5_34_10] := nrfl rfl
theorem s5_34_0 : stepA E C B 249 r5_34 o5_34_0 (φ, H) = some (fput φ 153 (fget φ 21), H) := nrfl rfl
theorem s5_34_1 : stepA E C B 249 r5_34 o5_34_1 (φ, H) = some (fput φ 154 (fget φ 25), H) := nrfl rfl
theorem s5_34_2 : stepA E C B 249 r5_34 o5_34_2 (φ, H) = stp (some 155) φ H (just (aBin E.T .neq 30 (fget φ 153) (fget φ 154))) := nrfl rfl
theorem s5_34_3 : stepA E C B 249 r5_34 o5_34_3 (φ, H) = some (fput φ 156 (fget φ 155), H) := nrfl rfl
theorem s5_34_4 : stepA E C B 249 r5_34 o5_34_4 (φ, H) = gd φ 156 false (fun φ => some (fput φ 157 (.tup []), H)) (fun φ => some (fput φ 157 (fget φ 21), H)) := s_gd (j := 3) (oj := o5_34_3) rfl rfl rfl (fun _ => rfl) (fun _ => rfl)
theorem s5_34_5 : stepA E C B 249 r5_34 o5_34_5 (φ, H) = gd φ 156 false (fun φ => some (fput φ 158 (.tup []), H)) (fun φ => stp (some 158) φ H (just (aBin E.T .neq 30 (fget φ 157) (.int .i64 0)))) := s_gd (j := 3) (oj := o5_34_3) rfl rfl rfl (fun _ => rfl) (fun _ => rfl)
theorem s5_34_6 : stepA E C B 249 r5_34 o5_34_6 (φ, H) = gd φ 156 false (fun φ => some (fput φ 159 (.tup []), H)) (fun φ => some (fput φ 159 (fget φ 158), H)) := s_gd (j := 3) (oj := o5_34_3) rfl rfl rfl (fun _ => rfl) (fun _ => rfl)
theorem s5_34_7 : stepA E C B 249 r5_34 o5_34_7 (φ, H) = gd φ 159 true (fun φ => some (fput φ 160 (.tup []), H)) (fun φ => some (fput φ 160 (fget φ 20), H)) := s_gd (j := 6) (oj := o5_34_6) rfl rfl rfl (fun _ => rfl) (fun _ => rfl)
theorem s5_34_8 : stepA E C B 249 r5_34 o5_34_8 (φ, H) = gd φ 159 true (fun φ => some (fput φ 161 (.tup []), H)) (fun φ => stp (some 161) φ H (just (aBin E.T .neq 3 (fget φ 160) (.int .i64 0)))) := s_gd (j := 6) (oj := o5_34_6) rfl rfl rfl (fun _ => rfl) (fun _ => rfl)
theorem s5_34_9 : stepA E C B 249 r5_34 o5_34_9 (φ, H) = gd φ 156 false (fun φ => some (fput φ 162 (.tup []), H)) (fun φ => stp (some 162) φ H (opPick (fget φ 159) (fget φ 161) (.bool false))) := s_gd (j := 3) (oj := o5_34_3) rfl rfl rfl (fun _ => rfl) (fun _ => rfl)
theorem s5_34_10 : stepA E C B 249 r5_34 o5_34_10 (φ, H) = stp (some 163) φ H (opPick (fget φ 156) (.bool true) (fget φ 162)) := nrfl rfl
noncomputable def c5_97 : Code := kR c5_95
noncomputable def c5_98 : Code := kT c5_97
noncomputable def c5_99 : Code := kL c5_98
noncomputable def r5_35 : Array Oper := kO c5_99
noncomputable def o5_35_0 : Oper := opN r5_35 0
theorem x5_99 : execA E C (fg 5) B 249 E0 N c5_99 s = regX (runA E C B 249 r5_35 r5_35.toList s) (fun s => gcM E0 [11, 12, 13, 17, 19, 22, 163] (forget s.1 [11, 12, 13, 17, 19, 22, 163], s.2)) := x_reg (ops := r5_35) (by rfl) (by rfl) s
theorem r5_35_l : r5_35.toList = [o5_35_0] := nrfl rfl
theorem s5_35_0 : stepA E C B 249 r5_35 o5_35_0 (φ, H) = some (fput φ 10 (.bool false), H) := nrfl rfl
noncomputable def c5_100 : Code := kR c5_98
theorem x5_100 : execA E C (fg 5) B 249 E0 N c5_100 s = some (.ret, s) := x_ret (by rfl) s
theorem x5_98 : execA E C (fg 5) B 249 E0 N c5_98 s = seqX (execA E C (fg 5) B 249 E0 N c5_99 s) (execA E C (fg 5) B 249 E0 N c5_100) := x_seq (by rfl) s
noncomputable def c5_101 : Code := kE c5_97
theorem x5_101 : execA E C (fg 5) B 249 E0 N c5_101 s = some (.normal, s) := x_skip (by rfl) s
theorem x5_97 : execA E C (fg 5) B 249 E0 N c5_97 (φ, H) = condX (fget φ 163) (execA E C (fg 5) B 249 E0 N c5_98 (φ, H)) (execA E C (fg 5) B 249 E0 N c5_101 (φ, H)) := x_cond (by rfl) _
theorem x5_95 : execA E C (fg 5) B 249 E0 N c5_95 s = seqX (execA E C (fg 5) B 249 E0 N c5_96 s) (execA E C (fg 5) B 249 E0 N c5_97) := x_seq (by rfl) s
noncomputable def c5_102 : Code := kR c5_94
noncomputable def c5_103 : Code := kL c5_102
noncomputable def c5_104 : Code := kL c5_103
noncomputable def r5_36 : Array Oper := kO c5_104
noncomputable def o5_36_0 : Oper := opN r5_36 0
noncomputable def o5_36_1 : Oper := opN r5_36 1
noncomputable def o5_36_2 : Oper := opN r5_36 2
noncomputable def o5_36_3 : Oper := opN r5_36 3
noncomputable def o5_36_4 : Oper := opN r5_36 4
noncomputable def o5_36_5 : Oper := opN r5_36 5
theorem x5_104 : execA E C (fg 5) B 249 E0 N c5_104 s = regX (runA E C B 249 r5_36 r5_36.toList s) (fun s => gcM E0 [163, 164, 165, 166, 167, 168] (forget s.1 [163, 164, 165, 166, 167, 168], s.2)) := x_reg (ops := r5_36) (by rfl) (by rfl) s
theorem r5_36_l : r5_36.toList = [o5_36_0, o5_36_1, o5_36_2, o5_36_3, o5_36_4, o5_36_5] := nrfl rfl
theorem s5_36_0 : stepA E C B 249 r5_36 o5_36_0 (φ, H) = some (fput φ 164 (fget φ 19), H) := nrfl rfl
theorem s5_36_1 : stepA E C B 249 r5_36 o5_36_1 (φ, H) = stp (some 165) φ H (just (aBin E.T .neq 30 (fget φ 164) (.int .i64 0))) := nrfl rfl
theorem s5_36_2 : stepA E C B 249 r5_36 o5_36_2 (φ, H) = some (fput φ 166 (fget φ 165), H) := nrfl rfl
theorem s5_36_3 : stepA E C B 249 r5_36 o5_36_3 (φ, H) = gd φ 166 false (fun φ => some (fput φ 167 (.tup []), H)) (fun φ => some (fput φ 167 (fget φ 13), H)) := s_gd (j := 2) (oj := o5_36_2) rfl rfl rfl (fun _ => rfl) (fun _ => rfl)
theorem s5_36_4 : stepA E C B 249 r5_36 o5_36_4 (φ, H) = gd φ 166 false (fun φ => some (fput φ 168 (.tup []), H)) (fun φ => stp (some 168) φ H (just (aBin E.T .neq 30 (fget φ 167) (.int .i64 0)))) := s_gd (j := 2) (oj := o5_36_2) rfl rfl rfl (fun _ => rfl) (fun _ => rfl)
theorem s5_36_5 : stepA E C B 249 r5_36 o5_36_5 (φ, H) = stp (some 169) φ H (opPick (fget φ 166) (.bool true) (fget φ 168)) := nrfl rfl
noncomputable def c5_105 : Code := kR c5_103
noncomputable def c5_106 : Code := kT c5_105
noncomputable def c5_107 : Code := kL c5_106
noncomputable def c5_108 : Code := kL c5_107
noncomputable def r5_37 : Array Oper := kO c5_108
noncomputable def o5_37_0 : Oper := opN r5_37 0
noncomputable def o5_37_1 : Oper := opN r5_37 1
theorem x5_108 : execA E C (fg 5) B 249 E0 N c5_108 s = regX (runA E C B 249 r5_37 r5_37.toList s) (fun s => gcM E0 [11, 12, 17, 169, 170] (forget s.1 [11, 12, 17, 169, 170], s.2)) := x_reg (ops := r5_37) (by rfl) (by rfl) s
theorem r5_37_l : r5_37.toList = [o5_37_0, o5_37_1] := nrfl rfl
theorem s5_37_0 : stepA E C B 249 r5_37 o5_37_0 (φ, H) = some (fput φ 170 (fget φ 19), H) := nrfl rfl
theorem s5_37_1 : stepA E C B 249 r5_37 o5_37_1 (φ, H) = stp (some 171) φ H (just (aBin E.T .eql 30 (fget φ 170) (.int .i64 0))) := nrfl rfl
noncomputable def c5_109 : Code := kR c5_107
noncomputable def c5_110 : Code := kT c5_109
noncomputable def r5_38 : Array Oper := kO c5_110
noncomputable def o5_38_0 : Oper := opN r5_38 0
noncomputable def o5_38_1 : Oper := opN r5_38 1
theorem x5_110 : execA E C (fg 5) B 249 E0 N c5_110 s = regX (runA E C B 249 r5_38 r5_38.toList s) (fun s => gcM E0 [13, 171, 172] (forget s.1 [13, 171, 172], s.2)) := x_reg (ops := r5_38) (by rfl) (by rfl) s
theorem r5_38_l : r5_38.toList = [o5_38_0, o5_38_1] := nrfl rfl
theorem s5_38_0 : stepA E C B 249 r5_38 o5_38_0 (φ, H) = some (fput φ 172 (fget φ 13), H) := nrfl rfl
theorem s5_38_1 : stepA E C B 249 r5_38 o5_38_1 (φ, H) = some (fput φ 19 (fget φ 172), H) := nrfl rfl
noncomputable def c5_111 : Code := kE c5_109
theorem x5_111 : execA E C (fg 5) B 249 E0 N c5_111 s = some (.normal, s) := x_skip (by rfl) s
theorem x5_109 : execA E C (fg 5) B 249 E0 N c5_109 (φ, H) = condX (fget φ 171) (execA E C (fg 5) B 249 E0 N c5_110 (φ, H)) (execA E C (fg 5) B 249 E0 N c5_111 (φ, H)) := x_cond (by rfl) _
theorem x5_107 : execA E C (fg 5) B 249 E0 N c5_107 s = seqX (execA E C (fg 5) B 249 E0 N c5_108 s) (execA E C (fg 5) B 249 E0 N c5_109) := x_seq (by rfl) s
noncomputable def c5_112 : Code := kR c5_106
noncomputable def c5_113 : Code := kL c5_112
noncomputable def r5_39 : Array Oper := kO c5_113
noncomputable def o5_39_0 : Oper := opN r5_39 0
noncomputable def o5_39_1 : Oper := opN r5_39 1
noncomputable def o5_39_2 : Oper := opN r5_39 2
noncomputable def o5_39_3 : Oper := opN r5_39 3
noncomputable def o5_39_4 : Oper := opN r5_39 4
noncomputable def o5_39_5 : Oper := opN r5_39 5
noncomputable def o5_39_6 : Oper := opN r5_39 6
theorem x5_113 : execA E C (fg 5) B 249 E0 N c5_113 s = regX (runA E C B 249 r5_39 r5_39.toList s) (fun s => gcM E0 [13, 19, 22, 171, 173, 174, 175, 176, 177, 178] (forget s.1 [13, 19, 22, 171, 173, 174, 175, 176, 177, 178], s.2)) := x_reg (ops := r5_39) (by rfl) (by rfl) s
theorem r5_39_l : r5_39.toList = [o5_39_0, o5_39_1, o5_39_2, o5_39_3, o5_39_4, o5_39_5, o5_39_6] := nrfl rfl
theorem s5_39_0 : stepA E C B 249 r5_39 o5_39_0 (φ, H) = some (fput φ 173 (fget φ 22), H) := nrfl rfl
theorem s5_39_1 : stepA E C B 249 r5_39 o5_39_1 (φ, H) = some (fput φ 174 (fget φ 19), H) := nrfl rfl
theorem s5_39_2 : stepA E C B 249 r5_39 o5_39_2 (φ, H) = stp (some 175) φ H (just (aBin E.T .eql 30 (fget φ 173) (fget φ 174))) := nrfl rfl
theorem s5_39_3 : stepA E C B 249 r5_39 o5_39_3 (φ, H) = some (fput φ 176 (fget φ 175), H) := nrfl rfl
theorem s5_39_4 : stepA E C B 249 r5_39 o5_39_4 (φ, H) = gd φ 176 true (fun φ => some (fput φ 177 (.tup []), H)) (fun φ => stp (some 177) φ H (aCall C (fun j => B + j * 249 + 177) true 20 [])) := s_gd (j := 3) (oj := o5_39_3) rfl rfl rfl (fun _ => rfl) (fun _ => rfl)
theorem s5_39_5 : stepA E C B 249 r5_39 o5_39_5 (φ, H) = stp (some 178) φ H (opPick (fget φ 176) (fget φ 177) (.bool false)) := nrfl rfl
theorem s5_39_6 : stepA E C B 249 r5_39 o5_39_6 (φ, H) = some (fput φ 10 (fget φ 178), H) := nrfl rfl
noncomputable def c5_114 : Code := kR c5_112
theorem x5_114 : execA E C (fg 5) B 249 E0 N c5_114 s = some (.ret, s) := x_ret (by rfl) s
theorem x5_112 : execA E C (fg 5) B 249 E0 N c5_112 s = seqX (execA E C (fg 5) B 249 E0 N c5_113 s) (execA E C (fg 5) B 249 E0 N c5_114) := x_seq (by rfl) s
theorem x5_106 : execA E C (fg 5) B 249 E0 N c5_106 s = seqX (execA E C (fg 5) B 249 E0 N c5_107 s) (execA E C (fg 5) B 249 E0 N c5_112) := x_seq (by rfl) s
noncomputable def c5_115 : Code := kE c5_105
theorem x5_115 : execA E C (fg 5) B 249 E0 N c5_115 s = some (.normal, s) := x_skip (by rfl) s
theorem x5_105 : execA E C (fg 5) B 249 E0 N c5_105 (φ, H) = condX (fget φ 169) (execA E C (fg 5) B 249 E0 N c5_106 (φ, H)) (execA E C (fg 5) B 249 E0 N c5_115 (φ, H)) := x_cond (by rfl) _
theorem x5_103 : execA E C (fg 5) B 249 E0 N c5_103 s = seqX (execA E C (fg 5) B 249 E0 N c5_104 s) (execA E C (fg 5) B 249 E0 N c5_105) := x_seq (by rfl) s
noncomputable def c5_116 : Code := kR c5_102
noncomputable def c5_117 : Code := kL c5_116
noncomputable def r5_40 : Array Oper := kO c5_117
noncomputable def o5_40_0 : Oper := opN r5_40 0
noncomputable def o5_40_1 : Oper := opN r5_40 1
noncomputable def o5_40_2 : Oper := opN r5_40 2
noncomputable def o5_40_3 : Oper := opN r5_40 3
noncomputable def o5_40_4 : Oper := opN r5_40 4
noncomputable def o5_40_5 : Oper := opN r5_40 5
noncomputable def o5_40_6 : Oper := opN r5_40 6
noncomputable def o5_40_7 : Oper := opN r5_40 7
noncomputable def o5_40_8 : Oper := opN r5_40 8
theorem x5_117 : execA E C (fg 5) B 249 E0 N c5_117 s = regX (runA E C B 249 r5_40 r5_40.toList s) (fun s => gcM E0 [13, 19, 169, 179, 180, 181, 182, 183, 184, 185] (forget s.1 [13, 19, 169, 179, 180, 181, 182, 183, 184, 185], s.2)) := x_reg (ops := r5_40) (by rfl) (by rfl) s
theorem r5_40_l : r5_40.toList = [o5_40_0, o5_40_1, o5_40_2, o5_40_3, o5_40_4, o5_40_5, o5_40_6, o5_40_7, o5_40_8] := nrfl rfl
theorem s5_40_0 : stepA E C B 249 r5_40 o5_40_0 (φ, H) = some (fput φ 180 (fget φ 11), H) := nrfl rfl
theorem s5_40_1 : stepA E C B 249 r5_40 o5_40_1 (φ, H) = some (fput φ 181 (fget φ 12), H) := nrfl rfl
theorem s5_40_2 : stepA E C B 249 r5_40 o5_40_2 (φ, H) = some (fput φ 182 (fget φ 17), H) := nrfl rfl
theorem s5_40_3 : stepA E C B 249 r5_40 o5_40_3 (φ, H) = stp (some 183) φ H (aCall C (fun j => B + j * 249 + 183) true 13 [(fget φ 180), (fget φ 181), (fget φ 182)]) := nrfl rfl
theorem s5_40_4 : stepA E C B 249 r5_40 o5_40_4 (φ, H) = some (fput φ 179 (fget φ 183), H) := nrfl rfl
theorem s5_40_5 : stepA E C B 249 r5_40 o5_40_5 (φ, H) = stp (some 184) φ H (opExtract (fget φ 179) 0) := nrfl rfl
theorem s5_40_6 : stepA E C B 249 r5_40 o5_40_6 (φ, H) = stp (some 185) φ H (opExtract (fget φ 179) 1) := nrfl rfl
theorem s5_40_7 : stepA E C B 249 r5_40 o5_40_7 (φ, H) = some (fput φ 26 (fget φ 184), H) := nrfl rfl
theorem s5_40_8 : stepA E C B 249 r5_40 o5_40_8 (φ, H) = some (fput φ 27 (fget φ 185), H) := nrfl rfl
noncomputable def c5_118 : Code := kR c5_116
noncomputable def c5_119 : Code := kL c5_118
noncomputable def r5_41 : Array Oper := kO c5_119
noncomputable def o5_41_0 : Oper := opN r5_41 0
theorem x5_119 : execA E C (fg 5) B 249 E0 N c5_119 s = regX (runA E C B 249 r5_41 r5_41.toList s) (fun s => gcM E0 [] (forget s.1 [], s.2)) := x_reg (ops := r5_41) (by rfl) (by rfl) s
theorem r5_41_l : r5_41.toList = [o5_41_0] := nrfl rfl
theorem s5_41_0 : stepA E C B 249 r5_41 o5_41_0 (φ, H) = some (fput φ 28 (.int .i64 14), H) := nrfl rfl
noncomputable def c5_120 : Code := kR c5_118
noncomputable def c5_121 : Code := kL c5_120
noncomputable def c5_122 : Code := kL c5_121
noncomputable def r5_42 : Array Oper := kO c5_122
noncomputable def o5_42_0 : Oper := opN r5_42 0
noncomputable def o5_42_1 : Oper := opN r5_42 1
noncomputable def o5_42_2 : Oper := opN r5_42 2
noncomputable def o5_42_3 : Oper := opN r5_42 3
noncomputable def o5_42_4 : Oper := opN r5_42 4
noncomputable def o5_42_5 : Oper := opN r5_42 5
theorem x5_122 : execA E C (fg 5) B 249 E0 N c5_122 s = regX (runA E C B 249 r5_42 r5_42.toList s) (fun s => gcM E0 [186, 187, 188, 189, 190] (forget s.1 [186, 187, 188, 189, 190], s.2)) := x_reg (ops := r5_42) (by rfl) (by rfl) s
theorem r5_42_l : r5_42.toList = [o5_42_0, o5_42_1, o5_42_2, o5_42_3, o5_42_4, o5_42_5] := nrfl rfl
theorem s5_42_0 : stepA E C B 249 r5_42 o5_42_0 (φ, H) = some (fput φ 186 (fget φ 26), H) := nrfl rfl
theorem s5_42_1 : stepA E C B 249 r5_42 o5_42_1 (φ, H) = stp (some 187) φ H (just (aBin E.T .gtr 3 (fget φ 186) (.int .i64 0))) := nrfl rfl
theorem s5_42_2 : stepA E C B 249 r5_42 o5_42_2 (φ, H) = some (fput φ 188 (fget φ 187), H) := nrfl rfl
theorem s5_42_3 : stepA E C B 249 r5_42 o5_42_3 (φ, H) = gd φ 188 false (fun φ => some (fput φ 189 (.tup []), H)) (fun φ => some (fput φ 189 (fget φ 27), H)) := s_gd (j := 2) (oj := o5_42_2) rfl rfl rfl (fun _ => rfl) (fun _ => rfl)
theorem s5_42_4 : stepA E C B 249 r5_42 o5_42_4 (φ, H) = gd φ 188 false (fun φ => some (fput φ 190 (.tup []), H)) (fun φ => stp (some 190) φ H (just (aBin E.T .gtr 3 (fget φ 189) (.int .i64 0)))) := s_gd (j := 2) (oj := o5_42_2) rfl rfl rfl (fun _ => rfl) (fun _ => rfl)
theorem s5_42_5 : stepA E C B 249 r5_42 o5_42_5 (φ, H) = stp (some 191) φ H (opPick (fget φ 188) (.bool true) (fget φ 190)) := nrfl rfl
noncomputable def c5_123 : Code := kR c5_121
noncomputable def c5_124 : Code := kT c5_123
noncomputable def r5_43 : Array Oper := kO c5_124
noncomputable def o5_43_0 : Oper := opN r5_43 0
theorem x5_124 : execA E C (fg 5) B 249 E0 N c5_124 s = regX (runA E C B 249 r5_43 r5_43.toList s) (fun s => gcM E0 [191] (forget s.1 [191], s.2)) := x_reg (ops := r5_43) (by rfl) (by rfl) s
theorem r5_43_l : r5_43.toList = [o5_43_0] := nrfl rfl
theorem s5_43_0 : stepA E C B 249 r5_43 o5_43_0 (φ, H) = some (fput φ 28 (.int .i64 0), H) := nrfl rfl
noncomputable def c5_125 : Code := kE c5_123
theorem x5_125 : execA E C (fg 5) B 249 E0 N c5_125 s = some (.normal, s) := x_skip (by rfl) s
theorem x5_123 : execA E C (fg 5) B 249 E0 N c5_123 (φ, H) = condX (fget φ 191) (execA E C (fg 5) B 249 E0 N c5_124 (φ, H)) (execA E C (fg 5) B 249 E0 N c5_125 (φ, H)) := x_cond (by rfl) _
theorem x5_121 : execA E C (fg 5) B 249 E0 N c5_121 s = seqX (execA E C (fg 5) B 249 E0 N c5_122 s) (execA E C (fg 5) B 249 E0 N c5_123) := x_seq (by rfl) s
noncomputable def c5_126 : Code := kR c5_120
noncomputable def c5_127 : Code := kL c5_126
noncomputable def c5_128 : Code := kL c5_127
noncomputable def r5_44 : Array Oper := kO c5_128
noncomputable def o5_44_0 : Oper := opN r5_44 0
noncomputable def o5_44_1 : Oper := opN r5_44 1
noncomputable def o5_44_2 : Oper := opN r5_44 2
theorem x5_128 : execA E C (fg 5) B 249 E0 N c5_128 s = regX (runA E C B 249 r5_44 r5_44.toList s) (fun s => gcM E0 [22, 28, 191, 192, 193] (forget s.1 [22, 28, 191, 192, 193], s.2)) := x_reg (ops := r5_44) (by rfl) (by rfl) s
theorem r5_44_l : r5_44.toList = [o5_44_0, o5_44_1, o5_44_2] := nrfl rfl
theorem s5_44_0 : stepA E C B 249 r5_44 o5_44_0 (φ, H) = some (fput φ 192 (fget φ 22), H) := nrfl rfl
theorem s5_44_1 : stepA E C B 249 r5_44 o5_44_1 (φ, H) = some (fput φ 193 (fget φ 28), H) := nrfl rfl
theorem s5_44_2 : stepA E C B 249 r5_44 o5_44_2 (φ, H) = stp (some 194) φ H (just (aBin E.T .neq 30 (fget φ 192) (fget φ 193))) := nrfl rfl
noncomputable def c5_129 : Code := kR c5_127
noncomputable def c5_130 : Code := kT c5_129
noncomputable def c5_131 : Code := kL c5_130
noncomputable def r5_45 : Array Oper := kO c5_131
noncomputable def o5_45_0 : Oper := opN r5_45 0
theorem x5_131 : execA E C (fg 5) B 249 E0 N c5_131 s = regX (runA E C B 249 r5_45 r5_45.toList s) (fun s => gcM E0 [11, 12, 17, 26, 27, 194] (forget s.1 [11, 12, 17, 26, 27, 194], s.2)) := x_reg (ops := r5_45) (by rfl) (by rfl) s
theorem r5_45_l : r5_45.toList = [o5_45_0] := nrfl rfl
theorem s5_45_0 : stepA E C B 249 r5_45 o5_45_0 (φ, H) = some (fput φ 10 (.bool false), H) := nrfl rfl
noncomputable def c5_132 : Code := kR c5_130
theorem x5_132 : execA E C (fg 5) B 249 E0 N c5_132 s = some (.ret, s) := x_ret (by rfl) s
theorem x5_130 : execA E C (fg 5) B 249 E0 N c5_130 s = seqX (execA E C (fg 5) B 249 E0 N c5_131 s) (execA E C (fg 5) B 249 E0 N c5_132) := x_seq (by rfl) s
noncomputable def c5_133 : Code := kE c5_129
theorem x5_133 : execA E C (fg 5) B 249 E0 N c5_133 s = some (.normal, s) := x_skip (by rfl) s
theorem x5_129 : execA E C (fg 5) B 249 E0 N c5_129 (φ, H) = condX (fget φ 194) (execA E C (fg 5) B 249 E0 N c5_130 (φ, H)) (execA E C (fg 5) B 249 E0 N c5_133 (φ, H)) := x_cond (by rfl) _
theorem x5_127 : execA E C (fg 5) B 249 E0 N c5_127 s = seqX (execA E C (fg 5) B 249 E0 N c5_128 s) (execA E C (fg 5) B 249 E0 N c5_129) := x_seq (by rfl) s
noncomputable def c5_134 : Code := kR c5_126
noncomputable def c5_135 : Code := kL c5_134
noncomputable def c5_136 : Code := kL c5_135
noncomputable def r5_46 : Array Oper := kO c5_136
noncomputable def o5_46_0 : Oper := opN r5_46 0
noncomputable def o5_46_1 : Oper := opN r5_46 1
theorem x5_136 : execA E C (fg 5) B 249 E0 N c5_136 s = regX (runA E C B 249 r5_46 r5_46.toList s) (fun s => gcM E0 [194, 195] (forget s.1 [194, 195], s.2)) := x_reg (ops := r5_46) (by rfl) (by rfl) s
theorem r5_46_l : r5_46.toList = [o5_46_0, o5_46_1] := nrfl rfl
theorem s5_46_0 : stepA E C B 249 r5_46 o5_46_0 (φ, H) = some (fput φ 195 (fget φ 17), H) := nrfl rfl
theorem s5_46_1 : stepA E C B 249 r5_46 o5_46_1 (φ, H) = stp (some 196) φ H (just (aBin E.T .eql 3 (fget φ 195) (.int .i64 0))) := nrfl rfl
noncomputable def c5_137 : Code := kR c5_135
noncomputable def c5_138 : Code := kT c5_137
noncomputable def c5_139 : Code := kL c5_138
noncomputable def r5_47 : Array Oper := kO c5_139
noncomputable def o5_47_0 : Oper := opN r5_47 0
noncomputable def o5_47_1 : Oper := opN r5_47 1
theorem x5_139 : execA E C (fg 5) B 249 E0 N c5_139 s = regX (runA E C B 249 r5_47 r5_47.toList s) (fun s => gcM E0 [11, 12, 17, 26, 27, 196, 197] (forget s.1 [11, 12, 17, 26, 27, 196, 197], s.2)) := x_reg (ops := r5_47) (by rfl) (by rfl) s
theorem r5_47_l : r5_47.toList = [o5_47_0, o5_47_1] := nrfl rfl
theorem s5_47_0 : stepA E C B 249 r5_47 o5_47_0 (φ, H) = stp (some 197) φ H (aCall C (fun j => B + j * 249 + 197) true 20 []) := nrfl rfl
theorem s5_47_1 : stepA E C B 249 r5_47 o5_47_1 (φ, H) = some (fput φ 10 (fget φ 197), H) := nrfl rfl
noncomputable def c5_140 : Code := kR c5_138
theorem x5_140 : execA E C (fg 5) B 249 E0 N c5_140 s = some (.ret, s) := x_ret (by rfl) s
theorem x5_138 : execA E C (fg 5) B 249 E0 N c5_138 s = seqX (execA E C (fg 5) B 249 E0 N c5_139 s) (execA E C (fg 5) B 249 E0 N c5_140) := x_seq (by rfl) s
noncomputable def c5_141 : Code := kE c5_137
theorem x5_141 : execA E C (fg 5) B 249 E0 N c5_141 s = some (.normal, s) := x_skip (by rfl) s
theorem x5_137 : execA E C (fg 5) B 249 E0 N c5_137 (φ, H) = condX (fget φ 196) (execA E C (fg 5) B 249 E0 N c5_138 (φ, H)) (execA E C (fg 5) B 249 E0 N c5_141 (φ, H)) := x_cond (by rfl) _
theorem x5_135 : execA E C (fg 5) B 249 E0 N c5_135 s = seqX (execA E C (fg 5) B 249 E0 N c5_136 s) (execA E C (fg 5) B 249 E0 N c5_137) := x_seq (by rfl) s
noncomputable def c5_142 : Code := kR c5_134
noncomputable def c5_143 : Code := kL c5_142
noncomputable def r5_48 : Array Oper := kO c5_143
noncomputable def o5_48_0 : Oper := opN r5_48 0
noncomputable def o5_48_1 : Oper := opN r5_48 1
noncomputable def o5_48_2 : Oper := opN r5_48 2
noncomputable def o5_48_3 : Oper := opN r5_48 3
noncomputable def o5_48_4 : Oper := opN r5_48 4
noncomputable def o5_48_5 : Oper := opN r5_48 5
noncomputable def o5_48_6 : Oper := opN r5_48 6
noncomputable def o5_48_7 : Oper := opN r5_48 7
noncomputable def o5_48_8 : Oper := opN r5_48 8
theorem x5_143 : execA E C (fg 5) B 249 E0 N c5_143 s = regX (runA E C B 249 r5_48 r5_48.toList s) (fun s => gcM E0 [196, 198, 199, 200, 201, 202, 203, 204] (forget s.1 [196, 198, 199, 200, 201, 202, 203, 204], s.2)) := x_reg (ops := r5_48) (by rfl) (by rfl) s
theorem r5_48_l : r5_48.toList = [o5_48_0, o5_48_1, o5_48_2, o5_48_3, o5_48_4, o5_48_5, o5_48_6, o5_48_7, o5_48_8] := nrfl rfl
theorem s5_48_0 : stepA E C B 249 r5_48 o5_48_0 (φ, H) = some (fput φ 199 (fget φ 11), H) := nrfl rfl
theorem s5_48_1 : stepA E C B 249 r5_48 o5_48_1 (φ, H) = some (fput φ 200 (fget φ 12), H) := nrfl rfl
theorem s5_48_2 : stepA E C B 249 r5_48 o5_48_2 (φ, H) = some (fput φ 201 (fget φ 17), H) := nrfl rfl
theorem s5_48_3 : stepA E C B 249 r5_48 o5_48_3 (φ, H) = stp (some 202) φ H (aCall C (fun j => B + j * 249 + 202) true 15 [(fget φ 199), (fget φ 200), (fget φ 201), (.int .i64 1)]) := nrfl rfl
theorem s5_48_4 : stepA E C B 249 r5_48 o5_48_4 (φ, H) = some (fput φ 198 (fget φ 202), H) := nrfl rfl
theorem s5_48_5 : stepA E C B 249 r5_48 o5_48_5 (φ, H) = stp (some 203) φ H (opExtract (fget φ 198) 0) := nrfl rfl
theorem s5_48_6 : stepA E C B 249 r5_48 o5_48_6 (φ, H) = stp (some 204) φ H (opExtract (fget φ 198) 1) := nrfl rfl
theorem s5_48_7 : stepA E C B 249 r5_48 o5_48_7 (φ, H) = some (fput φ 29 (fget φ 203), H) := nrfl rfl
theorem s5_48_8 : stepA E C B 249 r5_48 o5_48_8 (φ, H) = some (fput φ 21 (fget φ 204), H) := nrfl rfl
noncomputable def c5_144 : Code := kR c5_142
noncomputable def c5_145 : Code := kL c5_144
noncomputable def r5_49 : Array Oper := kO c5_145
noncomputable def o5_49_0 : Oper := opN r5_49 0
noncomputable def o5_49_1 : Oper := opN r5_49 1
noncomputable def o5_49_2 : Oper := opN r5_49 2
noncomputable def o5_49_3 : Oper := opN r5_49 3
noncomputable def o5_49_4 : Oper := opN r5_49 4
noncomputable def o5_49_5 : Oper := opN r5_49 5
noncomputable def o5_49_6 : Oper := opN r5_49 6
noncomputable def o5_49_7 : Oper := opN r5_49 7
noncomputable def o5_49_8 : Oper := opN r5_49 8
theorem x5_145 : execA E C (fg 5) B 249 E0 N c5_145 s = regX (runA E C B 249 r5_49 r5_49.toList s) (fun s => gcM E0 [205, 206, 207, 208, 209, 210, 211] (forget s.1 [205, 206, 207, 208, 209, 210, 211], s.2)) := x_reg (ops := r5_49) (by rfl) (by rfl) s
theorem r5_49_l : r5_49.toList = [o5_49_0, o5_49_1, o5_49_2, o5_49_3, o5_49_4, o5_49_5, o5_49_6, o5_49_7, o5_49_8] := nrfl rfl
theorem s5_49_0 : stepA E C B 249 r5_49 o5_49_0 (φ, H) = some (fput φ 206 (fget φ 11), H) := nrfl rfl
theorem s5_49_1 : stepA E C B 249 r5_49 o5_49_1 (φ, H) = some (fput φ 207 (fget φ 12), H) := nrfl rfl
theorem s5_49_2 : stepA E C B 249 r5_49 o5_49_2 (φ, H) = some (fput φ 208 (fget φ 17), H) := nrfl rfl
theorem s5_49_3 : stepA E C B 249 r5_49 o5_49_3 (φ, H) = stp (some 209) φ H (aCall C (fun j => B + j * 249 + 209) true 15 [(fget φ 206), (fget φ 207), (fget φ 208), (.int .i64 (-1))]) := nrfl rfl
theorem s5_49_4 : stepA E C B 249 r5_49 o5_49_4 (φ, H) = some (fput φ 205 (fget φ 209), H) := nrfl rfl
theorem s5_49_5 : stepA E C B 249 r5_49 o5_49_5 (φ, H) = stp (some 210) φ H (opExtract (fget φ 205) 0) := nrfl rfl
theorem s5_49_6 : stepA E C B 249 r5_49 o5_49_6 (φ, H) = stp (some 211) φ H (opExtract (fget φ 205) 1) := nrfl rfl
theorem s5_49_7 : stepA E C B 249 r5_49 o5_49_7 (φ, H) = some (fput φ 30 (fget φ 210), H) := nrfl rfl
theorem s5_49_8 : stepA E C B 249 r5_49 o5_49_8 (φ, H) = some (fput φ 24 (fget φ 211), H) := nrfl rfl
noncomputable def c5_146 : Code := kR c5_144
noncomputable def c5_147 : Code := kL c5_146
noncomputable def r5_50 : Array Oper := kO c5_147
noncomputable def o5_50_0 : Oper := opN r5_50 0
noncomputable def o5_50_1 : Oper := opN r5_50 1
noncomputable def o5_50_2 : Oper := opN r5_50 2
noncomputable def o5_50_3 : Oper := opN r5_50 3
noncomputable def o5_50_4 : Oper := opN r5_50 4
noncomputable def o5_50_5 : Oper := opN r5_50 5
noncomputable def o5_50_6 : Oper := opN r5_50 6
noncomputable def o5_50_7 : Oper := opN r5_50 7
noncomputable def o5_50_8 : Oper := opN r5_50 8
noncomputable def o5_50_9 : Oper := opN r5_50 9
noncomputable def o5_50_10 : Oper := opN r5_50 10
noncomputable def o5_50_11 : Oper := opN r5_50 11
noncomputable def o5_50_12 : Oper := opN r5_50 12
noncomputable def o5_50_13 : Oper := opN r5_50 13
noncomputable def o5_50_14 : Oper := opN r5_50 14
noncomputable def o5_50_15 : Oper := opN r5_50 15
noncomputable def o5_50_16 : Oper := opN r5_50 16
noncomputable def o5_50_17 : Oper := opN r5_50 17
noncomputable def o5_50_18 : Oper := opN r5_50 18
noncomputable def o5_50_19 : Oper := opN r5_50 19
noncomputable def o5_50_20 : Oper := opN r5_50 20
noncomputable def o5_50_21 : Oper := opN r5_50 21
noncomputable def o5_50_22 : Oper := opN r5_50 22
noncomputable def o5_50_23 : Oper := opN r5_50 23
noncomputable def o5_50_24 : Oper := opN r5_50 24
noncomputable def o5_50_25 : Oper := opN r5_50 25
noncomputable def o5_50_26 : Oper := opN r5_50 26
noncomputable def o5_50_27 : Oper := opN r5_50 27
noncomputable def o5_50_28 : Oper := opN r5_50 28
noncomputable def o5_50_29 : Oper := opN r5_50 29
noncomputable def o5_50_30 : Oper := opN r5_50 30
noncomputable def o5_50_31 : Oper := opN r5_50 31
noncomputable def o5_50_32 : Oper := opN r5_50 32
noncomputable def o5_50_33 : Oper := opN r5_50 33
noncomputable def o5_50_34 : Oper := opN r5_50 34
noncomputable def o5_50_35 : Oper := opN r5_50 35
noncomputable def o5_50_36 : Oper := opN r5_50 36
noncomputable def o5_50_37 : Oper := opN r5_50 37
theorem x5_147 : execA E C (fg 5) B 249 E0 N c5_147 s = regX (drawA E C B 249 r5_50 s) (fun s => gcM E0 [11, 12, 17, 21, 24, 26, 27, 29, 30, 212, 213, 214, 215, 216, 217, 218, 219, 220, 221, 222, 223, 224, 225, 226, 227, 228, 229, 230, 231, 232, 233, 234, 235, 236, 237, 238, 239, 240, 241, 242, 243, 244, 245, 246, 247, 248] (forget s.1 [11, 12, 17, 21, 24, 26, 27, 29, 30, 212, 213, 214, 215, 216, 217, 218, 219, 220, 221, 222, 223, 224, 225, 226, 227, 228, 229, 230, 231, 232, 233, 234, 235, 236, 237, 238, 239, 240, 241, 242, 243, 244, 245, 246, 247, 248], s.2)) := x_draw (ops := r5_50) (by rfl) (by rfl) s
theorem r5_50_l : r5_50.toList = [o5_50_0, o5_50_1, o5_50_2, o5_50_3, o5_50_4, o5_50_5, o5_50_6, o5_50_7, o5_50_8, o5_50_9, o5_50_10, o5_50_11, o5_50_12, o5_50_13, o5_50_14, o5_50_15, o5_50_16, o5_50_17, o5_50_18, o5_50_19, o5_50_20, o5_50_21, o5_50_22, o5_50_23, o5_50_24, o5_50_25, o5_50_26, o5_50_27, o5_50_28, o5_50_29, o5_50_30, o5_50_31, o5_50_32, o5_50_33, o5_50_34, o5_50_35, o5_50_36, o5_50_37] := nrfl rfl
theorem r5_50_st : statOk r5_50 = true := by kernel_rfl
theorem r5_50_dr : drawA E C B 249 r5_50 s = if neat 249 s = true then drX r5_50 (runT E C B 249 r5_50 r5_50.toList 0 s) else none := draw_eq r5_50_st s
theorem r5_50_an (l : List (Nat × Tr)) : dynOk r5_50 l = (!writing l || dynPairs [[], [0], [0, 1], [0, 1, 2], [0, 1, 2, 3], [0, 1, 2, 3, 4], [0, 1, 2, 3, 4, 5], [0, 1, 2, 3, 4, 5, 6], [0, 1, 2, 3, 4, 5, 6], [0, 1, 2, 3, 4, 5, 6, 7, 8], [0, 1, 2, 3, 4, 5, 6, 7, 8, 9], [0, 1, 2, 3, 4, 5, 6, 7, 8, 9, 10], [0, 1, 2, 3, 4, 5, 6, 7, 8, 9, 10, 11], [0, 1, 2, 3, 4, 5, 6, 7, 8, 9, 10, 11], [0, 1, 2, 3, 4, 5, 6, 7, 8, 9, 10, 11, 12, 13], [0, 1, 2, 3, 4, 5, 6, 7, 8, 9, 10, 11, 12, 13, 14], [0, 1, 2, 3, 4, 5, 6, 7, 8, 9, 10, 11, 12, 13, 14, 15], [0, 1, 2, 3, 4, 5, 6, 7, 8, 9, 10, 11, 12, 13, 14, 15, 16], [0, 1, 2, 3, 4, 5, 6, 7, 8, 9, 10, 11, 12, 13, 14, 15, 16], [0, 1, 2, 3, 4, 5, 6, 7, 8, 9, 10, 11, 12, 13, 14, 15, 16, 17, 18], [0, 1, 2, 3, 4, 5, 6, 7, 8, 9, 10, 11, 12, 13, 14, 15, 16], [0, 1, 2, 3, 4, 5, 6, 7, 8, 9, 10, 11, 12, 13, 14, 15, 16], [0, 1, 2, 3, 4, 5, 6, 7, 8, 9, 10, 11, 12, 13, 14, 15, 16, 21], [0, 1, 2, 3, 4, 5, 6, 7, 8, 9, 10, 11, 12, 13, 14, 15, 16, 20, 21, 22], [0, 1, 2, 3, 4, 5, 6, 7, 8, 9, 10, 11, 12, 13, 14, 15, 16, 20, 21, 22, 23], [0, 1, 2, 3, 4, 5, 6, 7, 8, 9, 10, 11, 12, 13, 14, 15, 16, 20, 21, 22, 23, 24], [0, 1, 2, 3, 4, 5, 6, 7, 8, 9, 10, 11, 12, 13, 14, 15, 16, 20, 21, 22, 23, 24, 25], [0, 1, 2, 3, 4, 5, 6, 7, 8, 9, 10, 11, 12, 13, 14, 15, 16], [0, 1, 2, 3, 4, 5, 6, 7, 8, 9, 10, 11, 12, 13, 14, 15, 16], [0, 1, 2, 3, 4, 5, 6, 7, 8, 9, 10, 11, 12, 13, 14, 15, 16, 27, 28], [0, 1, 2, 3, 4, 5, 6, 7, 8, 9, 10, 11, 12, 13, 14, 15, 16, 27, 28, 29], [0, 1, 2, 3, 4, 5, 6, 7, 8, 9, 10, 11, 12, 13, 14, 15, 16, 20, 21, 22, 23, 24, 25, 26, 27, 28, 29, 30], [0, 1, 2, 3, 4, 5, 6, 7, 8, 9, 10, 11, 12, 13, 14, 15, 16, 17, 18, 19, 20, 21, 22, 23, 24, 25, 26, 27, 28, 29, 30, 31], [0, 1, 2, 3, 4, 5, 6, 7, 8, 9, 10, 11, 12, 13, 14, 15, 16, 17, 18, 19, 20, 21, 22, 23, 24, 25, 26, 27, 28, 29, 30, 31, 32], [0, 1, 2, 3, 4, 5, 6, 7, 8, 9, 10, 11, 12, 13, 14, 15, 16, 17, 18, 19, 20, 21, 22, 23, 24, 25, 26, 27, 28, 29, 30, 31, 32, 33], [0, 1, 2, 3, 4, 5, 6, 7, 8, 9, 10, 11, 12, 13, 14, 15, 16, 17, 18, 19, 20, 21, 22, 23, 24, 25, 26, 27, 28, 29, 30, 31, 32, 33, 34], [0, 1, 2, 3, 4, 5, 6, 7, 8, 9, 10, 11, 12, 13, 14, 15, 16, 17, 18, 19, 20, 21, 22, 23, 24, 25, 26, 27, 28, 29, 30, 31, 32, 33, 34, 35], [0, 1, 2, 3, 4, 5, 6, 7, 8, 9, 10, 11, 12, 13, 14, 15, 16, 17, 18, 19, 20, 21, 22, 23, 24, 25, 26, 27, 28, 29, 30, 31, 32, 33, 34, 35, 36]] (touching l)) := dynOk_eq (by kernel_rfl) l
theorem s5_50_0 : stepT E C B 249 r5_50 o5_50_0 (φ, H) = some ((fput φ 212 (fget φ 21), H), ⟨false, [], []⟩) := stT_go rfl (goT_mv rfl rfl)
theorem s5_50_1 : stepT E C B 249 r5_50 o5_50_1 (φ, H) = stpT (some 213) φ H (just (aBin E.T .eql 30 (fget φ 212) (.int .i64 0))) := stT_go rfl (goT_R rfl rfl)
theorem s5_50_2 : stepT E C B 249 r5_50 o5_50_2 (φ, H) = some ((fput φ 214 (fget φ 213), H), ⟨false, [], []⟩) := stT_go rfl (goT_mv rfl rfl)
theorem s5_50_3 : stepT E C B 249 r5_50 o5_50_3 (φ, H) = gdT φ 214 true (fun φ => (some (fput φ 215 (.tup []), H)).map fun s => (s, ⟨false, [], []⟩)) (fun φ => some ((fput φ 215 (fget φ 24), H), ⟨false, [], []⟩)) := stT_gd (j := 2) (oj := o5_50_2) rfl rfl rfl (fun _ => rfl) (fun _ => goT_mv rfl rfl)
theorem s5_50_4 : stepT E C B 249 r5_50 o5_50_4 (φ, H) = gdT φ 214 true (fun φ => (some (fput φ 216 (.tup []), H)).map fun s => (s, ⟨false, [], []⟩)) (fun φ => stpT (some 216) φ H (just (aBin E.T .eql 30 (fget φ 215) (.int .i64 0)))) := stT_gd (j := 2) (oj := o5_50_2) rfl rfl rfl (fun _ => rfl) (fun _ => goT_R rfl rfl)
theorem s5_50_5 : stepT E C B 249 r5_50 o5_50_5 (φ, H) = stpT (some 217) φ H (opPick (fget φ 214) (fget φ 216) (.bool false)) := stT_go rfl (goT_R rfl rfl)
theorem s5_50_6 : stepT E C B 249 r5_50 o5_50_6 (φ, H) = some ((fput φ 218 (fget φ 217), H), ⟨false, [], []⟩) := stT_go rfl (goT_mv rfl rfl)
theorem s5_50_7 : stepT E C B 249 r5_50 o5_50_7 (φ, H) = gdT φ 218 true (fun φ => (some (fput φ 219 (.tup []), H)).map fun s => (s, ⟨false, [], []⟩)) (fun φ => some ((fput φ 219 (fget φ 29), H), ⟨false, [], []⟩)) := stT_gd (j := 6) (oj := o5_50_6) rfl rfl rfl (fun _ => rfl) (fun _ => goT_mv rfl rfl)
theorem s5_50_8 : stepT E C B 249 r5_50 o5_50_8 (φ, H) = gdT φ 218 true (fun φ => (some (fput φ 220 (.tup []), H)).map fun s => (s, ⟨false, [], []⟩)) (fun φ => some ((fput φ 220 (fget φ 26), H), ⟨false, [], []⟩)) := stT_gd (j := 6) (oj := o5_50_6) rfl rfl rfl (fun _ => rfl) (fun _ => goT_mv rfl rfl)
theorem s5_50_9 : stepT E C B 249 r5_50 o5_50_9 (φ, H) = gdT φ 218 true (fun φ => (some (fput φ 221 (.tup []), H)).map fun s => (s, ⟨false, [], []⟩)) (fun φ => stpT (some 221) φ H (just (aBin E.T .eql 3 (fget φ 219) (fget φ 220)))) := stT_gd (j := 6) (oj := o5_50_6) rfl rfl rfl (fun _ => rfl) (fun _ => goT_R rfl rfl)
theorem s5_50_10 : stepT E C B 249 r5_50 o5_50_10 (φ, H) = stpT (some 222) φ H (opPick (fget φ 218) (fget φ 221) (.bool false)) := stT_go rfl (goT_R rfl rfl)
theorem s5_50_11 : stepT E C B 249 r5_50 o5_50_11 (φ, H) = some ((fput φ 223 (fget φ 222), H), ⟨false, [], []⟩) := stT_go rfl (goT_mv rfl rfl)
theorem s5_50_12 : stepT E C B 249 r5_50 o5_50_12 (φ, H) = gdT φ 223 true (fun φ => (some (fput φ 224 (.tup []), H)).map fun s => (s, ⟨false, [], []⟩)) (fun φ => some ((fput φ 224 (fget φ 30), H), ⟨false, [], []⟩)) := stT_gd (j := 11) (oj := o5_50_11) rfl rfl rfl (fun _ => rfl) (fun _ => goT_mv rfl rfl)
theorem s5_50_13 : stepT E C B 249 r5_50 o5_50_13 (φ, H) = gdT φ 223 true (fun φ => (some (fput φ 225 (.tup []), H)).map fun s => (s, ⟨false, [], []⟩)) (fun φ => some ((fput φ 225 (fget φ 27), H), ⟨false, [], []⟩)) := stT_gd (j := 11) (oj := o5_50_11) rfl rfl rfl (fun _ => rfl) (fun _ => goT_mv rfl rfl)
theorem s5_50_14 : stepT E C B 249 r5_50 o5_50_14 (φ, H) = gdT φ 223 true (fun φ => (some (fput φ 226 (.tup []), H)).map fun s => (s, ⟨false, [], []⟩)) (fun φ => stpT (some 226) φ H (just (aBin E.T .eql 3 (fget φ 224) (fget φ 225)))) := stT_gd (j := 11) (oj := o5_50_11) rfl rfl rfl (fun _ => rfl) (fun _ => goT_R rfl rfl)
theorem s5_50_15 : stepT E C B 249 r5_50 o5_50_15 (φ, H) = stpT (some 227) φ H (opPick (fget φ 223) (fget φ 226) (.bool false)) := stT_go rfl (goT_R rfl rfl)
theorem s5_50_16 : stepT E C B 249 r5_50 o5_50_16 (φ, H) = some ((fput φ 228 (fget φ 227), H), ⟨false, [], []⟩) := stT_go rfl (goT_mv rfl rfl)
theorem s5_50_17 : stepT E C B 249 r5_50 o5_50_17 (φ, H) = gdT φ 228 true (fun φ => (some (fput φ 229 (.tup []), H)).map fun s => (s, ⟨false, [], []⟩)) (fun φ => some ((fput φ 229 (fget φ 29), H), ⟨false, [], []⟩)) := stT_gd (j := 16) (oj := o5_50_16) rfl rfl rfl (fun _ => rfl) (fun _ => goT_mv rfl rfl)
theorem s5_50_18 : stepT E C B 249 r5_50 o5_50_18 (φ, H) = gdT φ 228 true (fun φ => (some (fput φ 230 (.tup []), H)).map fun s => (s, ⟨false, [], []⟩)) (fun φ => some ((fput φ 230 (fget φ 30), H), ⟨false, [], []⟩)) := stT_gd (j := 16) (oj := o5_50_16) rfl rfl rfl (fun _ => rfl) (fun _ => goT_mv rfl rfl)
theorem s5_50_19 : stepT E C B 249 r5_50 o5_50_19 (φ, H) = gdT φ 228 true (fun φ => (some (fput φ 231 (.tup []), H)).map fun s => (s, ⟨false, [], []⟩)) (fun φ => stpT (some 231) φ H (just (aBin E.T .add 3 (fget φ 229) (fget φ 230)))) := stT_gd (j := 16) (oj := o5_50_16) rfl rfl rfl (fun _ => rfl) (fun _ => goT_R rfl rfl)
theorem s5_50_20 : stepT E C B 249 r5_50 o5_50_20 (φ, H) = gdT φ 228 true (fun φ => (some (fput φ 232 (.tup []), H)).map fun s => (s, ⟨false, [], []⟩)) (fun φ => some ((fput φ 232 (fget φ 11), H), ⟨false, [], []⟩)) := stT_gd (j := 16) (oj := o5_50_16) rfl rfl rfl (fun _ => rfl) (fun _ => goT_mv rfl rfl)
theorem s5_50_21 : stepT E C B 249 r5_50 o5_50_21 (φ, H) = gdT φ 228 true (fun φ => (some (fput φ 233 (.tup []), H)).map fun s => (s, ⟨false, [], []⟩)) (fun φ => some ((fput φ 233 (fget φ 17), H), ⟨false, [], []⟩)) := stT_gd (j := 16) (oj := o5_50_16) rfl rfl rfl (fun _ => rfl) (fun _ => goT_mv rfl rfl)
theorem s5_50_22 : stepT E C B 249 r5_50 o5_50_22 (φ, H) = gdT φ 228 true (fun φ => (some (fput φ 234 (.tup []), H)).map fun s => (s, ⟨false, [], []⟩)) (fun φ => stpT (some 234) φ H (just (aBin E.T .sub 3 (fget φ 233) (.int .i64 1)))) := stT_gd (j := 16) (oj := o5_50_16) rfl rfl rfl (fun _ => rfl) (fun _ => goT_R rfl rfl)
theorem s5_50_23 : stepT E C B 249 r5_50 o5_50_23 (φ, H) = gdT φ 228 true (fun φ => (some (fput φ 235 (.tup []), H)).map fun s => (s, ⟨false, [], []⟩)) (fun φ => stpT (some 235) φ H (just (aIndexAddr E.T 27 (fget φ 232) (fget φ 234)))) := stT_gd (j := 16) (oj := o5_50_16) rfl rfl rfl (fun _ => rfl) (fun _ => goT_R rfl rfl)
theorem s5_50_24 : stepT E C B 249 r5_50 o5_50_24 (φ, H) = gdT φ 228 true (fun φ => (some (fput φ 236 (.tup []), H)).map fun s => (s, ⟨false, [], []⟩)) (fun φ => stpT (some 236) φ H (just (aFieldAddr E.T 44 (fget φ 235) 0))) := stT_gd (j := 16) (oj := o5_50_16) rfl rfl rfl (fun _ => rfl) (fun _ => goT_R rfl rfl)
theorem s5_50_25 : stepT E C B 249 r5_50 o5_50_25 (φ, H) = gdT φ 228 true (fun φ => (some (fput φ 237 (.tup []), H)).map fun s => (s, ⟨false, [], []⟩)) (fun φ => stpT (some 237) φ H (just (aLoad E.T 3 (fget φ 236)))) := stT_gd (j := 16) (oj := o5_50_16) rfl rfl rfl (fun _ => rfl) (fun _ => goT_R rfl rfl)
theorem s5_50_26 : stepT E C B 249 r5_50 o5_50_26 (φ, H) = gdT φ 228 true (fun φ => (some (fput φ 238 (.tup []), H)).map fun s => (s, ⟨false, [], []⟩)) (fun φ => stpT (some 238) φ H (just (aBin E.T .mul 3 (.int .i64 (-2)) (fget φ 237)))) := stT_gd (j := 16) (oj := o5_50_16) rfl rfl rfl (fun _ => rfl) (fun _ => goT_R rfl rfl)
theorem s5_50_27 : stepT E C B 249 r5_50 o5_50_27 (φ, H) = gdT φ 228 true (fun φ => (some (fput φ 239 (.tup []), H)).map fun s => (s, ⟨false, [], []⟩)) (fun φ => some ((fput φ 239 (fget φ 12), H), ⟨false, [], []⟩)) := stT_gd (j := 16) (oj := o5_50_16) rfl rfl rfl (fun _ => rfl) (fun _ => goT_mv rfl rfl)
theorem s5_50_28 : stepT E C B 249 r5_50 o5_50_28 (φ, H) = gdT φ 228 true (fun φ => (some (fput φ 240 (.tup []), H)).map fun s => (s, ⟨false, [], []⟩)) (fun φ => some ((fput φ 240 (fget φ 17), H), ⟨false, [], []⟩)) := stT_gd (j := 16) (oj := o5_50_16) rfl rfl rfl (fun _ => rfl) (fun _ => goT_mv rfl rfl)
theorem s5_50_29 : stepT E C B 249 r5_50 o5_50_29 (φ, H) = gdT φ 228 true (fun φ => (some (fput φ 241 (.tup []), H)).map fun s => (s, ⟨false, [], []⟩)) (fun φ => stpT (some 241) φ H (just (aSlice E.T 36 (fget φ 239) (some (fget φ 240)) none none))) := stT_gd (j := 16) (oj := o5_50_16) rfl rfl rfl (fun _ => rfl) (fun _ => goT_R rfl rfl)
theorem s5_50_30 : stepT E C B 249 r5_50 o5_50_30 (φ, H) = gdT φ 228 true (fun φ => (some (fput φ 242 (.tup []), H)).map fun s => (s, ⟨false, [], []⟩)) (fun φ => stpT (some 242) φ H (aCall C (fun j => B + j * 249 + 242) true 25 [(fget φ 241)])) := stT_gd (j := 16) (oj := o5_50_16) rfl rfl rfl (fun _ => rfl) (fun _ => goT_R rfl rfl)
theorem s5_50_31 : stepT E C B 249 r5_50 o5_50_31 (φ, H) = gdT φ 228 true (fun φ => (some (fput φ 243 (.tup []), H)).map fun s => (s, ⟨false, [], []⟩)) (fun φ => stpT (some 243) φ H (just (aBin E.T .mul 3 (fget φ 238) (fget φ 242)))) := stT_gd (j := 16) (oj := o5_50_16) rfl rfl rfl (fun _ => rfl) (fun _ => goT_R rfl rfl)
theorem s5_50_32 : stepT E C B 249 r5_50 o5_50_32 (φ, H) = gdT φ 228 true (fun φ => (some (fput φ 244 (.tup []), H)).map fun s => (s, ⟨false, [], []⟩)) (fun φ => stpT (some 244) φ H (just (aBin E.T .eql 3 (fget φ 231) (fget φ 243)))) := stT_gd (j := 16) (oj := o5_50_16) rfl rfl rfl (fun _ => rfl) (fun _ => goT_R rfl rfl)
theorem s5_50_33 : stepT E C B 249 r5_50 o5_50_33 (φ, H) = stpT (some 245) φ H (opPick (fget φ 228) (fget φ 244) (.bool false)) := stT_go rfl (goT_R rfl rfl)
theorem s5_50_34 : stepT E C B 249 r5_50 o5_50_34 (φ, H) = some ((fput φ 246 (fget φ 245), H), ⟨false, [], []⟩) := stT_go rfl (goT_mv rfl rfl)
theorem s5_50_35 : stepT E C B 249 r5_50 o5_50_35 (φ, H) = gdT φ 246 true (fun φ => (some (fput φ 247 (.tup []), H)).map fun s => (s, ⟨false, [], []⟩)) (fun φ => stpT (some 247) φ H (aCall C (fun j => B + j * 249 + 247) true 20 [])) := stT_gd (j := 34) (oj := o5_50_34) rfl rfl rfl (fun _ => rfl) (fun _ => goT_R rfl rfl)
theorem s5_50_36 : stepT E C B 249 r5_50 o5_50_36 (φ, H) = stpT (some 248) φ H (opPick (fget φ 246) (fget φ 247) (.bool false)) := stT_go rfl (goT_R rfl rfl)
theorem s5_50_37 : stepT E C B 249 r5_50 o5_50_37 (φ, H) = some ((fput φ 10 (fget φ 248), H), ⟨false, [], []⟩) := stT_go rfl (goT_mv rfl rfl)
noncomputable def c5_148 : Code := kR c5_146
theorem x5_148 : execA E C (fg 5) B 249 E0 N c5_148 s = some (.ret, s) := x_ret (by rfl) s
theorem x5_146 : execA E C (fg 5) B 249 E0 N c5_146 s = seqX (execA E C (fg 5) B 249 E0 N c5_147 s) (execA E C (fg 5) B 249 E0 N c5_148) := x_seq (by rfl) s
theorem x5_144 : execA E C (fg 5) B 249 E0 N c5_144 s = seqX (execA E C (fg 5) B 249 E0 N c5_145 s) (execA E C (fg 5) B 249 E0 N c5_146) := x_seq (by rfl) s
theorem x5_142 : execA E C (fg 5) B 249 E0 N c5_142 s = seqX (execA E C (fg 5) B 249 E0 N c5_143 s) (execA E C (fg 5) B 249 E0 N c5_144) := x_seq (by rfl) s
theorem x5_134 : execA E C (fg 5) B 249 E0 N c5_134 s = seqX (execA E C (fg 5) B 249 E0 N c5_135 s) (execA E C (fg 5) B 249 E0 N c5_142) := x_seq (by rfl) s
theorem x5_126 : execA E C (fg 5) B 249 E0 N c5_126 s = seqX (execA E C (fg 5) B 249 E0 N c5_127 s) (execA E C (fg 5) B 249 E0 N c5_134) := x_seq (by rfl) s
theorem x5_120 : execA E C (fg 5) B 249 E0 N c5_120 s = seqX (execA E C (fg 5) B 249 E0 N c5_121 s) (execA E C (fg 5) B 249 E0 N c5_126) := x_seq (by rfl) s
theorem x5_118 : execA E C (fg 5) B 249 E0 N c5_118 s = seqX (execA E C (fg 5) B 249 E0 N c5_119 s) (execA E C (fg 5) B 249 E0 N c5_120) := x_seq (by rfl) s
theorem x5_116 : execA E C (fg 5) B 249 E0 N c5_116 s = seqX (execA E C (fg 5) B 249 E0 N c5_117 s) (execA E C (fg 5) B 249 E0 N c5_118) := x_seq (by rfl) s
theorem x5_102 : execA E C (fg 5) B 249 E0 N c5_102 s = seqX (execA E C (fg 5) B 249 E0 N c5_103 s) (execA E C (fg 5) B 249 E0 N c5_116) := x_seq (by rfl) s
theorem x5_94 : execA E C (fg 5) B 249 E0 N c5_94 s = seqX (execA E C (fg 5) B 249 E0 N c5_95 s) (execA E C (fg 5) B 249 E0 N c5_102) := x_seq (by rfl) s
theorem x5_88 : execA E C (fg 5) B 249 E0 N c5_88 s = seqX (execA E C (fg 5) B 249 E0 N c5_89 s) (execA E C (fg 5) B 249 E0 N c5_94) := x_seq (by rfl) s
theorem x5_80 : execA E C (fg 5) B 249 E0 N c5_80 s = seqX (execA E C (fg 5) B 249 E0 N c5_81 s) (execA E C (fg 5) B 249 E0 N c5_88) := x_seq (by rfl) s
theorem x5_65 : execA E C (fg 5) B 249 E0 N c5_65 s = seqX (execA E C (fg 5) B 249 E0 N c5_66 s) (execA E C (fg 5) B 249 E0 N c5_80) := x_seq (by rfl) s
theorem x5_63 : execA E C (fg 5) B 249 E0 N c5_63 s = seqX (execA E C (fg 5) B 249 E0 N c5_64 s) (execA E C (fg 5) B 249 E0 N c5_65) := x_seq (by rfl) s
theorem x5_61 : execA E C (fg 5) B 249 E0 N c5_61 s = seqX (execA E C (fg 5) B 249 E0 N c5_62 s) (execA E C (fg 5) B 249 E0 N c5_63) := x_seq (by rfl) s
theorem x5_59 : execA E C (fg 5) B 249 E0 N c5_59 s = seqX (execA E C (fg 5) B 249 E0 N c5_60 s) (execA E C (fg 5) B 249 E0 N c5_61) := x_seq (by rfl) s
theorem x5_57 : execA E C (fg 5) B 249 E0 N c5_57 s = seqX (execA E C (fg 5) B 249 E0 N c5_58 s) (execA E C (fg 5) B 249 E0 N c5_59) := x_seq (by rfl) s
theorem x5_51 : execA E C (fg 5) B 249 E0 N c5_51 s = seqX (execA E C (fg 5) B 249 E0 N c5_52 s) (execA E C (fg 5) B 249 E0 N c5_57) := x_seq (by rfl) s
theorem x5_49 : execA E C (fg 5) B 249 E0 N c5_49 s = seqX (execA E C (fg 5) B 249 E0 N c5_50 s) (execA E C (fg 5) B 249 E0 N c5_51) := x_seq (by rfl) s
theorem x5_47 : execA E C (fg 5) B 249 E0 N c5_47 s = seqX (execA E C (fg 5) B 249 E0 N c5_48 s) (execA E C (fg 5) B 249 E0 N c5_49) := x_seq (by rfl) s
theorem x5_45 : execA E C (fg 5) B 249 E0 N c5_45 s = seqX (execA E C (fg 5) B 249 E0 N c5_46 s) (execA E C (fg 5) B 249 E0 N c5_47) := x_seq (by rfl) s
theorem x5_39 : execA E C (fg 5) B 249 E0 N c5_39 s = seqX (execA E C (fg 5) B 249 E0 N c5_40 s) (execA E C (fg 5) B 249 E0 N c5_45) := x_seq (by rfl) s
theorem x5_8 : execA E C (fg 5) B 249 E0 N c5_8 s = seqX (execA E C (fg 5) B 249 E0 N c5_9 s) (execA E C (fg 5) B 249 E0 N c5_39) := x_seq (by rfl) s
theorem x5_6 : execA E C (fg 5) B 249 E0 N c5_6 s = seqX (execA E C (fg 5) B 249 E0 N c5_7 s) (execA E C (fg 5) B 249 E0 N c5_8) := x_seq (by rfl) s
theorem x5_4 : execA E C (fg 5) B 249 E0 N c5_4 s = seqX (execA E C (fg 5) B 249 E0 N c5_5 s) (execA E C (fg 5) B 249 E0 N c5_6) := x_seq (by rfl) s
theorem x5_2 : execA E C (fg 5) B 249 E0 N c5_2 s = seqX (execA E C (fg 5) B 249 E0 N c5_3 s) (execA E C (fg 5) B 249 E0 N c5_4) := x_seq (by rfl) s
theorem x5_0 : execA E C (fg 5) B 249 E0 N c5_0 s = seqX (execA E C (fg 5) B 249 E0 N c5_1 s) (execA E C (fg 5) B 249 E0 N c5_2) := x_seq (by rfl) s
theorem fi_5 : fInfo E 5 = some ⟨249, #[.tmp 10], c5_0⟩ := nrfl rfl
theorem b_5 (args : List AV) : bodyA E C fg N 5 args H B = bodyX E [.tmp 10] (execA E C (fg 5) B 249 H N c5_0 (frame0 args 0 [], H)) := bodyA_eq fi_5 args H
end Go.AM.Ytikchlfbjdfioaa
