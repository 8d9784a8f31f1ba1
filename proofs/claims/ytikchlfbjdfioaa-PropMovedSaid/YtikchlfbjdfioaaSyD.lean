/- Of each function the parts of its text and an equation for each of them: printed by sym.py (own work). -/
import Derived.Test.YtikchlfbjdfioaaAmSy
import Derived.Test.YtikchlfbjdfioaaEnv
import Derived.KernelRfl
import Derived.Test.YtikchlfbjdfioaaSyC

namespace Go.AM.Ytikchlfbjdfioaa
open Go Go.AM
set_option maxRecDepth 100000
variable {C : Callee} {B N : Nat} {E0 : AHeap} (φ : AFr) (H : AHeap) (s : St)

/-! ### f12: novaculite/novaculitelaw07.truth -/
noncomputable def c12_0 : Code := kBody Proofs.Try.f12
noncomputable def c12_1 : Code := kL c12_0
noncomputable def r12_0 : Array Oper := kO c12_1
noncomputable def o12_0_0 : Oper := opN r12_0 0
noncomputable def o12_0_1 : Oper := opN r12_0 1
theorem x12_1 : execA E C (fg 12) B 34 E0 N c12_1 s = regX (runA E C B 34 r12_0 r12_0.toList s) (fun s => gcM E0 [1, 4] (forget s.1 [1, 4], s.2)) := x_reg (ops := r12_0) (by rfl) (by rfl) s
theorem r12_0_l : r12_0.toList = [o12_0_0, o12_0_1] := nrfl rfl
theorem s12_0_0 : stepA E C B 34 r12_0 o12_0_0 (φ, H) = stp (some 3) φ H (opBox (B + 3) (acells (fget φ 1))) := nrfl rfl
theorem s12_0_1 : stepA E C B 34 r12_0 o12_0_1 (φ, H) = some (fput φ 4 (.nilsl), H) := nrfl rfl
noncomputable def c12_2 : Code := kR c12_0
noncomputable def c12_3 : Code := kL c12_2
noncomputable def r12_1 : Array Oper := kO c12_3
noncomputable def o12_1_0 : Oper := opN r12_1 0
theorem x12_3 : execA E C (fg 12) B 34 E0 N c12_3 s = regX (runA E C B 34 r12_1 r12_1.toList s) (fun s => gcM E0 [] (forget s.1 [], s.2)) := x_reg (ops := r12_1) (by rfl) (by rfl) s
theorem r12_1_l : r12_1.toList = [o12_1_0] := nrfl rfl
theorem s12_1_0 : stepA E C B 34 r12_1 o12_1_0 (φ, H) = some (fput φ 5 (.nilsl), H) := nrfl rfl
noncomputable def c12_4 : Code := kR c12_2
noncomputable def c12_5 : Code := kL c12_4
noncomputable def c12_6 : Code := kL c12_5
noncomputable def r12_2 : Array Oper := kO c12_6
noncomputable def o12_2_0 : Oper := opN r12_2 0
noncomputable def o12_2_1 : Oper := opN r12_2 1
noncomputable def o12_2_2 : Oper := opN r12_2 2
theorem x12_6 : execA E C (fg 12) B 34 E0 N c12_6 s = regX (runA E C B 34 r12_2 r12_2.toList s) (fun s => gcM E0 [0] (forget s.1 [0], s.2)) := x_reg (ops := r12_2) (by rfl) (by rfl) s
theorem r12_2_l : r12_2.toList = [o12_2_0, o12_2_1, o12_2_2] := nrfl rfl
theorem s12_2_0 : stepA E C B 34 r12_2 o12_2_0 (φ, H) = some (fput φ 8 (fget φ 0), H) := nrfl rfl
theorem s12_2_1 : stepA E C B 34 r12_2 o12_2_1 (φ, H) = stp (some 9) φ H (aBuiltin E.T (B + 9) .len #[27] [(fget φ 8)]) := nrfl rfl
theorem s12_2_2 : stepA E C B 34 r12_2 o12_2_2 (φ, H) = some (fput φ 10 (.int .i64 0), H) := nrfl rfl
noncomputable def c12_7 : Code := kR c12_5
noncomputable def c12_8 : Code := kB c12_7
noncomputable def c12_9 : Code := kB c12_8
noncomputable def c12_10 : Code := kL c12_9
noncomputable def r12_3 : Array Oper := kO c12_10
noncomputable def o12_3_0 : Oper := opN r12_3 0
theorem x12_10 : execA E C (fg 12) B 34 E0 N c12_10 s = regX (runA E C B 34 r12_3 r12_3.toList s) (fun s => gcM E0 [] (forget s.1 [], s.2)) := x_reg (ops := r12_3) (by rfl) (by rfl) s
theorem r12_3_l : r12_3.toList = [o12_3_0] := nrfl rfl
theorem s12_3_0 : stepA E C B 34 r12_3 o12_3_0 (φ, H) = stp (some 11) φ H (just (aBin E.T .lss 3 (fget φ 10) (fget φ 9))) := nrfl rfl
noncomputable def c12_11 : Code := kR c12_9
noncomputable def c12_12 : Code := kL c12_11
noncomputable def c12_13 : Code := kT c12_12
theorem x12_13 : execA E C (fg 12) B 34 E0 N c12_13 s = some (.normal, s) := x_skip (by rfl) s
noncomputable def c12_14 : Code := kE c12_12
theorem x12_14 : execA E C (fg 12) B 34 E0 N c12_14 s = some (.exit 0, s) := x_exit (by rfl) s
theorem x12_12 : execA E C (fg 12) B 34 E0 N c12_12 (φ, H) = condX (fget φ 11) (execA E C (fg 12) B 34 E0 N c12_13 (φ, H)) (execA E C (fg 12) B 34 E0 N c12_14 (φ, H)) := x_cond (by rfl) _
noncomputable def c12_15 : Code := kR c12_11
noncomputable def c12_16 : Code := kL c12_15
noncomputable def c12_17 : Code := kB c12_16
noncomputable def c12_18 : Code := kL c12_17
noncomputable def r12_4 : Array Oper := kO c12_18
noncomputable def o12_4_0 : Oper := opN r12_4 0
noncomputable def o12_4_1 : Oper := opN r12_4 1
noncomputable def o12_4_2 : Oper := opN r12_4 2
noncomputable def o12_4_3 : Oper := opN r12_4 3
noncomputable def o12_4_4 : Oper := opN r12_4 4
noncomputable def o12_4_5 : Oper := opN r12_4 5
theorem x12_18 : execA E C (fg 12) B 34 E0 N c12_18 s = regX (runA E C B 34 r12_4 r12_4.toList s) (fun s => gcM E0 [11, 12, 13, 14] (forget s.1 [11, 12, 13, 14], s.2)) := x_reg (ops := r12_4) (by rfl) (by rfl) s
theorem r12_4_l : r12_4.toList = [o12_4_0, o12_4_1, o12_4_2, o12_4_3, o12_4_4, o12_4_5] := nrfl rfl
theorem s12_4_0 : stepA E C B 34 r12_4 o12_4_0 (φ, H) = some (fput φ 12 (fget φ 10), H) := nrfl rfl
theorem s12_4_1 : stepA E C B 34 r12_4 o12_4_1 (φ, H) = stp (some 13) φ H (just (aIndexAddr E.T 27 (fget φ 8) (fget φ 10))) := nrfl rfl
theorem s12_4_2 : stepA E C B 34 r12_4 o12_4_2 (φ, H) = stp (some 14) φ H (just (aLoad E.T 44 (fget φ 13))) := nrfl rfl
theorem s12_4_3 : stepA E C B 34 r12_4 o12_4_3 (φ, H) = stp (some 7) φ H (opBox (B + 7) (zeroCells E.T 44)) := nrfl rfl
theorem s12_4_4 : stepA E C B 34 r12_4 o12_4_4 (φ, H) = some (fput φ 6 (fget φ 12), H) := nrfl rfl
theorem s12_4_5 : stepA E C B 34 r12_4 o12_4_5 (φ, H) = stp none φ H (opStore E.T 44 (fget φ 7) (fget φ 14)) := nrfl rfl
noncomputable def c12_19 : Code := kR c12_17
noncomputable def r12_5 : Array Oper := kO c12_19
noncomputable def o12_5_0 : Oper := opN r12_5 0
noncomputable def o12_5_1 : Oper := opN r12_5 1
noncomputable def o12_5_2 : Oper := opN r12_5 2
noncomputable def o12_5_3 : Oper := opN r12_5 3
noncomputable def o12_5_4 : Oper := opN r12_5 4
noncomputable def o12_5_5 : Oper := opN r12_5 5
noncomputable def o12_5_6 : Oper := opN r12_5 6
noncomputable def o12_5_7 : Oper := opN r12_5 7
noncomputable def o12_5_8 : Oper := opN r12_5 8
noncomputable def o12_5_9 : Oper := opN r12_5 9
noncomputable def o12_5_10 : Oper := opN r12_5 10
noncomputable def o12_5_11 : Oper := opN r12_5 11
noncomputable def o12_5_12 : Oper := opN r12_5 12
noncomputable def o12_5_13 : Oper := opN r12_5 13
noncomputable def o12_5_14 : Oper := opN r12_5 14
noncomputable def o12_5_15 : Oper := opN r12_5 15
noncomputable def o12_5_16 : Oper := opN r12_5 16
noncomputable def o12_5_17 : Oper := opN r12_5 17
theorem x12_19 : execA E C (fg 12) B 34 E0 N c12_19 s = regX (drawA E C B 34 r12_5 s) (fun s => gcM E0 [6, 7, 15, 16, 17, 18, 19, 20, 21, 22, 23, 24, 25, 26, 27, 28, 29, 30, 31] (forget s.1 [6, 7, 15, 16, 17, 18, 19, 20, 21, 22, 23, 24, 25, 26, 27, 28, 29, 30, 31], s.2)) := x_draw (ops := r12_5) (by rfl) (by rfl) s
theorem r12_5_l : r12_5.toList = [o12_5_0, o12_5_1, o12_5_2, o12_5_3, o12_5_4, o12_5_5, o12_5_6, o12_5_7, o12_5_8, o12_5_9, o12_5_10, o12_5_11, o12_5_12, o12_5_13, o12_5_14, o12_5_15, o12_5_16, o12_5_17] := nrfl rfl
theorem r12_5_st : statOk r12_5 = true := by kernel_rfl
theorem r12_5_dr : drawA E C B 34 r12_5 s = if neat 34 s = true then drX r12_5 (runT E C B 34 r12_5 r12_5.toList 0 s) else none := draw_eq r12_5_st s
theorem r12_5_an (l : List (Nat × Tr)) : dynOk r12_5 l = (!writing l || dynPairs [[], [], [1], [], [3], [3, 4], [3, 4, 5], [], [7], [], [9], [7, 8, 9, 10], [7, 8, 9, 10, 11], [3, 4, 5, 6, 7, 8, 9, 10, 11, 12], [1, 2, 3, 4, 5, 6, 7, 8, 9, 10, 11, 12, 13], [1, 2, 3, 4, 5, 6, 7, 8, 9, 10, 11, 12, 13, 14], [0, 1, 2, 3, 4, 5, 6, 7, 8, 9, 10, 11, 12, 13, 14, 15], [0, 1, 2, 3, 4, 5, 6, 7, 8, 9, 10, 11, 12, 13, 14, 15, 16]] (touching l)) := dynOk_eq (by kernel_rfl) l
theorem s12_5_0 : stepT E C B 34 r12_5 o12_5_0 (φ, H) = some ((fput φ 15 (fget φ 5), H), ⟨false, [], []⟩) := stT_go rfl (goT_mv rfl rfl)
theorem s12_5_1 : stepT E C B 34 r12_5 o12_5_1 (φ, H) = stpT (some 16) φ H (just (aFieldAddr E.T 44 (fget φ 7) 2)) := stT_go rfl (goT_R rfl rfl)
theorem s12_5_2 : stepT E C B 34 r12_5 o12_5_2 (φ, H) = stpT (some 17) φ H (just (aLoad E.T 3 (fget φ 16))) := stT_go rfl (goT_R rfl rfl)
theorem s12_5_3 : stepT E C B 34 r12_5 o12_5_3 (φ, H) = some ((fput φ 18 (fget φ 6), H), ⟨false, [], []⟩) := stT_go rfl (goT_mv rfl rfl)
theorem s12_5_4 : stepT E C B 34 r12_5 o12_5_4 (φ, H) = stpT (some 19) φ H (just (aIndexAddr E.T 26 (fget φ 3) (fget φ 18))) := stT_go rfl (goT_R rfl rfl)
theorem s12_5_5 : stepT E C B 34 r12_5 o12_5_5 (φ, H) = stpT (some 20) φ H (just (aLoad E.T 5 (fget φ 19))) := stT_go rfl (goT_R rfl rfl)
theorem s12_5_6 : stepT E C B 34 r12_5 o12_5_6 (φ, H) = stpT (some 21) φ H (justO (aConv E.T 5 3 (fget φ 20))) := stT_go rfl (goT_R rfl rfl)
theorem s12_5_7 : stepT E C B 34 r12_5 o12_5_7 (φ, H) = stpT (some 22) φ H (just (aFieldAddr E.T 44 (fget φ 7) 3)) := stT_go rfl (goT_R rfl rfl)
theorem s12_5_8 : stepT E C B 34 r12_5 o12_5_8 (φ, H) = stpT (some 23) φ H (just (aLoad E.T 3 (fget φ 22))) := stT_go rfl (goT_R rfl rfl)
theorem s12_5_9 : stepT E C B 34 r12_5 o12_5_9 (φ, H) = stpT (some 24) φ H (just (aFieldAddr E.T 44 (fget φ 7) 2)) := stT_go rfl (goT_R rfl rfl)
theorem s12_5_10 : stepT E C B 34 r12_5 o12_5_10 (φ, H) = stpT (some 25) φ H (just (aLoad E.T 3 (fget φ 24))) := stT_go rfl (goT_R rfl rfl)
theorem s12_5_11 : stepT E C B 34 r12_5 o12_5_11 (φ, H) = stpT (some 26) φ H (just (aBin E.T .sub 3 (fget φ 23) (fget φ 25))) := stT_go rfl (goT_R rfl rfl)
theorem s12_5_12 : stepT E C B 34 r12_5 o12_5_12 (φ, H) = stpT (some 27) φ H (just (aBin E.T .add 3 (fget φ 26) (.int .i64 1))) := stT_go rfl (goT_R rfl rfl)
theorem s12_5_13 : stepT E C B 34 r12_5 o12_5_13 (φ, H) = stpT (some 28) φ H (just (aBin E.T .rem 3 (fget φ 21) (fget φ 27))) := stT_go rfl (goT_R rfl rfl)
theorem s12_5_14 : stepT E C B 34 r12_5 o12_5_14 (φ, H) = stpT (some 29) φ H (just (aBin E.T .add 3 (fget φ 17) (fget φ 28))) := stT_go rfl (goT_R rfl rfl)
theorem s12_5_15 : stepT E C B 34 r12_5 o12_5_15 (φ, H) = stpT (some 30) φ H (aBuildSlice E.T (B + 30) 36 1 (evO E φ) [(0, Operand.tmp 29)]) := stT_go rfl (goT_R rfl rfl)
theorem s12_5_16 : stepT E C B 34 r12_5 o12_5_16 (φ, H) = stpT (some 31) φ H (aBuiltin E.T (B + 31) .append #[36, 36] [(fget φ 15), (fget φ 30)]) := stT_go rfl (goT_R rfl rfl)
theorem s12_5_17 : stepT E C B 34 r12_5 o12_5_17 (φ, H) = some ((fput φ 5 (fget φ 31), H), ⟨false, [], []⟩) := stT_go rfl (goT_mv rfl rfl)
theorem x12_17 : execA E C (fg 12) B 34 E0 N c12_17 s = seqX (execA E C (fg 12) B 34 E0 N c12_18 s) (execA E C (fg 12) B 34 E0 N c12_19) := x_seq (by rfl) s
theorem x12_16 : execA E C (fg 12) B 34 E0 N c12_16 s = blockX 1 (fun s => (forget s.1 [], s.2)) (execA E C (fg 12) B 34 E0 N c12_17 s) := x_block (by rfl) (by rfl) s
noncomputable def c12_20 : Code := kR c12_15
noncomputable def r12_6 : Array Oper := kO c12_20
noncomputable def o12_6_0 : Oper := opN r12_6 0
noncomputable def o12_6_1 : Oper := opN r12_6 1
theorem x12_20 : execA E C (fg 12) B 34 E0 N c12_20 s = regX (runA E C B 34 r12_6 r12_6.toList s) (fun s => gcM E0 [32] (forget s.1 [32], s.2)) := x_reg (ops := r12_6) (by rfl) (by rfl) s
theorem r12_6_l : r12_6.toList = [o12_6_0, o12_6_1] := nrfl rfl
theorem s12_6_0 : stepA E C B 34 r12_6 o12_6_0 (φ, H) = stp (some 32) φ H (just (aBin E.T .add 3 (fget φ 10) (.int .i64 1))) := nrfl rfl
theorem s12_6_1 : stepA E C B 34 r12_6 o12_6_1 (φ, H) = some (fput φ 10 (fget φ 32), H) := nrfl rfl
theorem x12_15 : execA E C (fg 12) B 34 E0 N c12_15 s = seqX (execA E C (fg 12) B 34 E0 N c12_16 s) (execA E C (fg 12) B 34 E0 N c12_20) := x_seq (by rfl) s
theorem x12_11 : execA E C (fg 12) B 34 E0 N c12_11 s = seqX (execA E C (fg 12) B 34 E0 N c12_12 s) (execA E C (fg 12) B 34 E0 N c12_15) := x_seq (by rfl) s
theorem x12_9 : execA E C (fg 12) B 34 E0 N c12_9 s = seqX (execA E C (fg 12) B 34 E0 N c12_10 s) (execA E C (fg 12) B 34 E0 N c12_11) := x_seq (by rfl) s
-- a loop of f12: x12_8; body c12_9; slots [10, 9, 8, 5, 3]
theorem x12_8 : execA E C (fg 12) B 34 E0 N c12_8 s = iterA (execA E C (fg 12) B 34 E0 N c12_9) (headA E0) N s := x_loop (by rfl) s
theorem x12_7 : execA E C (fg 12) B 34 E0 N c12_7 s = blockX 0 (fun s => (forget s.1 [3, 8, 9, 10, 11], s.2)) (execA E C (fg 12) B 34 E0 N c12_8 s) := x_block (by rfl) (by rfl) s
theorem x12_5 : execA E C (fg 12) B 34 E0 N c12_5 s = seqX (execA E C (fg 12) B 34 E0 N c12_6 s) (execA E C (fg 12) B 34 E0 N c12_7) := x_seq (by rfl) s
noncomputable def c12_21 : Code := kR c12_4
noncomputable def c12_22 : Code := kL c12_21
noncomputable def r12_7 : Array Oper := kO c12_22
noncomputable def o12_7_0 : Oper := opN r12_7 0
noncomputable def o12_7_1 : Oper := opN r12_7 1
theorem x12_22 : execA E C (fg 12) B 34 E0 N c12_22 s = regX (runA E C B 34 r12_7 r12_7.toList s) (fun s => gcM E0 [5, 33] (forget s.1 [5, 33], s.2)) := x_reg (ops := r12_7) (by rfl) (by rfl) s
theorem r12_7_l : r12_7.toList = [o12_7_0, o12_7_1] := nrfl rfl
theorem s12_7_0 : stepA E C B 34 r12_7 o12_7_0 (φ, H) = some (fput φ 33 (fget φ 5), H) := nrfl rfl
theorem s12_7_1 : stepA E C B 34 r12_7 o12_7_1 (φ, H) = some (fput φ 4 (fget φ 33), H) := nrfl rfl
noncomputable def c12_23 : Code := kR c12_21
theorem x12_23 : execA E C (fg 12) B 34 E0 N c12_23 s = some (.ret, s) := x_ret (by rfl) s
theorem x12_21 : execA E C (fg 12) B 34 E0 N c12_21 s = seqX (execA E C (fg 12) B 34 E0 N c12_22 s) (execA E C (fg 12) B 34 E0 N c12_23) := x_seq (by rfl) s
theorem x12_4 : execA E C (fg 12) B 34 E0 N c12_4 s = seqX (execA E C (fg 12) B 34 E0 N c12_5 s) (execA E C (fg 12) B 34 E0 N c12_21) := x_seq (by rfl) s
theorem x12_2 : execA E C (fg 12) B 34 E0 N c12_2 s = seqX (execA E C (fg 12) B 34 E0 N c12_3 s) (execA E C (fg 12) B 34 E0 N c12_4) := x_seq (by rfl) s
theorem x12_0 : execA E C (fg 12) B 34 E0 N c12_0 s = seqX (execA E C (fg 12) B 34 E0 N c12_1 s) (execA E C (fg 12) B 34 E0 N c12_2) := x_seq (by rfl) s
theorem fi_12 : fInfo E 12 = some ⟨34, #[.tmp 4], c12_0⟩ := nrfl rfl
theorem b_12 (args : List AV) : bodyA E C fg N 12 args H B = bodyX E [.tmp 4] (execA E C (fg 12) B 34 H N c12_0 (frame0 args 0 [], H)) := bodyA_eq fi_12 args H
/-! ### f16: novaculite/novaculitelaw07.corners -/
noncomputable def c16_0 : Code := kBody Proofs.Try.f16
noncomputable def c16_1 : Code := kL c16_0
noncomputable def r16_0 : Array Oper := kO c16_1
noncomputable def o16_0_0 : Oper := opN r16_0 0
noncomputable def o16_0_1 : Oper := opN r16_0 1
noncomputable def o16_0_2 : Oper := opN r16_0 2
noncomputable def o16_0_3 : Oper := opN r16_0 3
theorem x16_1 : execA E C (fg 16) B 41 E0 N c16_1 s = regX (runA E C B 41 r16_0 r16_0.toList s) (fun s => gcM E0 [8, 9] (forget s.1 [8, 9], s.2)) := x_reg (ops := r16_0) (by rfl) (by rfl) s
theorem r16_0_l : r16_0.toList = [o16_0_0, o16_0_1, o16_0_2, o16_0_3] := nrfl rfl
theorem s16_0_0 : stepA E C B 41 r16_0 o16_0_0 (φ, H) = some (fput φ 8 (fget φ 0), H) := nrfl rfl
theorem s16_0_1 : stepA E C B 41 r16_0 o16_0_1 (φ, H) = stp (some 9) φ H (aBuiltin E.T (B + 9) .len #[27] [(fget φ 8)]) := nrfl rfl
theorem s16_0_2 : stepA E C B 41 r16_0 o16_0_2 (φ, H) = stp (some 10) φ H (just (aBin E.T .shl 3 (.int .i64 1) (fget φ 9))) := nrfl rfl
theorem s16_0_3 : stepA E C B 41 r16_0 o16_0_3 (φ, H) = some (fput φ 11 (.int .i64 0), H) := nrfl rfl
noncomputable def c16_2 : Code := kR c16_0
noncomputable def c16_3 : Code := kB c16_2
noncomputable def c16_4 : Code := kB c16_3
noncomputable def c16_5 : Code := kL c16_4
noncomputable def r16_1 : Array Oper := kO c16_5
noncomputable def o16_1_0 : Oper := opN r16_1 0
theorem x16_5 : execA E C (fg 16) B 41 E0 N c16_5 s = regX (runA E C B 41 r16_1 r16_1.toList s) (fun s => gcM E0 [] (forget s.1 [], s.2)) := x_reg (ops := r16_1) (by rfl) (by rfl) s
theorem r16_1_l : r16_1.toList = [o16_1_0] := nrfl rfl
theorem s16_1_0 : stepA E C B 41 r16_1 o16_1_0 (φ, H) = stp (some 12) φ H (just (aBin E.T .lss 3 (fget φ 11) (fget φ 10))) := nrfl rfl
noncomputable def c16_6 : Code := kR c16_4
noncomputable def c16_7 : Code := kL c16_6
noncomputable def c16_8 : Code := kT c16_7
theorem x16_8 : execA E C (fg 16) B 41 E0 N c16_8 s = some (.normal, s) := x_skip (by rfl) s
noncomputable def c16_9 : Code := kE c16_7
theorem x16_9 : execA E C (fg 16) B 41 E0 N c16_9 s = some (.exit 0, s) := x_exit (by rfl) s
theorem x16_7 : execA E C (fg 16) B 41 E0 N c16_7 (φ, H) = condX (fget φ 12) (execA E C (fg 16) B 41 E0 N c16_8 (φ, H)) (execA E C (fg 16) B 41 E0 N c16_9 (φ, H)) := x_cond (by rfl) _
noncomputable def c16_10 : Code := kR c16_6
noncomputable def c16_11 : Code := kL c16_10
noncomputable def c16_12 : Code := kB c16_11
noncomputable def c16_13 : Code := kL c16_12
noncomputable def r16_2 : Array Oper := kO c16_13
noncomputable def o16_2_0 : Oper := opN r16_2 0
noncomputable def o16_2_1 : Oper := opN r16_2 1
theorem x16_13 : execA E C (fg 16) B 41 E0 N c16_13 s = regX (runA E C B 41 r16_2 r16_2.toList s) (fun s => gcM E0 [12, 13] (forget s.1 [12, 13], s.2)) := x_reg (ops := r16_2) (by rfl) (by rfl) s
theorem r16_2_l : r16_2.toList = [o16_2_0, o16_2_1] := nrfl rfl
theorem s16_2_0 : stepA E C B 41 r16_2 o16_2_0 (φ, H) = some (fput φ 13 (fget φ 11), H) := nrfl rfl
theorem s16_2_1 : stepA E C B 41 r16_2 o16_2_1 (φ, H) = some (fput φ 4 (fget φ 13), H) := nrfl rfl
noncomputable def c16_14 : Code := kR c16_12
noncomputable def c16_15 : Code := kL c16_14
noncomputable def r16_3 : Array Oper := kO c16_15
noncomputable def o16_3_0 : Oper := opN r16_3 0
theorem x16_15 : execA E C (fg 16) B 41 E0 N c16_15 s = regX (runA E C B 41 r16_3 r16_3.toList s) (fun s => gcM E0 [] (forget s.1 [], s.2)) := x_reg (ops := r16_3) (by rfl) (by rfl) s
theorem r16_3_l : r16_3.toList = [o16_3_0] := nrfl rfl
theorem s16_3_0 : stepA E C B 41 r16_3 o16_3_0 (φ, H) = some (fput φ 5 (.nilsl), H) := nrfl rfl
noncomputable def c16_16 : Code := kR c16_14
noncomputable def c16_17 : Code := kL c16_16
noncomputable def c16_18 : Code := kL c16_17
noncomputable def r16_4 : Array Oper := kO c16_18
noncomputable def o16_4_0 : Oper := opN r16_4 0
noncomputable def o16_4_1 : Oper := opN r16_4 1
noncomputable def o16_4_2 : Oper := opN r16_4 2
theorem x16_18 : execA E C (fg 16) B 41 E0 N c16_18 s = regX (runA E C B 41 r16_4 r16_4.toList s) (fun s => gcM E0 [] (forget s.1 [], s.2)) := x_reg (ops := r16_4) (by rfl) (by rfl) s
theorem r16_4_l : r16_4.toList = [o16_4_0, o16_4_1, o16_4_2] := nrfl rfl
theorem s16_4_0 : stepA E C B 41 r16_4 o16_4_0 (φ, H) = some (fput φ 14 (fget φ 0), H) := nrfl rfl
theorem s16_4_1 : stepA E C B 41 r16_4 o16_4_1 (φ, H) = stp (some 15) φ H (aBuiltin E.T (B + 15) .len #[27] [(fget φ 14)]) := nrfl rfl
theorem s16_4_2 : stepA E C B 41 r16_4 o16_4_2 (φ, H) = some (fput φ 16 (.int .i64 0), H) := nrfl rfl
noncomputable def c16_19 : Code := kR c16_17
noncomputable def c16_20 : Code := kB c16_19
noncomputable def c16_21 : Code := kB c16_20
noncomputable def c16_22 : Code := kL c16_21
noncomputable def r16_5 : Array Oper := kO c16_22
noncomputable def o16_5_0 : Oper := opN r16_5 0
theorem x16_22 : execA E C (fg 16) B 41 E0 N c16_22 s = regX (runA E C B 41 r16_5 r16_5.toList s) (fun s => gcM E0 [] (forget s.1 [], s.2)) := x_reg (ops := r16_5) (by rfl) (by rfl) s
theorem r16_5_l : r16_5.toList = [o16_5_0] := nrfl rfl
theorem s16_5_0 : stepA E C B 41 r16_5 o16_5_0 (φ, H) = stp (some 17) φ H (just (aBin E.T .lss 3 (fget φ 16) (fget φ 15))) := nrfl rfl
noncomputable def c16_23 : Code := kR c16_21
noncomputable def c16_24 : Code := kL c16_23
noncomputable def c16_25 : Code := kT c16_24
theorem x16_25 : execA E C (fg 16) B 41 E0 N c16_25 s = some (.normal, s) := x_skip (by rfl) s
noncomputable def c16_26 : Code := kE c16_24
theorem x16_26 : execA E C (fg 16) B 41 E0 N c16_26 s = some (.exit 2, s) := x_exit (by rfl) s
theorem x16_24 : execA E C (fg 16) B 41 E0 N c16_24 (φ, H) = condX (fget φ 17) (execA E C (fg 16) B 41 E0 N c16_25 (φ, H)) (execA E C (fg 16) B 41 E0 N c16_26 (φ, H)) := x_cond (by rfl) _
noncomputable def c16_27 : Code := kR c16_23
noncomputable def c16_28 : Code := kL c16_27
noncomputable def c16_29 : Code := kB c16_28
noncomputable def c16_30 : Code := kL c16_29
noncomputable def r16_6 : Array Oper := kO c16_30
noncomputable def o16_6_0 : Oper := opN r16_6 0
noncomputable def o16_6_1 : Oper := opN r16_6 1
noncomputable def o16_6_2 : Oper := opN r16_6 2
noncomputable def o16_6_3 : Oper := opN r16_6 3
noncomputable def o16_6_4 : Oper := opN r16_6 4
noncomputable def o16_6_5 : Oper := opN r16_6 5
theorem x16_30 : execA E C (fg 16) B 41 E0 N c16_30 s = regX (runA E C B 41 r16_6 r16_6.toList s) (fun s => gcM E0 [17, 18, 19, 20] (forget s.1 [17, 18, 19, 20], s.2)) := x_reg (ops := r16_6) (by rfl) (by rfl) s
theorem r16_6_l : r16_6.toList = [o16_6_0, o16_6_1, o16_6_2, o16_6_3, o16_6_4, o16_6_5] := nrfl rfl
theorem s16_6_0 : stepA E C B 41 r16_6 o16_6_0 (φ, H) = some (fput φ 18 (fget φ 16), H) := nrfl rfl
theorem s16_6_1 : stepA E C B 41 r16_6 o16_6_1 (φ, H) = stp (some 19) φ H (just (aIndexAddr E.T 27 (fget φ 14) (fget φ 16))) := nrfl rfl
theorem s16_6_2 : stepA E C B 41 r16_6 o16_6_2 (φ, H) = stp (some 20) φ H (just (aLoad E.T 44 (fget φ 19))) := nrfl rfl
theorem s16_6_3 : stepA E C B 41 r16_6 o16_6_3 (φ, H) = stp (some 7) φ H (opBox (B + 7) (zeroCells E.T 44)) := nrfl rfl
theorem s16_6_4 : stepA E C B 41 r16_6 o16_6_4 (φ, H) = some (fput φ 6 (fget φ 18), H) := nrfl rfl
theorem s16_6_5 : stepA E C B 41 r16_6 o16_6_5 (φ, H) = stp none φ H (opStore E.T 44 (fget φ 7) (fget φ 20)) := nrfl rfl
noncomputable def c16_31 : Code := kR c16_29
noncomputable def c16_32 : Code := kL c16_31
noncomputable def r16_7 : Array Oper := kO c16_32
noncomputable def o16_7_0 : Oper := opN r16_7 0
noncomputable def o16_7_1 : Oper := opN r16_7 1
noncomputable def o16_7_2 : Oper := opN r16_7 2
noncomputable def o16_7_3 : Oper := opN r16_7 3
noncomputable def o16_7_4 : Oper := opN r16_7 4
theorem x16_32 : execA E C (fg 16) B 41 E0 N c16_32 s = regX (runA E C B 41 r16_7 r16_7.toList s) (fun s => gcM E0 [6, 21, 22, 23, 24] (forget s.1 [6, 21, 22, 23, 24], s.2)) := x_reg (ops := r16_7) (by rfl) (by rfl) s
theorem r16_7_l : r16_7.toList = [o16_7_0, o16_7_1, o16_7_2, o16_7_3, o16_7_4] := nrfl rfl
theorem s16_7_0 : stepA E C B 41 r16_7 o16_7_0 (φ, H) = some (fput φ 21 (fget φ 4), H) := nrfl rfl
theorem s16_7_1 : stepA E C B 41 r16_7 o16_7_1 (φ, H) = some (fput φ 22 (fget φ 6), H) := nrfl rfl
theorem s16_7_2 : stepA E C B 41 r16_7 o16_7_2 (φ, H) = stp (some 23) φ H (just (aBin E.T .shr 3 (fget φ 21) (fget φ 22))) := nrfl rfl
theorem s16_7_3 : stepA E C B 41 r16_7 o16_7_3 (φ, H) = stp (some 24) φ H (just (aBin E.T .and 3 (fget φ 23) (.int .i64 1))) := nrfl rfl
theorem s16_7_4 : stepA E C B 41 r16_7 o16_7_4 (φ, H) = stp (some 25) φ H (just (aBin E.T .eql 3 (fget φ 24) (.int .i64 1))) := nrfl rfl
noncomputable def c16_33 : Code := kR c16_31
noncomputable def c16_34 : Code := kT c16_33
noncomputable def r16_8 : Array Oper := kO c16_34
noncomputable def o16_8_0 : Oper := opN r16_8 0
noncomputable def o16_8_1 : Oper := opN r16_8 1
noncomputable def o16_8_2 : Oper := opN r16_8 2
noncomputable def o16_8_3 : Oper := opN r16_8 3
noncomputable def o16_8_4 : Oper := opN r16_8 4
noncomputable def o16_8_5 : Oper := opN r16_8 5
theorem x16_34 : execA E C (fg 16) B 41 E0 N c16_34 s = regX (runA E C B 41 r16_8 r16_8.toList s) (fun s => gcM E0 [7, 25, 26, 27, 28, 29, 30] (forget s.1 [7, 25, 26, 27, 28, 29, 30], s.2)) := x_reg (ops := r16_8) (by rfl) (by rfl) s
theorem r16_8_l : r16_8.toList = [o16_8_0, o16_8_1, o16_8_2, o16_8_3, o16_8_4, o16_8_5] := nrfl rfl
theorem s16_8_0 : stepA E C B 41 r16_8 o16_8_0 (φ, H) = some (fput φ 26 (fget φ 5), H) := nrfl rfl
theorem s16_8_1 : stepA E C B 41 r16_8 o16_8_1 (φ, H) = stp (some 27) φ H (just (aFieldAddr E.T 44 (fget φ 7) 3)) := nrfl rfl
theorem s16_8_2 : stepA E C B 41 r16_8 o16_8_2 (φ, H) = stp (some 28) φ H (just (aLoad E.T 3 (fget φ 27))) := nrfl rfl
theorem s16_8_3 : stepA E C B 41 r16_8 o16_8_3 (φ, H) = stp (some 29) φ H (aBuildSlice E.T (B + 29) 36 1 (evO E φ) [(0, Operand.tmp 28)]) := nrfl rfl
theorem s16_8_4 : stepA E C B 41 r16_8 o16_8_4 (φ, H) = stp (some 30) φ H (aBuiltin E.T (B + 30) .append #[36, 36] [(fget φ 26), (fget φ 29)]) := nrfl rfl
theorem s16_8_5 : stepA E C B 41 r16_8 o16_8_5 (φ, H) = some (fput φ 5 (fget φ 30), H) := nrfl rfl
noncomputable def c16_35 : Code := kE c16_33
noncomputable def r16_9 : Array Oper := kO c16_35
noncomputable def o16_9_0 : Oper := opN r16_9 0
noncomputable def o16_9_1 : Oper := opN r16_9 1
noncomputable def o16_9_2 : Oper := opN r16_9 2
noncomputable def o16_9_3 : Oper := opN r16_9 3
noncomputable def o16_9_4 : Oper := opN r16_9 4
noncomputable def o16_9_5 : Oper := opN r16_9 5
theorem x16_35 : execA E C (fg 16) B 41 E0 N c16_35 s = regX (runA E C B 41 r16_9 r16_9.toList s) (fun s => gcM E0 [7, 25, 31, 32, 33, 34, 35] (forget s.1 [7, 25, 31, 32, 33, 34, 35], s.2)) := x_reg (ops := r16_9) (by rfl) (by rfl) s
theorem r16_9_l : r16_9.toList = [o16_9_0, o16_9_1, o16_9_2, o16_9_3, o16_9_4, o16_9_5] := nrfl rfl
theorem s16_9_0 : stepA E C B 41 r16_9 o16_9_0 (φ, H) = some (fput φ 31 (fget φ 5), H) := nrfl rfl
theorem s16_9_1 : stepA E C B 41 r16_9 o16_9_1 (φ, H) = stp (some 32) φ H (just (aFieldAddr E.T 44 (fget φ 7) 2)) := nrfl rfl
theorem s16_9_2 : stepA E C B 41 r16_9 o16_9_2 (φ, H) = stp (some 33) φ H (just (aLoad E.T 3 (fget φ 32))) := nrfl rfl
theorem s16_9_3 : stepA E C B 41 r16_9 o16_9_3 (φ, H) = stp (some 34) φ H (aBuildSlice E.T (B + 34) 36 1 (evO E φ) [(0, Operand.tmp 33)]) := nrfl rfl
theorem s16_9_4 : stepA E C B 41 r16_9 o16_9_4 (φ, H) = stp (some 35) φ H (aBuiltin E.T (B + 35) .append #[36, 36] [(fget φ 31), (fget φ 34)]) := nrfl rfl
theorem s16_9_5 : stepA E C B 41 r16_9 o16_9_5 (φ, H) = some (fput φ 5 (fget φ 35), H) := nrfl rfl
theorem x16_33 : execA E C (fg 16) B 41 E0 N c16_33 (φ, H) = condX (fget φ 25) (execA E C (fg 16) B 41 E0 N c16_34 (φ, H)) (execA E C (fg 16) B 41 E0 N c16_35 (φ, H)) := x_cond (by rfl) _
theorem x16_31 : execA E C (fg 16) B 41 E0 N c16_31 s = seqX (execA E C (fg 16) B 41 E0 N c16_32 s) (execA E C (fg 16) B 41 E0 N c16_33) := x_seq (by rfl) s
theorem x16_29 : execA E C (fg 16) B 41 E0 N c16_29 s = seqX (execA E C (fg 16) B 41 E0 N c16_30 s) (execA E C (fg 16) B 41 E0 N c16_31) := x_seq (by rfl) s
theorem x16_28 : execA E C (fg 16) B 41 E0 N c16_28 s = blockX 3 (fun s => (forget s.1 [], s.2)) (execA E C (fg 16) B 41 E0 N c16_29 s) := x_block (by rfl) (by rfl) s
noncomputable def c16_36 : Code := kR c16_27
noncomputable def r16_10 : Array Oper := kO c16_36
noncomputable def o16_10_0 : Oper := opN r16_10 0
noncomputable def o16_10_1 : Oper := opN r16_10 1
theorem x16_36 : execA E C (fg 16) B 41 E0 N c16_36 s = regX (runA E C B 41 r16_10 r16_10.toList s) (fun s => gcM E0 [36] (forget s.1 [36], s.2)) := x_reg (ops := r16_10) (by rfl) (by rfl) s
theorem r16_10_l : r16_10.toList = [o16_10_0, o16_10_1] := nrfl rfl
theorem s16_10_0 : stepA E C B 41 r16_10 o16_10_0 (φ, H) = stp (some 36) φ H (just (aBin E.T .add 3 (fget φ 16) (.int .i64 1))) := nrfl rfl
theorem s16_10_1 : stepA E C B 41 r16_10 o16_10_1 (φ, H) = some (fput φ 16 (fget φ 36), H) := nrfl rfl
theorem x16_27 : execA E C (fg 16) B 41 E0 N c16_27 s = seqX (execA E C (fg 16) B 41 E0 N c16_28 s) (execA E C (fg 16) B 41 E0 N c16_36) := x_seq (by rfl) s
theorem x16_23 : execA E C (fg 16) B 41 E0 N c16_23 s = seqX (execA E C (fg 16) B 41 E0 N c16_24 s) (execA E C (fg 16) B 41 E0 N c16_27) := x_seq (by rfl) s
theorem x16_21 : execA E C (fg 16) B 41 E0 N c16_21 s = seqX (execA E C (fg 16) B 41 E0 N c16_22 s) (execA E C (fg 16) B 41 E0 N c16_23) := x_seq (by rfl) s
-- a loop of f16: x16_20; body c16_21; slots [16, 15, 14, 11, 10, 5, 4, 1, 0]
theorem x16_20 : execA E C (fg 16) B 41 E0 N c16_20 s = iterA (execA E C (fg 16) B 41 E0 N c16_21) (headA E0) N s := x_loop (by rfl) s
theorem x16_19 : execA E C (fg 16) B 41 E0 N c16_19 s = blockX 2 (fun s => (forget s.1 [4, 14, 15, 16, 17], s.2)) (execA E C (fg 16) B 41 E0 N c16_20 s) := x_block (by rfl) (by rfl) s
theorem x16_17 : execA E C (fg 16) B 41 E0 N c16_17 s = seqX (execA E C (fg 16) B 41 E0 N c16_18 s) (execA E C (fg 16) B 41 E0 N c16_19) := x_seq (by rfl) s
noncomputable def c16_37 : Code := kR c16_16
noncomputable def r16_11 : Array Oper := kO c16_37
noncomputable def o16_11_0 : Oper := opN r16_11 0
noncomputable def o16_11_1 : Oper := opN r16_11 1
noncomputable def o16_11_2 : Oper := opN r16_11 2
theorem x16_37 : execA E C (fg 16) B 41 E0 N c16_37 s = regX (runA E C B 41 r16_11 r16_11.toList s) (fun s => gcM E0 [5, 37, 38, 39] (forget s.1 [5, 37, 38, 39], s.2)) := x_reg (ops := r16_11) (by rfl) (by rfl) s
theorem r16_11_l : r16_11.toList = [o16_11_0, o16_11_1, o16_11_2] := nrfl rfl
theorem s16_11_0 : stepA E C B 41 r16_11 o16_11_0 (φ, H) = some (fput φ 37 (fget φ 1), H) := nrfl rfl
theorem s16_11_1 : stepA E C B 41 r16_11 o16_11_1 (φ, H) = some (fput φ 38 (fget φ 5), H) := nrfl rfl
theorem s16_11_2 : stepA E C B 41 r16_11 o16_11_2 (φ, H) = callV E C (B + 41 * 8) (some 39) (fun j => B + j * 41 + 39) φ H (fget φ 37) [(fget φ 38)] true := nrfl rfl
theorem x16_16 : execA E C (fg 16) B 41 E0 N c16_16 s = seqX (execA E C (fg 16) B 41 E0 N c16_17 s) (execA E C (fg 16) B 41 E0 N c16_37) := x_seq (by rfl) s
theorem x16_14 : execA E C (fg 16) B 41 E0 N c16_14 s = seqX (execA E C (fg 16) B 41 E0 N c16_15 s) (execA E C (fg 16) B 41 E0 N c16_16) := x_seq (by rfl) s
theorem x16_12 : execA E C (fg 16) B 41 E0 N c16_12 s = seqX (execA E C (fg 16) B 41 E0 N c16_13 s) (execA E C (fg 16) B 41 E0 N c16_14) := x_seq (by rfl) s
theorem x16_11 : execA E C (fg 16) B 41 E0 N c16_11 s = blockX 1 (fun s => (forget s.1 [], s.2)) (execA E C (fg 16) B 41 E0 N c16_12 s) := x_block (by rfl) (by rfl) s
noncomputable def c16_38 : Code := kR c16_10
noncomputable def r16_12 : Array Oper := kO c16_38
noncomputable def o16_12_0 : Oper := opN r16_12 0
noncomputable def o16_12_1 : Oper := opN r16_12 1
theorem x16_38 : execA E C (fg 16) B 41 E0 N c16_38 s = regX (runA E C B 41 r16_12 r16_12.toList s) (fun s => gcM E0 [40] (forget s.1 [40], s.2)) := x_reg (ops := r16_12) (by rfl) (by rfl) s
theorem r16_12_l : r16_12.toList = [o16_12_0, o16_12_1] := nrfl rfl
theorem s16_12_0 : stepA E C B 41 r16_12 o16_12_0 (φ, H) = stp (some 40) φ H (just (aBin E.T .add 3 (fget φ 11) (.int .i64 1))) := nrfl rfl
theorem s16_12_1 : stepA E C B 41 r16_12 o16_12_1 (φ, H) = some (fput φ 11 (fget φ 40), H) := nrfl rfl
theorem x16_10 : execA E C (fg 16) B 41 E0 N c16_10 s = seqX (execA E C (fg 16) B 41 E0 N c16_11 s) (execA E C (fg 16) B 41 E0 N c16_38) := x_seq (by rfl) s
theorem x16_6 : execA E C (fg 16) B 41 E0 N c16_6 s = seqX (execA E C (fg 16) B 41 E0 N c16_7 s) (execA E C (fg 16) B 41 E0 N c16_10) := x_seq (by rfl) s
theorem x16_4 : execA E C (fg 16) B 41 E0 N c16_4 s = seqX (execA E C (fg 16) B 41 E0 N c16_5 s) (execA E C (fg 16) B 41 E0 N c16_6) := x_seq (by rfl) s
-- a loop of f16: x16_3; body c16_4; slots [11, 10, 1, 0]
theorem x16_3 : execA E C (fg 16) B 41 E0 N c16_3 s = iterA (execA E C (fg 16) B 41 E0 N c16_4) (headA E0) N s := x_loop (by rfl) s
theorem x16_2 : execA E C (fg 16) B 41 E0 N c16_2 s = blockX 0 (fun s => (forget s.1 [0, 1, 10, 11, 12], s.2)) (execA E C (fg 16) B 41 E0 N c16_3 s) := x_block (by rfl) (by rfl) s
theorem x16_0 : execA E C (fg 16) B 41 E0 N c16_0 s = seqX (execA E C (fg 16) B 41 E0 N c16_1 s) (execA E C (fg 16) B 41 E0 N c16_2) := x_seq (by rfl) s
theorem fi_16 : fInfo E 16 = some ⟨41, #[], c16_0⟩ := nrfl rfl
theorem b_16 (args : List AV) : bodyA E C fg N 16 args H B = bodyX E [] (execA E C (fg 16) B 41 H N c16_0 (frame0 args 0 [], H)) := bodyA_eq fi_16 args H
/-! ### f8: novaculite/novaculitelaw07.weak -/
noncomputable def c8_0 : Code := kBody Proofs.Try.f8
noncomputable def c8_1 : Code := kL c8_0
noncomputable def r8_0 : Array Oper := kO c8_1
noncomputable def o8_0_0 : Oper := opN r8_0 0
noncomputable def o8_0_1 : Oper := opN r8_0 1
theorem x8_1 : execA E C (fg 8) B 16 E0 N c8_1 s = regX (runA E C B 16 r8_0 r8_0.toList s) (fun s => gcM E0 [0, 2] (forget s.1 [0, 2], s.2)) := x_reg (ops := r8_0) (by rfl) (by rfl) s
theorem r8_0_l : r8_0.toList = [o8_0_0, o8_0_1] := nrfl rfl
theorem s8_0_0 : stepA E C B 16 r8_0 o8_0_0 (φ, H) = stp (some 1) φ H (opBox (B + 1) (acells (fget φ 0))) := nrfl rfl
theorem s8_0_1 : stepA E C B 16 r8_0 o8_0_1 (φ, H) = some (fput φ 2 (.int .i64 0), H) := nrfl rfl
noncomputable def c8_2 : Code := kR c8_0
noncomputable def c8_3 : Code := kL c8_2
noncomputable def c8_4 : Code := kL c8_3
noncomputable def r8_1 : Array Oper := kO c8_4
noncomputable def o8_1_0 : Oper := opN r8_1 0
noncomputable def o8_1_1 : Oper := opN r8_1 1
noncomputable def o8_1_2 : Oper := opN r8_1 2
theorem x8_4 : execA E C (fg 8) B 16 E0 N c8_4 s = regX (runA E C B 16 r8_1 r8_1.toList s) (fun s => gcM E0 [5] (forget s.1 [5], s.2)) := x_reg (ops := r8_1) (by rfl) (by rfl) s
theorem r8_1_l : r8_1.toList = [o8_1_0, o8_1_1, o8_1_2] := nrfl rfl
theorem s8_1_0 : stepA E C B 16 r8_1 o8_1_0 (φ, H) = stp (some 5) φ H (just (aLoad E.T 27 (fget φ 1))) := nrfl rfl
theorem s8_1_1 : stepA E C B 16 r8_1 o8_1_1 (φ, H) = stp (some 6) φ H (aBuiltin E.T (B + 6) .len #[27] [(fget φ 5)]) := nrfl rfl
theorem s8_1_2 : stepA E C B 16 r8_1 o8_1_2 (φ, H) = some (fput φ 7 (.int .i64 0), H) := nrfl rfl
noncomputable def c8_5 : Code := kR c8_3
noncomputable def c8_6 : Code := kB c8_5
noncomputable def c8_7 : Code := kB c8_6
noncomputable def c8_8 : Code := kL c8_7
noncomputable def r8_2 : Array Oper := kO c8_8
noncomputable def o8_2_0 : Oper := opN r8_2 0
theorem x8_8 : execA E C (fg 8) B 16 E0 N c8_8 s = regX (runA E C B 16 r8_2 r8_2.toList s) (fun s => gcM E0 [] (forget s.1 [], s.2)) := x_reg (ops := r8_2) (by rfl) (by rfl) s
theorem r8_2_l : r8_2.toList = [o8_2_0] := nrfl rfl
theorem s8_2_0 : stepA E C B 16 r8_2 o8_2_0 (φ, H) = stp (some 8) φ H (just (aBin E.T .lss 3 (fget φ 7) (fget φ 6))) := nrfl rfl
noncomputable def c8_9 : Code := kR c8_7
noncomputable def c8_10 : Code := kL c8_9
noncomputable def c8_11 : Code := kT c8_10
theorem x8_11 : execA E C (fg 8) B 16 E0 N c8_11 s = some (.normal, s) := x_skip (by rfl) s
noncomputable def c8_12 : Code := kE c8_10
theorem x8_12 : execA E C (fg 8) B 16 E0 N c8_12 s = some (.exit 0, s) := x_exit (by rfl) s
theorem x8_10 : execA E C (fg 8) B 16 E0 N c8_10 (φ, H) = condX (fget φ 8) (execA E C (fg 8) B 16 E0 N c8_11 (φ, H)) (execA E C (fg 8) B 16 E0 N c8_12 (φ, H)) := x_cond (by rfl) _
noncomputable def c8_13 : Code := kR c8_9
noncomputable def c8_14 : Code := kL c8_13
noncomputable def c8_15 : Code := kB c8_14
noncomputable def c8_16 : Code := kL c8_15
noncomputable def r8_3 : Array Oper := kO c8_16
noncomputable def o8_3_0 : Oper := opN r8_3 0
noncomputable def o8_3_1 : Oper := opN r8_3 1
noncomputable def o8_3_2 : Oper := opN r8_3 2
theorem x8_16 : execA E C (fg 8) B 16 E0 N c8_16 s = regX (runA E C B 16 r8_3 r8_3.toList s) (fun s => gcM E0 [8, 9] (forget s.1 [8, 9], s.2)) := x_reg (ops := r8_3) (by rfl) (by rfl) s
theorem r8_3_l : r8_3.toList = [o8_3_0, o8_3_1, o8_3_2] := nrfl rfl
theorem s8_3_0 : stepA E C B 16 r8_3 o8_3_0 (φ, H) = some (fput φ 9 (fget φ 7), H) := nrfl rfl
theorem s8_3_1 : stepA E C B 16 r8_3 o8_3_1 (φ, H) = stp (some 3) φ H (opBox (B + 3) (zeroCells E.T 3)) := nrfl rfl
theorem s8_3_2 : stepA E C B 16 r8_3 o8_3_2 (φ, H) = stp none φ H (opStore E.T 3 (fget φ 3) (fget φ 9)) := nrfl rfl
noncomputable def c8_17 : Code := kR c8_15
noncomputable def c8_18 : Code := kL c8_17
noncomputable def r8_4 : Array Oper := kO c8_18
noncomputable def o8_4_0 : Oper := opN r8_4 0
noncomputable def o8_4_1 : Oper := opN r8_4 1
theorem x8_18 : execA E C (fg 8) B 16 E0 N c8_18 s = regX (runA E C B 16 r8_4 r8_4.toList s) (fun s => gcM E0 [] (forget s.1 [], s.2)) := x_reg (ops := r8_4) (by rfl) (by rfl) s
theorem r8_4_l : r8_4.toList = [o8_4_0, o8_4_1] := nrfl rfl
theorem s8_4_0 : stepA E C B 16 r8_4 o8_4_0 (φ, H) = stp (some 4) φ H (opBox (B + 4) (zeroCells E.T 4)) := nrfl rfl
theorem s8_4_1 : stepA E C B 16 r8_4 o8_4_1 (φ, H) = stp none φ H (opStore E.T 4 (fget φ 4) (.bool false)) := nrfl rfl
noncomputable def c8_19 : Code := kR c8_17
noncomputable def c8_20 : Code := kL c8_19
noncomputable def r8_5 : Array Oper := kO c8_20
noncomputable def o8_5_0 : Oper := opN r8_5 0
noncomputable def o8_5_1 : Oper := opN r8_5 1
noncomputable def o8_5_2 : Oper := opN r8_5 2
theorem x8_20 : execA E C (fg 8) B 16 E0 N c8_20 s = regX (runA E C B 16 r8_5 r8_5.toList s) (fun s => gcM E0 [10, 11, 12] (forget s.1 [10, 11, 12], s.2)) := x_reg (ops := r8_5) (by rfl) (by rfl) s
theorem r8_5_l : r8_5.toList = [o8_5_0, o8_5_1, o8_5_2] := nrfl rfl
theorem s8_5_0 : stepA E C B 16 r8_5 o8_5_0 (φ, H) = stp (some 10) φ H (just (aLoad E.T 27 (fget φ 1))) := nrfl rfl
theorem s8_5_1 : stepA E C B 16 r8_5 o8_5_1 (φ, H) = stp (some 11) φ H (.pure (.clo 32 [(fget φ 1), (fget φ 3), (fget φ 4)], [])) := nrfl rfl
theorem s8_5_2 : stepA E C B 16 r8_5 o8_5_2 (φ, H) = mutX (some 12) φ (C 16 [(fget φ 10), (fget φ 11)] H (B + 16 * 8)) := nrfl rfl
noncomputable def c8_21 : Code := kR c8_19
noncomputable def c8_22 : Code := kL c8_21
noncomputable def r8_6 : Array Oper := kO c8_22
noncomputable def o8_6_0 : Oper := opN r8_6 0
theorem x8_22 : execA E C (fg 8) B 16 E0 N c8_22 s = regX (runA E C B 16 r8_6 r8_6.toList s) (fun s => gcM E0 [4] (forget s.1 [4], s.2)) := x_reg (ops := r8_6) (by rfl) (by rfl) s
theorem r8_6_l : r8_6.toList = [o8_6_0] := nrfl rfl
theorem s8_6_0 : stepA E C B 16 r8_6 o8_6_0 (φ, H) = stp (some 13) φ H (just (aLoad E.T 4 (fget φ 4))) := nrfl rfl
noncomputable def c8_23 : Code := kR c8_21
noncomputable def c8_24 : Code := kT c8_23
noncomputable def c8_25 : Code := kL c8_24
noncomputable def r8_7 : Array Oper := kO c8_25
noncomputable def o8_7_0 : Oper := opN r8_7 0
noncomputable def o8_7_1 : Oper := opN r8_7 1
theorem x8_25 : execA E C (fg 8) B 16 E0 N c8_25 s = regX (runA E C B 16 r8_7 r8_7.toList s) (fun s => gcM E0 [1, 3, 6, 7, 13, 14] (forget s.1 [1, 3, 6, 7, 13, 14], s.2)) := x_reg (ops := r8_7) (by rfl) (by rfl) s
theorem r8_7_l : r8_7.toList = [o8_7_0, o8_7_1] := nrfl rfl
theorem s8_7_0 : stepA E C B 16 r8_7 o8_7_0 (φ, H) = stp (some 14) φ H (just (aLoad E.T 3 (fget φ 3))) := nrfl rfl
theorem s8_7_1 : stepA E C B 16 r8_7 o8_7_1 (φ, H) = some (fput φ 2 (fget φ 14), H) := nrfl rfl
noncomputable def c8_26 : Code := kR c8_24
theorem x8_26 : execA E C (fg 8) B 16 E0 N c8_26 s = some (.ret, s) := x_ret (by rfl) s
theorem x8_24 : execA E C (fg 8) B 16 E0 N c8_24 s = seqX (execA E C (fg 8) B 16 E0 N c8_25 s) (execA E C (fg 8) B 16 E0 N c8_26) := x_seq (by rfl) s
noncomputable def c8_27 : Code := kE c8_23
theorem x8_27 : execA E C (fg 8) B 16 E0 N c8_27 s = some (.normal, s) := x_skip (by rfl) s
theorem x8_23 : execA E C (fg 8) B 16 E0 N c8_23 (φ, H) = condX (fget φ 13) (execA E C (fg 8) B 16 E0 N c8_24 (φ, H)) (execA E C (fg 8) B 16 E0 N c8_27 (φ, H)) := x_cond (by rfl) _
theorem x8_21 : execA E C (fg 8) B 16 E0 N c8_21 s = seqX (execA E C (fg 8) B 16 E0 N c8_22 s) (execA E C (fg 8) B 16 E0 N c8_23) := x_seq (by rfl) s
theorem x8_19 : execA E C (fg 8) B 16 E0 N c8_19 s = seqX (execA E C (fg 8) B 16 E0 N c8_20 s) (execA E C (fg 8) B 16 E0 N c8_21) := x_seq (by rfl) s
theorem x8_17 : execA E C (fg 8) B 16 E0 N c8_17 s = seqX (execA E C (fg 8) B 16 E0 N c8_18 s) (execA E C (fg 8) B 16 E0 N c8_19) := x_seq (by rfl) s
theorem x8_15 : execA E C (fg 8) B 16 E0 N c8_15 s = seqX (execA E C (fg 8) B 16 E0 N c8_16 s) (execA E C (fg 8) B 16 E0 N c8_17) := x_seq (by rfl) s
theorem x8_14 : execA E C (fg 8) B 16 E0 N c8_14 s = blockX 1 (fun s => (forget s.1 [3, 13], s.2)) (execA E C (fg 8) B 16 E0 N c8_15 s) := x_block (by rfl) (by rfl) s
noncomputable def c8_28 : Code := kR c8_13
noncomputable def r8_8 : Array Oper := kO c8_28
noncomputable def o8_8_0 : Oper := opN r8_8 0
noncomputable def o8_8_1 : Oper := opN r8_8 1
theorem x8_28 : execA E C (fg 8) B 16 E0 N c8_28 s = regX (runA E C B 16 r8_8 r8_8.toList s) (fun s => gcM E0 [15] (forget s.1 [15], s.2)) := x_reg (ops := r8_8) (by rfl) (by rfl) s
theorem r8_8_l : r8_8.toList = [o8_8_0, o8_8_1] := nrfl rfl
theorem s8_8_0 : stepA E C B 16 r8_8 o8_8_0 (φ, H) = stp (some 15) φ H (just (aBin E.T .add 3 (fget φ 7) (.int .i64 1))) := nrfl rfl
theorem s8_8_1 : stepA E C B 16 r8_8 o8_8_1 (φ, H) = some (fput φ 7 (fget φ 15), H) := nrfl rfl
theorem x8_13 : execA E C (fg 8) B 16 E0 N c8_13 s = seqX (execA E C (fg 8) B 16 E0 N c8_14 s) (execA E C (fg 8) B 16 E0 N c8_28) := x_seq (by rfl) s
theorem x8_9 : execA E C (fg 8) B 16 E0 N c8_9 s = seqX (execA E C (fg 8) B 16 E0 N c8_10 s) (execA E C (fg 8) B 16 E0 N c8_13) := x_seq (by rfl) s
theorem x8_7 : execA E C (fg 8) B 16 E0 N c8_7 s = seqX (execA E C (fg 8) B 16 E0 N c8_8 s) (execA E C (fg 8) B 16 E0 N c8_9) := x_seq (by rfl) s
-- a loop of f8: x8_6; body c8_7; slots [7, 6, 1]
theorem x8_6 : execA E C (fg 8) B 16 E0 N c8_6 s = iterA (execA E C (fg 8) B 16 E0 N c8_7) (headA E0) N s := x_loop (by rfl) s
theorem x8_5 : execA E C (fg 8) B 16 E0 N c8_5 s = blockX 0 (fun s => (forget s.1 [1, 6, 7, 8], s.2)) (execA E C (fg 8) B 16 E0 N c8_6 s) := x_block (by rfl) (by rfl) s
theorem x8_3 : execA E C (fg 8) B 16 E0 N c8_3 s = seqX (execA E C (fg 8) B 16 E0 N c8_4 s) (execA E C (fg 8) B 16 E0 N c8_5) := x_seq (by rfl) s
noncomputable def c8_29 : Code := kR c8_2
noncomputable def c8_30 : Code := kL c8_29
noncomputable def r8_9 : Array Oper := kO c8_30
noncomputable def o8_9_0 : Oper := opN r8_9 0
theorem x8_30 : execA E C (fg 8) B 16 E0 N c8_30 s = regX (runA E C B 16 r8_9 r8_9.toList s) (fun s => gcM E0 [] (forget s.1 [], s.2)) := x_reg (ops := r8_9) (by rfl) (by rfl) s
theorem r8_9_l : r8_9.toList = [o8_9_0] := nrfl rfl
theorem s8_9_0 : stepA E C B 16 r8_9 o8_9_0 (φ, H) = some (fput φ 2 (.int .i64 (-1)), H) := nrfl rfl
noncomputable def c8_31 : Code := kR c8_29
theorem x8_31 : execA E C (fg 8) B 16 E0 N c8_31 s = some (.ret, s) := x_ret (by rfl) s
theorem x8_29 : execA E C (fg 8) B 16 E0 N c8_29 s = seqX (execA E C (fg 8) B 16 E0 N c8_30 s) (execA E C (fg 8) B 16 E0 N c8_31) := x_seq (by rfl) s
theorem x8_2 : execA E C (fg 8) B 16 E0 N c8_2 s = seqX (execA E C (fg 8) B 16 E0 N c8_3 s) (execA E C (fg 8) B 16 E0 N c8_29) := x_seq (by rfl) s
theorem x8_0 : execA E C (fg 8) B 16 E0 N c8_0 s = seqX (execA E C (fg 8) B 16 E0 N c8_1 s) (execA E C (fg 8) B 16 E0 N c8_2) := x_seq (by rfl) s
theorem fi_8 : fInfo E 8 = some ⟨16, #[.tmp 2], c8_0⟩ := nrfl rfl
theorem b_8 (args : List AV) : bodyA E C fg N 8 args H B = bodyX E [.tmp 2] (execA E C (fg 8) B 16 H N c8_0 (frame0 args 0 [], H)) := bodyA_eq fi_8 args H
/-! ### f32: novaculite/novaculitelaw07.weak$1 -/
noncomputable def c32_0 : Code := kBody Proofs.Try.f32
noncomputable def c32_1 : Code := kL c32_0
noncomputable def r32_0 : Array Oper := kO c32_1
noncomputable def o32_0_0 : Oper := opN r32_0 0
noncomputable def o32_0_1 : Oper := opN r32_0 1
noncomputable def o32_0_2 : Oper := opN r32_0 2
noncomputable def o32_0_3 : Oper := opN r32_0 3
noncomputable def o32_0_4 : Oper := opN r32_0 4
noncomputable def o32_0_5 : Oper := opN r32_0 5
noncomputable def o32_0_6 : Oper := opN r32_0 6
noncomputable def o32_0_7 : Oper := opN r32_0 7
noncomputable def o32_0_8 : Oper := opN r32_0 8
theorem x32_1 : execA E C (fg 32) B 23 E0 N c32_1 s = regX (runA E C B 23 r32_0 r32_0.toList s) (fun s => gcM E0 [0, 1, 2, 7, 8, 9, 10, 11, 12, 13] (forget s.1 [0, 1, 2, 7, 8, 9, 10, 11, 12, 13], s.2)) := x_reg (ops := r32_0) (by rfl) (by rfl) s
theorem r32_0_l : r32_0.toList = [o32_0_0, o32_0_1, o32_0_2, o32_0_3, o32_0_4, o32_0_5, o32_0_6, o32_0_7, o32_0_8] := nrfl rfl
theorem s32_0_0 : stepA E C B 23 r32_0 o32_0_0 (φ, H) = stp (some 8) φ H (just (aLoad E.T 27 (fget φ 1))) := nrfl rfl
theorem s32_0_1 : stepA E C B 23 r32_0 o32_0_1 (φ, H) = some (fput φ 9 (fget φ 0), H) := nrfl rfl
theorem s32_0_2 : stepA E C B 23 r32_0 o32_0_2 (φ, H) = stp (some 10) φ H (just (aLoad E.T 3 (fget φ 2))) := nrfl rfl
theorem s32_0_3 : stepA E C B 23 r32_0 o32_0_3 (φ, H) = stp (some 11) φ H (aCall C (fun j => B + j * 23 + 11) true 13 [(fget φ 8), (fget φ 9), (fget φ 10)]) := nrfl rfl
theorem s32_0_4 : stepA E C B 23 r32_0 o32_0_4 (φ, H) = some (fput φ 7 (fget φ 11), H) := nrfl rfl
theorem s32_0_5 : stepA E C B 23 r32_0 o32_0_5 (φ, H) = stp (some 12) φ H (opExtract (fget φ 7) 0) := nrfl rfl
theorem s32_0_6 : stepA E C B 23 r32_0 o32_0_6 (φ, H) = stp (some 13) φ H (opExtract (fget φ 7) 1) := nrfl rfl
theorem s32_0_7 : stepA E C B 23 r32_0 o32_0_7 (φ, H) = some (fput φ 5 (fget φ 12), H) := nrfl rfl
theorem s32_0_8 : stepA E C B 23 r32_0 o32_0_8 (φ, H) = some (fput φ 6 (fget φ 13), H) := nrfl rfl
noncomputable def c32_2 : Code := kR c32_0
noncomputable def r32_1 : Array Oper := kO c32_2
noncomputable def o32_1_0 : Oper := opN r32_1 0
noncomputable def o32_1_1 : Oper := opN r32_1 1
noncomputable def o32_1_2 : Oper := opN r32_1 2
noncomputable def o32_1_3 : Oper := opN r32_1 3
noncomputable def o32_1_4 : Oper := opN r32_1 4
noncomputable def o32_1_5 : Oper := opN r32_1 5
noncomputable def o32_1_6 : Oper := opN r32_1 6
noncomputable def o32_1_7 : Oper := opN r32_1 7
noncomputable def o32_1_8 : Oper := opN r32_1 8
noncomputable def o32_1_9 : Oper := opN r32_1 9
theorem x32_2 : execA E C (fg 32) B 23 E0 N c32_2 s = regX (runA E C B 23 r32_1 r32_1.toList s) (fun s => gcM E0 [3, 5, 6, 14, 15, 16, 17, 18, 19, 20, 21, 22] (forget s.1 [3, 5, 6, 14, 15, 16, 17, 18, 19, 20, 21, 22], s.2)) := x_reg (ops := r32_1) (by rfl) (by rfl) s
theorem r32_1_l : r32_1.toList = [o32_1_0, o32_1_1, o32_1_2, o32_1_3, o32_1_4, o32_1_5, o32_1_6, o32_1_7, o32_1_8, o32_1_9] := nrfl rfl
theorem s32_1_0 : stepA E C B 23 r32_1 o32_1_0 (φ, H) = stp (some 14) φ H (just (aLoad E.T 4 (fget φ 3))) := nrfl rfl
theorem s32_1_1 : stepA E C B 23 r32_1 o32_1_1 (φ, H) = some (fput φ 15 (fget φ 14), H) := nrfl rfl
theorem s32_1_2 : stepA E C B 23 r32_1 o32_1_2 (φ, H) = gd φ 15 false (fun φ => some (fput φ 16 (.tup []), H)) (fun φ => some (fput φ 16 (fget φ 5), H)) := s_gd (j := 1) (oj := o32_1_1) rfl rfl rfl (fun _ => rfl) (fun _ => rfl)
theorem s32_1_3 : stepA E C B 23 r32_1 o32_1_3 (φ, H) = gd φ 15 false (fun φ => some (fput φ 17 (.tup []), H)) (fun φ => stp (some 17) φ H (just (aBin E.T .gtr 3 (fget φ 16) (.int .i64 0)))) := s_gd (j := 1) (oj := o32_1_1) rfl rfl rfl (fun _ => rfl) (fun _ => rfl)
theorem s32_1_4 : stepA E C B 23 r32_1 o32_1_4 (φ, H) = stp (some 18) φ H (opPick (fget φ 15) (.bool true) (fget φ 17)) := nrfl rfl
theorem s32_1_5 : stepA E C B 23 r32_1 o32_1_5 (φ, H) = some (fput φ 19 (fget φ 18), H) := nrfl rfl
theorem s32_1_6 : stepA E C B 23 r32_1 o32_1_6 (φ, H) = gd φ 19 false (fun φ => some (fput φ 20 (.tup []), H)) (fun φ => some (fput φ 20 (fget φ 6), H)) := s_gd (j := 5) (oj := o32_1_5) rfl rfl rfl (fun _ => rfl) (fun _ => rfl)
theorem s32_1_7 : stepA E C B 23 r32_1 o32_1_7 (φ, H) = gd φ 19 false (fun φ => some (fput φ 21 (.tup []), H)) (fun φ => stp (some 21) φ H (just (aBin E.T .gtr 3 (fget φ 20) (.int .i64 0)))) := s_gd (j := 5) (oj := o32_1_5) rfl rfl rfl (fun _ => rfl) (fun _ => rfl)
theorem s32_1_8 : stepA E C B 23 r32_1 o32_1_8 (φ, H) = stp (some 22) φ H (opPick (fget φ 19) (.bool true) (fget φ 21)) := nrfl rfl
theorem s32_1_9 : stepA E C B 23 r32_1 o32_1_9 (φ, H) = stp none φ H (opStore E.T 4 (fget φ 3) (fget φ 22)) := nrfl rfl
theorem x32_0 : execA E C (fg 32) B 23 E0 N c32_0 s = seqX (execA E C (fg 32) B 23 E0 N c32_1 s) (execA E C (fg 32) B 23 E0 N c32_2) := x_seq (by rfl) s
theorem fi_32 : fInfo E 32 = some ⟨23, #[], c32_0⟩ := nrfl rfl
theorem b_32 (args : List AV) : bodyA E C fg N 32 args H B = bodyX E [] (execA E C (fg 32) B 23 H N c32_0 (frame0 args 0 [], H)) := bodyA_eq fi_32 args H
end Go.AM.Ytikchlfbjdfioaa
