/- A part of the proof of propReach_holds: SyP, ReA, ReB, ReC, NarA. Own work of this project; texts printed by own programs among it. -/
import Derived.KernelRfl
import Derived.Test.YtmhbnflnlglljaaReJ
section
namespace Go.AM.Ytmhbnflnlglljaa
open Go Go.AM
set_option maxRecDepth 100000
variable {C : Callee} {B N : Nat} {E0 : AHeap} (φ : AFr) (H : AHeap) (s : St)
noncomputable def c44_0 : Code := kBody Proofs.Try.f44
noncomputable def c44_1 : Code := kL c44_0
noncomputable def r44_0 : Array Oper := kO c44_1
noncomputable def o44_0_0 : Oper := opN r44_0 0
noncomputable def o44_0_1 : Oper := opN r44_0 1
theorem x44_1 : execA E C (fg 44) B 54 E0 N c44_1 s = regX (runA E C B 54 r44_0 r44_0.toList s) (fun s => gcM E0 [6, 7] (forget s.1 [6, 7], s.2)) := x_reg (ops := r44_0) (by rfl) (by rfl) s
theorem r44_0_l : r44_0.toList = [o44_0_0, o44_0_1] := nrfl rfl
theorem s44_0_0 : stepA E C B 54 r44_0 o44_0_0 (φ, H) = some (fput φ 6 (.int .i64 0), H) := nrfl rfl
theorem s44_0_1 : stepA E C B 54 r44_0 o44_0_1 (φ, H) = some (fput φ 7 (.int .i64 0), H) := nrfl rfl
noncomputable def c44_2 : Code := kR c44_0
noncomputable def c44_3 : Code := kL c44_2
noncomputable def r44_1 : Array Oper := kO c44_3
noncomputable def o44_1_0 : Oper := opN r44_1 0
noncomputable def o44_1_1 : Oper := opN r44_1 1
noncomputable def o44_1_2 : Oper := opN r44_1 2
noncomputable def o44_1_3 : Oper := opN r44_1 3
noncomputable def o44_1_4 : Oper := opN r44_1 4
noncomputable def o44_1_5 : Oper := opN r44_1 5
theorem x44_3 : execA E C (fg 44) B 54 E0 N c44_3 s = regX (runA E C B 54 r44_1 r44_1.toList s) (fun s => gcM E0 [11, 12, 13, 14] (forget s.1 [11, 12, 13, 14], s.2)) := x_reg (ops := r44_1) (by rfl) (by rfl) s
theorem r44_1_l : r44_1.toList = [o44_1_0, o44_1_1, o44_1_2, o44_1_3, o44_1_4, o44_1_5] := nrfl rfl
theorem s44_1_0 : stepA E C B 54 r44_1 o44_1_0 (φ, H) = some (fput φ 11 (fget φ 0), H) := nrfl rfl
theorem s44_1_1 : stepA E C B 54 r44_1 o44_1_1 (φ, H) = some (fput φ 12 (fget φ 2), H) := nrfl rfl
theorem s44_1_2 : stepA E C B 54 r44_1 o44_1_2 (φ, H) = stp (some 13) φ H (just (aIndexAddr E.T 47 (fget φ 11) (fget φ 12))) := nrfl rfl
theorem s44_1_3 : stepA E C B 54 r44_1 o44_1_3 (φ, H) = stp (some 14) φ H (just (aLoad E.T 3 (fget φ 13))) := nrfl rfl
theorem s44_1_4 : stepA E C B 54 r44_1 o44_1_4 (φ, H) = some (fput φ 6 (fget φ 14), H) := nrfl rfl
theorem s44_1_5 : stepA E C B 54 r44_1 o44_1_5 (φ, H) = some (fput φ 7 (.int .i64 1), H) := nrfl rfl
noncomputable def c44_4 : Code := kR c44_2
noncomputable def c44_5 : Code := kL c44_4
noncomputable def c44_6 : Code := kL c44_5
noncomputable def r44_2 : Array Oper := kO c44_6
noncomputable def o44_2_0 : Oper := opN r44_2 0
noncomputable def o44_2_1 : Oper := opN r44_2 1
noncomputable def o44_2_2 : Oper := opN r44_2 2
theorem x44_6 : execA E C (fg 44) B 54 E0 N c44_6 s = regX (runA E C B 54 r44_2 r44_2.toList s) (fun s => gcM E0 [15] (forget s.1 [15], s.2)) := x_reg (ops := r44_2) (by rfl) (by rfl) s
theorem r44_2_l : r44_2.toList = [o44_2_0, o44_2_1, o44_2_2] := nrfl rfl
theorem s44_2_0 : stepA E C B 54 r44_2 o44_2_0 (φ, H) = some (fput φ 15 (fget φ 2), H) := nrfl rfl
theorem s44_2_1 : stepA E C B 54 r44_2 o44_2_1 (φ, H) = stp (some 16) φ H (just (aBin E.T .add 3 (fget φ 15) (.int .i64 1))) := nrfl rfl
theorem s44_2_2 : stepA E C B 54 r44_2 o44_2_2 (φ, H) = some (fput φ 17 (.int .i64 0), H) := nrfl rfl
noncomputable def c44_7 : Code := kR c44_5
noncomputable def c44_8 : Code := kB c44_7
noncomputable def c44_9 : Code := kB c44_8
noncomputable def c44_10 : Code := kL c44_9
noncomputable def r44_3 : Array Oper := kO c44_10
noncomputable def o44_3_0 : Oper := opN r44_3 0
theorem x44_10 : execA E C (fg 44) B 54 E0 N c44_10 s = regX (runA E C B 54 r44_3 r44_3.toList s) (fun s => gcM E0 [] (forget s.1 [], s.2)) := x_reg (ops := r44_3) (by rfl) (by rfl) s
theorem r44_3_l : r44_3.toList = [o44_3_0] := nrfl rfl
theorem s44_3_0 : stepA E C B 54 r44_3 o44_3_0 (φ, H) = stp (some 18) φ H (just (aBin E.T .lss 3 (fget φ 17) (fget φ 16))) := nrfl rfl
noncomputable def c44_11 : Code := kR c44_9
noncomputable def c44_12 : Code := kL c44_11
noncomputable def c44_13 : Code := kT c44_12
theorem x44_13 : execA E C (fg 44) B 54 E0 N c44_13 s = some (.normal, s) := x_skip (by rfl) s
noncomputable def c44_14 : Code := kE c44_12
theorem x44_14 : execA E C (fg 44) B 54 E0 N c44_14 s = some (.exit 0, s) := x_exit (by rfl) s
theorem x44_12 : execA E C (fg 44) B 54 E0 N c44_12 (φ, H) = condX (fget φ 18) (execA E C (fg 44) B 54 E0 N c44_13 (φ, H)) (execA E C (fg 44) B 54 E0 N c44_14 (φ, H)) := x_cond (by rfl) _
noncomputable def c44_15 : Code := kR c44_11
noncomputable def c44_16 : Code := kL c44_15
noncomputable def c44_17 : Code := kB c44_16
noncomputable def c44_18 : Code := kL c44_17
noncomputable def r44_4 : Array Oper := kO c44_18
noncomputable def o44_4_0 : Oper := opN r44_4 0
noncomputable def o44_4_1 : Oper := opN r44_4 1
theorem x44_18 : execA E C (fg 44) B 54 E0 N c44_18 s = regX (runA E C B 54 r44_4 r44_4.toList s) (fun s => gcM E0 [18, 19] (forget s.1 [18, 19], s.2)) := x_reg (ops := r44_4) (by rfl) (by rfl) s
theorem r44_4_l : r44_4.toList = [o44_4_0, o44_4_1] := nrfl rfl
theorem s44_4_0 : stepA E C B 54 r44_4 o44_4_0 (φ, H) = some (fput φ 19 (fget φ 17), H) := nrfl rfl
theorem s44_4_1 : stepA E C B 54 r44_4 o44_4_1 (φ, H) = some (fput φ 8 (fget φ 19), H) := nrfl rfl
noncomputable def c44_19 : Code := kR c44_17
noncomputable def c44_20 : Code := kL c44_19
noncomputable def r44_5 : Array Oper := kO c44_20
noncomputable def o44_5_0 : Oper := opN r44_5 0
noncomputable def o44_5_1 : Oper := opN r44_5 1
noncomputable def o44_5_2 : Oper := opN r44_5 2
noncomputable def o44_5_3 : Oper := opN r44_5 3
noncomputable def o44_5_4 : Oper := opN r44_5 4
theorem x44_20 : execA E C (fg 44) B 54 E0 N c44_20 s = regX (runA E C B 54 r44_5 r44_5.toList s) (fun s => gcM E0 [20, 21, 22, 23] (forget s.1 [20, 21, 22, 23], s.2)) := x_reg (ops := r44_5) (by rfl) (by rfl) s
theorem r44_5_l : r44_5.toList = [o44_5_0, o44_5_1, o44_5_2, o44_5_3, o44_5_4] := nrfl rfl
theorem s44_5_0 : stepA E C B 54 r44_5 o44_5_0 (φ, H) = some (fput φ 20 (fget φ 1), H) := nrfl rfl
theorem s44_5_1 : stepA E C B 54 r44_5 o44_5_1 (φ, H) = some (fput φ 21 (fget φ 8), H) := nrfl rfl
theorem s44_5_2 : stepA E C B 54 r44_5 o44_5_2 (φ, H) = stp (some 22) φ H (just (aIndexAddr E.T 47 (fget φ 20) (fget φ 21))) := nrfl rfl
theorem s44_5_3 : stepA E C B 54 r44_5 o44_5_3 (φ, H) = stp (some 23) φ H (just (aLoad E.T 3 (fget φ 22))) := nrfl rfl
theorem s44_5_4 : stepA E C B 54 r44_5 o44_5_4 (φ, H) = some (fput φ 9 (fget φ 23), H) := nrfl rfl
noncomputable def c44_21 : Code := kR c44_19
noncomputable def c44_22 : Code := kL c44_21
noncomputable def c44_23 : Code := kL c44_22
noncomputable def r44_6 : Array Oper := kO c44_23
noncomputable def o44_6_0 : Oper := opN r44_6 0
noncomputable def o44_6_1 : Oper := opN r44_6 1
noncomputable def o44_6_2 : Oper := opN r44_6 2
theorem x44_23 : execA E C (fg 44) B 54 E0 N c44_23 s = regX (runA E C B 54 r44_6 r44_6.toList s) (fun s => gcM E0 [24, 25] (forget s.1 [24, 25], s.2)) := x_reg (ops := r44_6) (by rfl) (by rfl) s
theorem r44_6_l : r44_6.toList = [o44_6_0, o44_6_1, o44_6_2] := nrfl rfl
theorem s44_6_0 : stepA E C B 54 r44_6 o44_6_0 (φ, H) = some (fput φ 24 (fget φ 8), H) := nrfl rfl
theorem s44_6_1 : stepA E C B 54 r44_6 o44_6_1 (φ, H) = some (fput φ 25 (fget φ 2), H) := nrfl rfl
theorem s44_6_2 : stepA E C B 54 r44_6 o44_6_2 (φ, H) = stp (some 26) φ H (just (aBin E.T .eql 3 (fget φ 24) (fget φ 25))) := nrfl rfl
noncomputable def c44_24 : Code := kR c44_22
noncomputable def c44_25 : Code := kT c44_24
noncomputable def r44_7 : Array Oper := kO c44_25
noncomputable def o44_7_0 : Oper := opN r44_7 0
noncomputable def o44_7_1 : Oper := opN r44_7 1
noncomputable def o44_7_2 : Oper := opN r44_7 2
noncomputable def o44_7_3 : Oper := opN r44_7 3
noncomputable def o44_7_4 : Oper := opN r44_7 4
noncomputable def o44_7_5 : Oper := opN r44_7 5
theorem x44_25 : execA E C (fg 44) B 54 E0 N c44_25 s = regX (runA E C B 54 r44_7 r44_7.toList s) (fun s => gcM E0 [26, 27, 28, 29, 30, 31] (forget s.1 [26, 27, 28, 29, 30, 31], s.2)) := x_reg (ops := r44_7) (by rfl) (by rfl) s
theorem r44_7_l : r44_7.toList = [o44_7_0, o44_7_1, o44_7_2, o44_7_3, o44_7_4, o44_7_5] := nrfl rfl
theorem s44_7_0 : stepA E C B 54 r44_7 o44_7_0 (φ, H) = some (fput φ 27 (fget φ 1), H) := nrfl rfl
theorem s44_7_1 : stepA E C B 54 r44_7 o44_7_1 (φ, H) = some (fput φ 28 (fget φ 8), H) := nrfl rfl
theorem s44_7_2 : stepA E C B 54 r44_7 o44_7_2 (φ, H) = stp (some 29) φ H (just (aBin E.T .add 3 (fget φ 28) (.int .i64 1))) := nrfl rfl
theorem s44_7_3 : stepA E C B 54 r44_7 o44_7_3 (φ, H) = stp (some 30) φ H (just (aSlice E.T 47 (fget φ 27) (some (fget φ 29)) none none)) := nrfl rfl
theorem s44_7_4 : stepA E C B 54 r44_7 o44_7_4 (φ, H) = stp (some 31) φ H (aCall C (fun j => B + j * 54 + 31) true 84 [(fget φ 30)]) := nrfl rfl
theorem s44_7_5 : stepA E C B 54 r44_7 o44_7_5 (φ, H) = some (fput φ 9 (fget φ 31), H) := nrfl rfl
noncomputable def c44_26 : Code := kE c44_24
theorem x44_26 : execA E C (fg 44) B 54 E0 N c44_26 s = some (.normal, s) := x_skip (by rfl) s
theorem x44_24 : execA E C (fg 44) B 54 E0 N c44_24 (φ, H) = condX (fget φ 26) (execA E C (fg 44) B 54 E0 N c44_25 (φ, H)) (execA E C (fg 44) B 54 E0 N c44_26 (φ, H)) := x_cond (by rfl) _
theorem x44_22 : execA E C (fg 44) B 54 E0 N c44_22 s = seqX (execA E C (fg 44) B 54 E0 N c44_23 s) (execA E C (fg 44) B 54 E0 N c44_24) := x_seq (by rfl) s
noncomputable def c44_27 : Code := kR c44_21
noncomputable def c44_28 : Code := kL c44_27
noncomputable def r44_8 : Array Oper := kO c44_28
noncomputable def o44_8_0 : Oper := opN r44_8 0
noncomputable def o44_8_1 : Oper := opN r44_8 1
noncomputable def o44_8_2 : Oper := opN r44_8 2
noncomputable def o44_8_3 : Oper := opN r44_8 3
noncomputable def o44_8_4 : Oper := opN r44_8 4
theorem x44_28 : execA E C (fg 44) B 54 E0 N c44_28 s = regX (runA E C B 54 r44_8 r44_8.toList s) (fun s => gcM E0 [26, 32, 33, 34, 35] (forget s.1 [26, 32, 33, 34, 35], s.2)) := x_reg (ops := r44_8) (by rfl) (by rfl) s
theorem r44_8_l : r44_8.toList = [o44_8_0, o44_8_1, o44_8_2, o44_8_3, o44_8_4] := nrfl rfl
theorem s44_8_0 : stepA E C B 54 r44_8 o44_8_0 (φ, H) = some (fput φ 32 (fget φ 1), H) := nrfl rfl
theorem s44_8_1 : stepA E C B 54 r44_8 o44_8_1 (φ, H) = some (fput φ 33 (fget φ 8), H) := nrfl rfl
theorem s44_8_2 : stepA E C B 54 r44_8 o44_8_2 (φ, H) = stp (some 34) φ H (just (aSlice E.T 47 (fget φ 32) (some (fget φ 33)) none none)) := nrfl rfl
theorem s44_8_3 : stepA E C B 54 r44_8 o44_8_3 (φ, H) = stp (some 35) φ H (aCall C (fun j => B + j * 54 + 35) true 84 [(fget φ 34)]) := nrfl rfl
theorem s44_8_4 : stepA E C B 54 r44_8 o44_8_4 (φ, H) = some (fput φ 10 (fget φ 35), H) := nrfl rfl
noncomputable def c44_29 : Code := kR c44_27
noncomputable def r44_9 : Array Oper := kO c44_29
noncomputable def o44_9_0 : Oper := opN r44_9 0
noncomputable def o44_9_1 : Oper := opN r44_9 1
noncomputable def o44_9_2 : Oper := opN r44_9 2
noncomputable def o44_9_3 : Oper := opN r44_9 3
noncomputable def o44_9_4 : Oper := opN r44_9 4
noncomputable def o44_9_5 : Oper := opN r44_9 5
noncomputable def o44_9_6 : Oper := opN r44_9 6
noncomputable def o44_9_7 : Oper := opN r44_9 7
noncomputable def o44_9_8 : Oper := opN r44_9 8
noncomputable def o44_9_9 : Oper := opN r44_9 9
noncomputable def o44_9_10 : Oper := opN r44_9 10
noncomputable def o44_9_11 : Oper := opN r44_9 11
noncomputable def o44_9_12 : Oper := opN r44_9 12
noncomputable def o44_9_13 : Oper := opN r44_9 13
noncomputable def o44_9_14 : Oper := opN r44_9 14
noncomputable def o44_9_15 : Oper := opN r44_9 15
noncomputable def o44_9_16 : Oper := opN r44_9 16
theorem x44_29 : execA E C (fg 44) B 54 E0 N c44_29 s = regX (runA E C B 54 r44_9 r44_9.toList s) (fun s => gcM E0 [8, 9, 10, 36, 37, 38, 39, 40, 41, 42, 43, 44, 45, 46, 47, 48, 49, 50] (forget s.1 [8, 9, 10, 36, 37, 38, 39, 40, 41, 42, 43, 44, 45, 46, 47, 48, 49, 50], s.2)) := x_reg (ops := r44_9) (by rfl) (by rfl) s
theorem r44_9_l : r44_9.toList = [o44_9_0, o44_9_1, o44_9_2, o44_9_3, o44_9_4, o44_9_5, o44_9_6, o44_9_7, o44_9_8, o44_9_9, o44_9_10, o44_9_11, o44_9_12, o44_9_13, o44_9_14, o44_9_15, o44_9_16] := nrfl rfl
theorem s44_9_0 : stepA E C B 54 r44_9 o44_9_0 (φ, H) = some (fput φ 36 (fget φ 6), H) := nrfl rfl
theorem s44_9_1 : stepA E C B 54 r44_9 o44_9_1 (φ, H) = some (fput φ 37 (fget φ 10), H) := nrfl rfl
theorem s44_9_2 : stepA E C B 54 r44_9 o44_9_2 (φ, H) = stp (some 38) φ H (just (aBin E.T .mul 3 (fget φ 36) (fget φ 37))) := nrfl rfl
theorem s44_9_3 : stepA E C B 54 r44_9 o44_9_3 (φ, H) = some (fput φ 39 (fget φ 0), H) := nrfl rfl
theorem s44_9_4 : stepA E C B 54 r44_9 o44_9_4 (φ, H) = some (fput φ 40 (fget φ 8), H) := nrfl rfl
theorem s44_9_5 : stepA E C B 54 r44_9 o44_9_5 (φ, H) = stp (some 41) φ H (just (aIndexAddr E.T 47 (fget φ 39) (fget φ 40))) := nrfl rfl
theorem s44_9_6 : stepA E C B 54 r44_9 o44_9_6 (φ, H) = stp (some 42) φ H (just (aLoad E.T 3 (fget φ 41))) := nrfl rfl
theorem s44_9_7 : stepA E C B 54 r44_9 o44_9_7 (φ, H) = some (fput φ 43 (fget φ 9), H) := nrfl rfl
theorem s44_9_8 : stepA E C B 54 r44_9 o44_9_8 (φ, H) = stp (some 44) φ H (just (aBin E.T .mul 3 (fget φ 42) (fget φ 43))) := nrfl rfl
theorem s44_9_9 : stepA E C B 54 r44_9 o44_9_9 (φ, H) = some (fput φ 45 (fget φ 7), H) := nrfl rfl
theorem s44_9_10 : stepA E C B 54 r44_9 o44_9_10 (φ, H) = stp (some 46) φ H (just (aBin E.T .mul 3 (fget φ 44) (fget φ 45))) := nrfl rfl
theorem s44_9_11 : stepA E C B 54 r44_9 o44_9_11 (φ, H) = stp (some 47) φ H (just (aBin E.T .add 3 (fget φ 38) (fget φ 46))) := nrfl rfl
theorem s44_9_12 : stepA E C B 54 r44_9 o44_9_12 (φ, H) = some (fput φ 48 (fget φ 7), H) := nrfl rfl
theorem s44_9_13 : stepA E C B 54 r44_9 o44_9_13 (φ, H) = some (fput φ 49 (fget φ 10), H) := nrfl rfl
theorem s44_9_14 : stepA E C B 54 r44_9 o44_9_14 (φ, H) = stp (some 50) φ H (just (aBin E.T .mul 3 (fget φ 48) (fget φ 49))) := nrfl rfl
theorem s44_9_15 : stepA E C B 54 r44_9 o44_9_15 (φ, H) = some (fput φ 6 (fget φ 47), H) := nrfl rfl
theorem s44_9_16 : stepA E C B 54 r44_9 o44_9_16 (φ, H) = some (fput φ 7 (fget φ 50), H) := nrfl rfl
theorem x44_27 : execA E C (fg 44) B 54 E0 N c44_27 s = seqX (execA E C (fg 44) B 54 E0 N c44_28 s) (execA E C (fg 44) B 54 E0 N c44_29) := x_seq (by rfl) s
theorem x44_21 : execA E C (fg 44) B 54 E0 N c44_21 s = seqX (execA E C (fg 44) B 54 E0 N c44_22 s) (execA E C (fg 44) B 54 E0 N c44_27) := x_seq (by rfl) s
theorem x44_19 : execA E C (fg 44) B 54 E0 N c44_19 s = seqX (execA E C (fg 44) B 54 E0 N c44_20 s) (execA E C (fg 44) B 54 E0 N c44_21) := x_seq (by rfl) s
theorem x44_17 : execA E C (fg 44) B 54 E0 N c44_17 s = seqX (execA E C (fg 44) B 54 E0 N c44_18 s) (execA E C (fg 44) B 54 E0 N c44_19) := x_seq (by rfl) s
theorem x44_16 : execA E C (fg 44) B 54 E0 N c44_16 s = blockX 1 (fun s => (forget s.1 [], s.2)) (execA E C (fg 44) B 54 E0 N c44_17 s) := x_block (by rfl) (by rfl) s
noncomputable def c44_30 : Code := kR c44_15
noncomputable def r44_10 : Array Oper := kO c44_30
noncomputable def o44_10_0 : Oper := opN r44_10 0
noncomputable def o44_10_1 : Oper := opN r44_10 1
theorem x44_30 : execA E C (fg 44) B 54 E0 N c44_30 s = regX (runA E C B 54 r44_10 r44_10.toList s) (fun s => gcM E0 [51] (forget s.1 [51], s.2)) := x_reg (ops := r44_10) (by rfl) (by rfl) s
theorem r44_10_l : r44_10.toList = [o44_10_0, o44_10_1] := nrfl rfl
theorem s44_10_0 : stepA E C B 54 r44_10 o44_10_0 (φ, H) = stp (some 51) φ H (just (aBin E.T .add 3 (fget φ 17) (.int .i64 1))) := nrfl rfl
theorem s44_10_1 : stepA E C B 54 r44_10 o44_10_1 (φ, H) = some (fput φ 17 (fget φ 51), H) := nrfl rfl
theorem x44_15 : execA E C (fg 44) B 54 E0 N c44_15 s = seqX (execA E C (fg 44) B 54 E0 N c44_16 s) (execA E C (fg 44) B 54 E0 N c44_30) := x_seq (by rfl) s
theorem x44_11 : execA E C (fg 44) B 54 E0 N c44_11 s = seqX (execA E C (fg 44) B 54 E0 N c44_12 s) (execA E C (fg 44) B 54 E0 N c44_15) := x_seq (by rfl) s
theorem x44_9 : execA E C (fg 44) B 54 E0 N c44_9 s = seqX (execA E C (fg 44) B 54 E0 N c44_10 s) (execA E C (fg 44) B 54 E0 N c44_11) := x_seq (by rfl) s
theorem x44_8 : execA E C (fg 44) B 54 E0 N c44_8 s = iterA (execA E C (fg 44) B 54 E0 N c44_9) (headA E0) N s := x_loop (by rfl) s
theorem x44_7 : execA E C (fg 44) B 54 E0 N c44_7 s = blockX 0 (fun s => (forget s.1 [0, 1, 2, 16, 17, 18], s.2)) (execA E C (fg 44) B 54 E0 N c44_8 s) := x_block (by rfl) (by rfl) s
theorem x44_5 : execA E C (fg 44) B 54 E0 N c44_5 s = seqX (execA E C (fg 44) B 54 E0 N c44_6 s) (execA E C (fg 44) B 54 E0 N c44_7) := x_seq (by rfl) s
noncomputable def c44_31 : Code := kR c44_4
noncomputable def c44_32 : Code := kL c44_31
noncomputable def r44_11 : Array Oper := kO c44_32
noncomputable def o44_11_0 : Oper := opN r44_11 0
noncomputable def o44_11_1 : Oper := opN r44_11 1
noncomputable def o44_11_2 : Oper := opN r44_11 2
noncomputable def o44_11_3 : Oper := opN r44_11 3
theorem x44_32 : execA E C (fg 44) B 54 E0 N c44_32 s = regX (runA E C B 54 r44_11 r44_11.toList s) (fun s => gcM E0 [52, 53] (forget s.1 [52, 53], s.2)) := x_reg (ops := r44_11) (by rfl) (by rfl) s
theorem r44_11_l : r44_11.toList = [o44_11_0, o44_11_1, o44_11_2, o44_11_3] := nrfl rfl
theorem s44_11_0 : stepA E C B 54 r44_11 o44_11_0 (φ, H) = some (fput φ 52 (fget φ 6), H) := nrfl rfl
theorem s44_11_1 : stepA E C B 54 r44_11 o44_11_1 (φ, H) = some (fput φ 53 (fget φ 7), H) := nrfl rfl
theorem s44_11_2 : stepA E C B 54 r44_11 o44_11_2 (φ, H) = some (fput φ 6 (fget φ 52), H) := nrfl rfl
theorem s44_11_3 : stepA E C B 54 r44_11 o44_11_3 (φ, H) = some (fput φ 7 (fget φ 53), H) := nrfl rfl
noncomputable def c44_33 : Code := kR c44_31
theorem x44_33 : execA E C (fg 44) B 54 E0 N c44_33 s = some (.ret, s) := x_ret (by rfl) s
theorem x44_31 : execA E C (fg 44) B 54 E0 N c44_31 s = seqX (execA E C (fg 44) B 54 E0 N c44_32 s) (execA E C (fg 44) B 54 E0 N c44_33) := x_seq (by rfl) s
theorem x44_4 : execA E C (fg 44) B 54 E0 N c44_4 s = seqX (execA E C (fg 44) B 54 E0 N c44_5 s) (execA E C (fg 44) B 54 E0 N c44_31) := x_seq (by rfl) s
theorem x44_2 : execA E C (fg 44) B 54 E0 N c44_2 s = seqX (execA E C (fg 44) B 54 E0 N c44_3 s) (execA E C (fg 44) B 54 E0 N c44_4) := x_seq (by rfl) s
theorem x44_0 : execA E C (fg 44) B 54 E0 N c44_0 s = seqX (execA E C (fg 44) B 54 E0 N c44_1 s) (execA E C (fg 44) B 54 E0 N c44_2) := x_seq (by rfl) s
theorem fi_44 : fInfo E 44 = some ⟨54, #[.tmp 6, .tmp 7], c44_0⟩ := nrfl rfl
theorem b_44 (args : List AV) : bodyA E C fg N 44 args H B = bodyX E [.tmp 6, .tmp 7] (execA E C (fg 44) B 54 H N c44_0 (frame0 args 0 [], H)) := bodyA_eq fi_44 args H
noncomputable def c43_0 : Code := kBody Proofs.Try.f43
noncomputable def c43_1 : Code := kL c43_0
noncomputable def r43_0 : Array Oper := kO c43_1
noncomputable def o43_0_0 : Oper := opN r43_0 0
noncomputable def o43_0_1 : Oper := opN r43_0 1
noncomputable def o43_0_2 : Oper := opN r43_0 2
theorem x43_1 : execA E C (fg 43) B 49 E0 N c43_1 s = regX (runA E C B 49 r43_0 r43_0.toList s) (fun s => gcM E0 [0] (forget s.1 [0], s.2)) := x_reg (ops := r43_0) (by rfl) (by rfl) s
theorem r43_0_l : r43_0.toList = [o43_0_0, o43_0_1, o43_0_2] := nrfl rfl
theorem s43_0_0 : stepA E C B 49 r43_0 o43_0_0 (φ, H) = stp (some 3) φ H (opBox (B + 3) (acells (fget φ 0))) := nrfl rfl
theorem s43_0_1 : stepA E C B 49 r43_0 o43_0_1 (φ, H) = some (fput φ 6 (.nilsl), H) := nrfl rfl
theorem s43_0_2 : stepA E C B 49 r43_0 o43_0_2 (φ, H) = some (fput φ 7 (.nilsl), H) := nrfl rfl
noncomputable def c43_2 : Code := kR c43_0
noncomputable def c43_3 : Code := kL c43_2
noncomputable def c43_4 : Code := kL c43_3
noncomputable def r43_1 : Array Oper := kO c43_4
noncomputable def o43_1_0 : Oper := opN r43_1 0
noncomputable def o43_1_1 : Oper := opN r43_1 1
noncomputable def o43_1_2 : Oper := opN r43_1 2
noncomputable def o43_1_3 : Oper := opN r43_1 3
noncomputable def o43_1_4 : Oper := opN r43_1 4
noncomputable def o43_1_5 : Oper := opN r43_1 5
noncomputable def o43_1_6 : Oper := opN r43_1 6
noncomputable def o43_1_7 : Oper := opN r43_1 7
noncomputable def o43_1_8 : Oper := opN r43_1 8
noncomputable def o43_1_9 : Oper := opN r43_1 9
theorem x43_4 : execA E C (fg 43) B 49 E0 N c43_4 s = regX (runA E C B 49 r43_1 r43_1.toList s) (fun s => gcM E0 [1, 11, 12, 13, 14, 15, 16, 17] (forget s.1 [1, 11, 12, 13, 14, 15, 16, 17], s.2)) := x_reg (ops := r43_1) (by rfl) (by rfl) s
theorem r43_1_l : r43_1.toList = [o43_1_0, o43_1_1, o43_1_2, o43_1_3, o43_1_4, o43_1_5, o43_1_6, o43_1_7, o43_1_8, o43_1_9] := nrfl rfl
theorem s43_1_0 : stepA E C B 49 r43_1 o43_1_0 (φ, H) = stp (some 11) φ H (just (aFieldAddr E.T 89 (fget φ 3) 2)) := nrfl rfl
theorem s43_1_1 : stepA E C B 49 r43_1 o43_1_1 (φ, H) = stp (some 12) φ H (just (aFieldAddr E.T 89 (fget φ 3) 0)) := nrfl rfl
theorem s43_1_2 : stepA E C B 49 r43_1 o43_1_2 (φ, H) = stp (some 13) φ H (just (aLoad E.T 5 (fget φ 12))) := nrfl rfl
theorem s43_1_3 : stepA E C B 49 r43_1 o43_1_3 (φ, H) = stp (some 14) φ H (justO (aConv E.T 5 3 (fget φ 13))) := nrfl rfl
theorem s43_1_4 : stepA E C B 49 r43_1 o43_1_4 (φ, H) = some (fput φ 15 (fget φ 1), H) := nrfl rfl
theorem s43_1_5 : stepA E C B 49 r43_1 o43_1_5 (φ, H) = stp (some 16) φ H (just (aBin E.T .rem 3 (fget φ 14) (fget φ 15))) := nrfl rfl
theorem s43_1_6 : stepA E C B 49 r43_1 o43_1_6 (φ, H) = stp (some 17) φ H (just (aBin E.T .add 3 (.int .i64 1) (fget φ 16))) := nrfl rfl
theorem s43_1_7 : stepA E C B 49 r43_1 o43_1_7 (φ, H) = stp (some 18) φ H (just (aSlice E.T 87 (fget φ 11) none (some (fget φ 17)) none)) := nrfl rfl
theorem s43_1_8 : stepA E C B 49 r43_1 o43_1_8 (φ, H) = stp (some 19) φ H (aBuiltin E.T (B + 19) .len #[134] [(fget φ 18)]) := nrfl rfl
theorem s43_1_9 : stepA E C B 49 r43_1 o43_1_9 (φ, H) = some (fput φ 20 (.int .i64 0), H) := nrfl rfl
noncomputable def c43_5 : Code := kR c43_3
noncomputable def c43_6 : Code := kB c43_5
noncomputable def c43_7 : Code := kB c43_6
noncomputable def c43_8 : Code := kL c43_7
noncomputable def r43_2 : Array Oper := kO c43_8
noncomputable def o43_2_0 : Oper := opN r43_2 0
theorem x43_8 : execA E C (fg 43) B 49 E0 N c43_8 s = regX (runA E C B 49 r43_2 r43_2.toList s) (fun s => gcM E0 [] (forget s.1 [], s.2)) := x_reg (ops := r43_2) (by rfl) (by rfl) s
theorem r43_2_l : r43_2.toList = [o43_2_0] := nrfl rfl
theorem s43_2_0 : stepA E C B 49 r43_2 o43_2_0 (φ, H) = stp (some 21) φ H (just (aBin E.T .lss 3 (fget φ 20) (fget φ 19))) := nrfl rfl
noncomputable def c43_9 : Code := kR c43_7
noncomputable def c43_10 : Code := kL c43_9
noncomputable def c43_11 : Code := kT c43_10
theorem x43_11 : execA E C (fg 43) B 49 E0 N c43_11 s = some (.normal, s) := x_skip (by rfl) s
noncomputable def c43_12 : Code := kE c43_10
theorem x43_12 : execA E C (fg 43) B 49 E0 N c43_12 s = some (.exit 0, s) := x_exit (by rfl) s
theorem x43_10 : execA E C (fg 43) B 49 E0 N c43_10 (φ, H) = condX (fget φ 21) (execA E C (fg 43) B 49 E0 N c43_11 (φ, H)) (execA E C (fg 43) B 49 E0 N c43_12 (φ, H)) := x_cond (by rfl) _
noncomputable def c43_13 : Code := kR c43_9
noncomputable def c43_14 : Code := kL c43_13
noncomputable def c43_15 : Code := kB c43_14
noncomputable def c43_16 : Code := kL c43_15
noncomputable def r43_3 : Array Oper := kO c43_16
noncomputable def o43_3_0 : Oper := opN r43_3 0
noncomputable def o43_3_1 : Oper := opN r43_3 1
noncomputable def o43_3_2 : Oper := opN r43_3 2
noncomputable def o43_3_3 : Oper := opN r43_3 3
theorem x43_16 : execA E C (fg 43) B 49 E0 N c43_16 s = regX (runA E C B 49 r43_3 r43_3.toList s) (fun s => gcM E0 [21, 22, 23] (forget s.1 [21, 22, 23], s.2)) := x_reg (ops := r43_3) (by rfl) (by rfl) s
theorem r43_3_l : r43_3.toList = [o43_3_0, o43_3_1, o43_3_2, o43_3_3] := nrfl rfl
theorem s43_3_0 : stepA E C B 49 r43_3 o43_3_0 (φ, H) = stp (some 22) φ H (just (aIndexAddr E.T 134 (fget φ 18) (fget φ 20))) := nrfl rfl
theorem s43_3_1 : stepA E C B 49 r43_3 o43_3_1 (φ, H) = stp (some 23) φ H (just (aLoad E.T 86 (fget φ 22))) := nrfl rfl
theorem s43_3_2 : stepA E C B 49 r43_3 o43_3_2 (φ, H) = stp (some 9) φ H (opBox (B + 9) (zeroCells E.T 86)) := nrfl rfl
theorem s43_3_3 : stepA E C B 49 r43_3 o43_3_3 (φ, H) = stp none φ H (opStore E.T 86 (fget φ 9) (fget φ 23)) := nrfl rfl
noncomputable def c43_17 : Code := kR c43_15
noncomputable def c43_18 : Code := kL c43_17
noncomputable def r43_4 : Array Oper := kO c43_18
noncomputable def o43_4_0 : Oper := opN r43_4 0
noncomputable def o43_4_1 : Oper := opN r43_4 1
noncomputable def o43_4_2 : Oper := opN r43_4 2
noncomputable def o43_4_3 : Oper := opN r43_4 3
noncomputable def o43_4_4 : Oper := opN r43_4 4
noncomputable def o43_4_5 : Oper := opN r43_4 5
theorem x43_18 : execA E C (fg 43) B 49 E0 N c43_18 s = regX (runA E C B 49 r43_4 r43_4.toList s) (fun s => gcM E0 [24, 25, 26, 27, 28] (forget s.1 [24, 25, 26, 27, 28], s.2)) := x_reg (ops := r43_4) (by rfl) (by rfl) s
theorem r43_4_l : r43_4.toList = [o43_4_0, o43_4_1, o43_4_2, o43_4_3, o43_4_4, o43_4_5] := nrfl rfl
theorem s43_4_0 : stepA E C B 49 r43_4 o43_4_0 (φ, H) = stp (some 24) φ H (just (aIndexAddr E.T 86 (fget φ 9) (.int .i64 0))) := nrfl rfl
theorem s43_4_1 : stepA E C B 49 r43_4 o43_4_1 (φ, H) = stp (some 25) φ H (just (aLoad E.T 5 (fget φ 24))) := nrfl rfl
theorem s43_4_2 : stepA E C B 49 r43_4 o43_4_2 (φ, H) = stp (some 26) φ H (justO (aConv E.T 5 3 (fget φ 25))) := nrfl rfl
theorem s43_4_3 : stepA E C B 49 r43_4 o43_4_3 (φ, H) = stp (some 27) φ H (just (aBin E.T .rem 3 (fget φ 26) (.int .i64 4))) := nrfl rfl
theorem s43_4_4 : stepA E C B 49 r43_4 o43_4_4 (φ, H) = stp (some 28) φ H (just (aBin E.T .add 3 (.int .i64 1) (fget φ 27))) := nrfl rfl
theorem s43_4_5 : stepA E C B 49 r43_4 o43_4_5 (φ, H) = some (fput φ 10 (fget φ 28), H) := nrfl rfl
noncomputable def c43_19 : Code := kR c43_17
noncomputable def c43_20 : Code := kL c43_19
noncomputable def c43_21 : Code := kL c43_20
noncomputable def r43_5 : Array Oper := kO c43_21
noncomputable def o43_5_0 : Oper := opN r43_5 0
noncomputable def o43_5_1 : Oper := opN r43_5 1
noncomputable def o43_5_2 : Oper := opN r43_5 2
noncomputable def o43_5_3 : Oper := opN r43_5 3
theorem x43_21 : execA E C (fg 43) B 49 E0 N c43_21 s = regX (runA E C B 49 r43_5 r43_5.toList s) (fun s => gcM E0 [29, 30, 31] (forget s.1 [29, 30, 31], s.2)) := x_reg (ops := r43_5) (by rfl) (by rfl) s
theorem r43_5_l : r43_5.toList = [o43_5_0, o43_5_1, o43_5_2, o43_5_3] := nrfl rfl
theorem s43_5_0 : stepA E C B 49 r43_5 o43_5_0 (φ, H) = stp (some 29) φ H (just (aFieldAddr E.T 89 (fget φ 3) 1)) := nrfl rfl
theorem s43_5_1 : stepA E C B 49 r43_5 o43_5_1 (φ, H) = stp (some 30) φ H (just (aLoad E.T 5 (fget φ 29))) := nrfl rfl
theorem s43_5_2 : stepA E C B 49 r43_5 o43_5_2 (φ, H) = stp (some 31) φ H (just (aBin E.T .rem 5 (fget φ 30) (.int .u8 2))) := nrfl rfl
theorem s43_5_3 : stepA E C B 49 r43_5 o43_5_3 (φ, H) = stp (some 32) φ H (just (aBin E.T .eql 5 (fget φ 31) (.int .u8 1))) := nrfl rfl
noncomputable def c43_22 : Code := kR c43_20
noncomputable def c43_23 : Code := kT c43_22
noncomputable def r43_6 : Array Oper := kO c43_23
noncomputable def o43_6_0 : Oper := opN r43_6 0
theorem x43_23 : execA E C (fg 43) B 49 E0 N c43_23 s = regX (runA E C B 49 r43_6 r43_6.toList s) (fun s => gcM E0 [32] (forget s.1 [32], s.2)) := x_reg (ops := r43_6) (by rfl) (by rfl) s
theorem r43_6_l : r43_6.toList = [o43_6_0] := nrfl rfl
theorem s43_6_0 : stepA E C B 49 r43_6 o43_6_0 (φ, H) = some (fput φ 10 (.int .i64 3), H) := nrfl rfl
noncomputable def c43_24 : Code := kE c43_22
theorem x43_24 : execA E C (fg 43) B 49 E0 N c43_24 s = some (.normal, s) := x_skip (by rfl) s
theorem x43_22 : execA E C (fg 43) B 49 E0 N c43_22 (φ, H) = condX (fget φ 32) (execA E C (fg 43) B 49 E0 N c43_23 (φ, H)) (execA E C (fg 43) B 49 E0 N c43_24 (φ, H)) := x_cond (by rfl) _
theorem x43_20 : execA E C (fg 43) B 49 E0 N c43_20 s = seqX (execA E C (fg 43) B 49 E0 N c43_21 s) (execA E C (fg 43) B 49 E0 N c43_22) := x_seq (by rfl) s
noncomputable def c43_25 : Code := kR c43_19
noncomputable def r43_7 : Array Oper := kO c43_25
noncomputable def o43_7_0 : Oper := opN r43_7 0
noncomputable def o43_7_1 : Oper := opN r43_7 1
noncomputable def o43_7_2 : Oper := opN r43_7 2
noncomputable def o43_7_3 : Oper := opN r43_7 3
noncomputable def o43_7_4 : Oper := opN r43_7 4
noncomputable def o43_7_5 : Oper := opN r43_7 5
noncomputable def o43_7_6 : Oper := opN r43_7 6
noncomputable def o43_7_7 : Oper := opN r43_7 7
noncomputable def o43_7_8 : Oper := opN r43_7 8
noncomputable def o43_7_9 : Oper := opN r43_7 9
noncomputable def o43_7_10 : Oper := opN r43_7 10
noncomputable def o43_7_11 : Oper := opN r43_7 11
noncomputable def o43_7_12 : Oper := opN r43_7 12
noncomputable def o43_7_13 : Oper := opN r43_7 13
noncomputable def o43_7_14 : Oper := opN r43_7 14
theorem x43_25 : execA E C (fg 43) B 49 E0 N c43_25 s = regX (drawA E C B 49 r43_7 s) (fun s => gcM E0 [9, 10, 32, 33, 34, 35, 36, 37, 38, 39, 40, 41, 42, 43, 44, 45] (forget s.1 [9, 10, 32, 33, 34, 35, 36, 37, 38, 39, 40, 41, 42, 43, 44, 45], s.2)) := x_draw (ops := r43_7) (by rfl) (by rfl) s
theorem r43_7_l : r43_7.toList = [o43_7_0, o43_7_1, o43_7_2, o43_7_3, o43_7_4, o43_7_5, o43_7_6, o43_7_7, o43_7_8, o43_7_9, o43_7_10, o43_7_11, o43_7_12, o43_7_13, o43_7_14] := nrfl rfl
theorem r43_7_st : statOk r43_7 = true := by kernel_rfl
theorem r43_7_dr : drawA E C B 49 r43_7 s = if neat 49 s = true then drX r43_7 (runT E C B 49 r43_7 r43_7.toList 0 s) else none := draw_eq r43_7_st s
theorem r43_7_an (l : List (Nat × Tr)) : dynOk r43_7 l = (!writing l || dynPairs [[], [], [1], [0, 1, 2], [], [], [5], [5, 6], [], [5, 6, 7, 8], [5, 6, 7, 8, 9], [5, 6, 7, 8, 9, 10], [0, 1, 2, 3, 4, 5, 6, 7, 8, 9, 10, 11], [0, 1, 2, 3, 4, 5, 6, 7, 8, 9, 10, 11, 12], [0, 1, 2, 3, 4, 5, 6, 7, 8, 9, 10, 11, 12, 13]] (touching l)) := dynOk_eq (by kernel_rfl) l
theorem s43_7_0 : stepT E C B 49 r43_7 o43_7_0 (φ, H) = some ((fput φ 33 (fget φ 6), H), ⟨false, [], []⟩) := stT_go rfl (goT_mv rfl rfl)
theorem s43_7_1 : stepT E C B 49 r43_7 o43_7_1 (φ, H) = some ((fput φ 34 (fget φ 10), H), ⟨false, [], []⟩) := stT_go rfl (goT_mv rfl rfl)
theorem s43_7_2 : stepT E C B 49 r43_7 o43_7_2 (φ, H) = stpT (some 35) φ H (aBuildSlice E.T (B + 35) 47 1 (evO E φ) [(0, Operand.tmp 34)]) := stT_go rfl (goT_R rfl rfl)
theorem s43_7_3 : stepT E C B 49 r43_7 o43_7_3 (φ, H) = stpT (some 36) φ H (aBuiltin E.T (B + 36) .append #[47, 47] [(fget φ 33), (fget φ 35)]) := stT_go rfl (goT_R rfl rfl)
theorem s43_7_4 : stepT E C B 49 r43_7 o43_7_4 (φ, H) = some ((fput φ 37 (fget φ 7), H), ⟨false, [], []⟩) := stT_go rfl (goT_mv rfl rfl)
theorem s43_7_5 : stepT E C B 49 r43_7 o43_7_5 (φ, H) = stpT (some 38) φ H (just (aIndexAddr E.T 86 (fget φ 9) (.int .i64 1))) := stT_go rfl (goT_R rfl rfl)
theorem s43_7_6 : stepT E C B 49 r43_7 o43_7_6 (φ, H) = stpT (some 39) φ H (just (aLoad E.T 5 (fget φ 38))) := stT_go rfl (goT_R rfl rfl)
theorem s43_7_7 : stepT E C B 49 r43_7 o43_7_7 (φ, H) = stpT (some 40) φ H (justO (aConv E.T 5 3 (fget φ 39))) := stT_go rfl (goT_R rfl rfl)
theorem s43_7_8 : stepT E C B 49 r43_7 o43_7_8 (φ, H) = some ((fput φ 41 (fget φ 2), H), ⟨false, [], []⟩) := stT_go rfl (goT_mv rfl rfl)
theorem s43_7_9 : stepT E C B 49 r43_7 o43_7_9 (φ, H) = stpT (some 42) φ H (just (aBin E.T .rem 3 (fget φ 40) (fget φ 41))) := stT_go rfl (goT_R rfl rfl)
theorem s43_7_10 : stepT E C B 49 r43_7 o43_7_10 (φ, H) = stpT (some 43) φ H (just (aBin E.T .add 3 (.int .i64 1) (fget φ 42))) := stT_go rfl (goT_R rfl rfl)
theorem s43_7_11 : stepT E C B 49 r43_7 o43_7_11 (φ, H) = stpT (some 44) φ H (aBuildSlice E.T (B + 44) 47 1 (evO E φ) [(0, Operand.tmp 43)]) := stT_go rfl (goT_R rfl rfl)
theorem s43_7_12 : stepT E C B 49 r43_7 o43_7_12 (φ, H) = stpT (some 45) φ H (aBuiltin E.T (B + 45) .append #[47, 47] [(fget φ 37), (fget φ 44)]) := stT_go rfl (goT_R rfl rfl)
theorem s43_7_13 : stepT E C B 49 r43_7 o43_7_13 (φ, H) = some ((fput φ 6 (fget φ 36), H), ⟨false, [], []⟩) := stT_go rfl (goT_mv rfl rfl)
theorem s43_7_14 : stepT E C B 49 r43_7 o43_7_14 (φ, H) = some ((fput φ 7 (fget φ 45), H), ⟨false, [], []⟩) := stT_go rfl (goT_mv rfl rfl)
theorem x43_19 : execA E C (fg 43) B 49 E0 N c43_19 s = seqX (execA E C (fg 43) B 49 E0 N c43_20 s) (execA E C (fg 43) B 49 E0 N c43_25) := x_seq (by rfl) s
theorem x43_17 : execA E C (fg 43) B 49 E0 N c43_17 s = seqX (execA E C (fg 43) B 49 E0 N c43_18 s) (execA E C (fg 43) B 49 E0 N c43_19) := x_seq (by rfl) s
theorem x43_15 : execA E C (fg 43) B 49 E0 N c43_15 s = seqX (execA E C (fg 43) B 49 E0 N c43_16 s) (execA E C (fg 43) B 49 E0 N c43_17) := x_seq (by rfl) s
theorem x43_14 : execA E C (fg 43) B 49 E0 N c43_14 s = blockX 1 (fun s => (forget s.1 [], s.2)) (execA E C (fg 43) B 49 E0 N c43_15 s) := x_block (by rfl) (by rfl) s
noncomputable def c43_26 : Code := kR c43_13
noncomputable def r43_8 : Array Oper := kO c43_26
noncomputable def o43_8_0 : Oper := opN r43_8 0
noncomputable def o43_8_1 : Oper := opN r43_8 1
theorem x43_26 : execA E C (fg 43) B 49 E0 N c43_26 s = regX (runA E C B 49 r43_8 r43_8.toList s) (fun s => gcM E0 [46] (forget s.1 [46], s.2)) := x_reg (ops := r43_8) (by rfl) (by rfl) s
theorem r43_8_l : r43_8.toList = [o43_8_0, o43_8_1] := nrfl rfl
theorem s43_8_0 : stepA E C B 49 r43_8 o43_8_0 (φ, H) = stp (some 46) φ H (just (aBin E.T .add 3 (fget φ 20) (.int .i64 1))) := nrfl rfl
theorem s43_8_1 : stepA E C B 49 r43_8 o43_8_1 (φ, H) = some (fput φ 20 (fget φ 46), H) := nrfl rfl
theorem x43_13 : execA E C (fg 43) B 49 E0 N c43_13 s = seqX (execA E C (fg 43) B 49 E0 N c43_14 s) (execA E C (fg 43) B 49 E0 N c43_26) := x_seq (by rfl) s
theorem x43_9 : execA E C (fg 43) B 49 E0 N c43_9 s = seqX (execA E C (fg 43) B 49 E0 N c43_10 s) (execA E C (fg 43) B 49 E0 N c43_13) := x_seq (by rfl) s
theorem x43_7 : execA E C (fg 43) B 49 E0 N c43_7 s = seqX (execA E C (fg 43) B 49 E0 N c43_8 s) (execA E C (fg 43) B 49 E0 N c43_9) := x_seq (by rfl) s
theorem x43_6 : execA E C (fg 43) B 49 E0 N c43_6 s = iterA (execA E C (fg 43) B 49 E0 N c43_7) (headA E0) N s := x_loop (by rfl) s
theorem x43_5 : execA E C (fg 43) B 49 E0 N c43_5 s = blockX 0 (fun s => (forget s.1 [2, 3, 18, 19, 20, 21], s.2)) (execA E C (fg 43) B 49 E0 N c43_6 s) := x_block (by rfl) (by rfl) s
theorem x43_3 : execA E C (fg 43) B 49 E0 N c43_3 s = seqX (execA E C (fg 43) B 49 E0 N c43_4 s) (execA E C (fg 43) B 49 E0 N c43_5) := x_seq (by rfl) s
noncomputable def c43_27 : Code := kR c43_2
noncomputable def c43_28 : Code := kL c43_27
noncomputable def r43_9 : Array Oper := kO c43_28
noncomputable def o43_9_0 : Oper := opN r43_9 0
noncomputable def o43_9_1 : Oper := opN r43_9 1
noncomputable def o43_9_2 : Oper := opN r43_9 2
noncomputable def o43_9_3 : Oper := opN r43_9 3
theorem x43_28 : execA E C (fg 43) B 49 E0 N c43_28 s = regX (runA E C B 49 r43_9 r43_9.toList s) (fun s => gcM E0 [47, 48] (forget s.1 [47, 48], s.2)) := x_reg (ops := r43_9) (by rfl) (by rfl) s
theorem r43_9_l : r43_9.toList = [o43_9_0, o43_9_1, o43_9_2, o43_9_3] := nrfl rfl
theorem s43_9_0 : stepA E C B 49 r43_9 o43_9_0 (φ, H) = some (fput φ 47 (fget φ 6), H) := nrfl rfl
theorem s43_9_1 : stepA E C B 49 r43_9 o43_9_1 (φ, H) = some (fput φ 48 (fget φ 7), H) := nrfl rfl
theorem s43_9_2 : stepA E C B 49 r43_9 o43_9_2 (φ, H) = some (fput φ 6 (fget φ 47), H) := nrfl rfl
theorem s43_9_3 : stepA E C B 49 r43_9 o43_9_3 (φ, H) = some (fput φ 7 (fget φ 48), H) := nrfl rfl
noncomputable def c43_29 : Code := kR c43_27
theorem x43_29 : execA E C (fg 43) B 49 E0 N c43_29 s = some (.ret, s) := x_ret (by rfl) s
theorem x43_27 : execA E C (fg 43) B 49 E0 N c43_27 s = seqX (execA E C (fg 43) B 49 E0 N c43_28 s) (execA E C (fg 43) B 49 E0 N c43_29) := x_seq (by rfl) s
theorem x43_2 : execA E C (fg 43) B 49 E0 N c43_2 s = seqX (execA E C (fg 43) B 49 E0 N c43_3 s) (execA E C (fg 43) B 49 E0 N c43_27) := x_seq (by rfl) s
theorem x43_0 : execA E C (fg 43) B 49 E0 N c43_0 s = seqX (execA E C (fg 43) B 49 E0 N c43_1 s) (execA E C (fg 43) B 49 E0 N c43_2) := x_seq (by rfl) s
theorem fi_43 : fInfo E 43 = some ⟨49, #[.tmp 6, .tmp 7], c43_0⟩ := nrfl rfl
theorem b_43 (args : List AV) : bodyA E C fg N 43 args H B = bodyX E [.tmp 6, .tmp 7] (execA E C (fg 43) B 49 H N c43_0 (frame0 args 0 [], H)) := bodyA_eq fi_43 args H
noncomputable def c7_0 : Code := kBody Proofs.Try.f7
noncomputable def c7_1 : Code := kL c7_0
noncomputable def r7_0 : Array Oper := kO c7_1
noncomputable def o7_0_0 : Oper := opN r7_0 0
noncomputable def o7_0_1 : Oper := opN r7_0 1
noncomputable def o7_0_2 : Oper := opN r7_0 2
theorem x7_1 : execA E C (fg 7) B 261 E0 N c7_1 s = regX (runA E C B 261 r7_0 r7_0.toList s) (fun s => gcM E0 [0, 1, 4] (forget s.1 [0, 1, 4], s.2)) := x_reg (ops := r7_0) (by rfl) (by rfl) s
theorem r7_0_l : r7_0.toList = [o7_0_0, o7_0_1, o7_0_2] := nrfl rfl
theorem s7_0_0 : stepA E C B 261 r7_0 o7_0_0 (φ, H) = stp (some 2) φ H (opBox (B + 2) (acells (fget φ 0))) := nrfl rfl
theorem s7_0_1 : stepA E C B 261 r7_0 o7_0_1 (φ, H) = stp (some 3) φ H (opBox (B + 3) (acells (fget φ 1))) := nrfl rfl
theorem s7_0_2 : stepA E C B 261 r7_0 o7_0_2 (φ, H) = some (fput φ 4 (.bool false), H) := nrfl rfl
noncomputable def c7_2 : Code := kR c7_0
noncomputable def c7_3 : Code := kL c7_2
noncomputable def r7_1 : Array Oper := kO c7_3
noncomputable def o7_1_0 : Oper := opN r7_1 0
noncomputable def o7_1_1 : Oper := opN r7_1 1
noncomputable def o7_1_2 : Oper := opN r7_1 2
noncomputable def o7_1_3 : Oper := opN r7_1 3
noncomputable def o7_1_4 : Oper := opN r7_1 4
noncomputable def o7_1_5 : Oper := opN r7_1 5
noncomputable def o7_1_6 : Oper := opN r7_1 6
theorem x7_3 : execA E C (fg 7) B 261 E0 N c7_3 s = regX (runA E C B 261 r7_1 r7_1.toList s) (fun s => gcM E0 [2, 29, 30, 31, 32, 33] (forget s.1 [2, 29, 30, 31, 32, 33], s.2)) := x_reg (ops := r7_1) (by rfl) (by rfl) s
theorem r7_1_l : r7_1.toList = [o7_1_0, o7_1_1, o7_1_2, o7_1_3, o7_1_4, o7_1_5, o7_1_6] := nrfl rfl
theorem s7_1_0 : stepA E C B 261 r7_1 o7_1_0 (φ, H) = stp (some 30) φ H (just (aLoad E.T 89 (fget φ 2))) := nrfl rfl
theorem s7_1_1 : stepA E C B 261 r7_1 o7_1_1 (φ, H) = stp (some 31) φ H (aCall C (fun j => B + j * 261 + 31) true 43 [(fget φ 30), (.int .i64 4), (.int .i64 5)]) := nrfl rfl
theorem s7_1_2 : stepA E C B 261 r7_1 o7_1_2 (φ, H) = some (fput φ 29 (fget φ 31), H) := nrfl rfl
theorem s7_1_3 : stepA E C B 261 r7_1 o7_1_3 (φ, H) = stp (some 32) φ H (opExtract (fget φ 29) 0) := nrfl rfl
theorem s7_1_4 : stepA E C B 261 r7_1 o7_1_4 (φ, H) = stp (some 33) φ H (opExtract (fget φ 29) 1) := nrfl rfl
theorem s7_1_5 : stepA E C B 261 r7_1 o7_1_5 (φ, H) = some (fput φ 5 (fget φ 32), H) := nrfl rfl
theorem s7_1_6 : stepA E C B 261 r7_1 o7_1_6 (φ, H) = some (fput φ 6 (fget φ 33), H) := nrfl rfl
noncomputable def c7_4 : Code := kR c7_2
noncomputable def c7_5 : Code := kL c7_4
noncomputable def r7_2 : Array Oper := kO c7_5
noncomputable def o7_2_0 : Oper := opN r7_2 0
noncomputable def o7_2_1 : Oper := opN r7_2 1
noncomputable def o7_2_2 : Oper := opN r7_2 2
theorem x7_5 : execA E C (fg 7) B 261 E0 N c7_5 s = regX (runA E C B 261 r7_2 r7_2.toList s) (fun s => gcM E0 [34, 35] (forget s.1 [34, 35], s.2)) := x_reg (ops := r7_2) (by rfl) (by rfl) s
theorem r7_2_l : r7_2.toList = [o7_2_0, o7_2_1, o7_2_2] := nrfl rfl
theorem s7_2_0 : stepA E C B 261 r7_2 o7_2_0 (φ, H) = some (fput φ 34 (fget φ 5), H) := nrfl rfl
theorem s7_2_1 : stepA E C B 261 r7_2 o7_2_1 (φ, H) = stp (some 35) φ H (aBuiltin E.T (B + 35) .len #[47] [(fget φ 34)]) := nrfl rfl
theorem s7_2_2 : stepA E C B 261 r7_2 o7_2_2 (φ, H) = some (fput φ 7 (fget φ 35), H) := nrfl rfl
noncomputable def c7_6 : Code := kR c7_4
noncomputable def c7_7 : Code := kL c7_6
noncomputable def r7_3 : Array Oper := kO c7_7
noncomputable def o7_3_0 : Oper := opN r7_3 0
noncomputable def o7_3_1 : Oper := opN r7_3 1
noncomputable def o7_3_2 : Oper := opN r7_3 2
noncomputable def o7_3_3 : Oper := opN r7_3 3
noncomputable def o7_3_4 : Oper := opN r7_3 4
noncomputable def o7_3_5 : Oper := opN r7_3 5
noncomputable def o7_3_6 : Oper := opN r7_3 6
noncomputable def o7_3_7 : Oper := opN r7_3 7
theorem x7_7 : execA E C (fg 7) B 261 E0 N c7_7 s = regX (runA E C B 261 r7_3 r7_3.toList s) (fun s => gcM E0 [36, 37, 38, 39, 40, 41] (forget s.1 [36, 37, 38, 39, 40, 41], s.2)) := x_reg (ops := r7_3) (by rfl) (by rfl) s
theorem r7_3_l : r7_3.toList = [o7_3_0, o7_3_1, o7_3_2, o7_3_3, o7_3_4, o7_3_5, o7_3_6, o7_3_7] := nrfl rfl
theorem s7_3_0 : stepA E C B 261 r7_3 o7_3_0 (φ, H) = some (fput φ 37 (fget φ 5), H) := nrfl rfl
theorem s7_3_1 : stepA E C B 261 r7_3 o7_3_1 (φ, H) = some (fput φ 38 (fget φ 6), H) := nrfl rfl
theorem s7_3_2 : stepA E C B 261 r7_3 o7_3_2 (φ, H) = stp (some 39) φ H (aCall C (fun j => B + j * 261 + 39) true 22 [(fget φ 37), (fget φ 38)]) := nrfl rfl
theorem s7_3_3 : stepA E C B 261 r7_3 o7_3_3 (φ, H) = some (fput φ 36 (fget φ 39), H) := nrfl rfl
theorem s7_3_4 : stepA E C B 261 r7_3 o7_3_4 (φ, H) = stp (some 40) φ H (opExtract (fget φ 36) 0) := nrfl rfl
theorem s7_3_5 : stepA E C B 261 r7_3 o7_3_5 (φ, H) = stp (some 41) φ H (opExtract (fget φ 36) 1) := nrfl rfl
theorem s7_3_6 : stepA E C B 261 r7_3 o7_3_6 (φ, H) = some (fput φ 8 (fget φ 40), H) := nrfl rfl
theorem s7_3_7 : stepA E C B 261 r7_3 o7_3_7 (φ, H) = some (fput φ 9 (fget φ 41), H) := nrfl rfl
noncomputable def c7_8 : Code := kR c7_6
noncomputable def c7_9 : Code := kL c7_8
noncomputable def c7_10 : Code := kL c7_9
noncomputable def r7_4 : Array Oper := kO c7_10
noncomputable def o7_4_0 : Oper := opN r7_4 0
noncomputable def o7_4_1 : Oper := opN r7_4 1
noncomputable def o7_4_2 : Oper := opN r7_4 2
noncomputable def o7_4_3 : Oper := opN r7_4 3
noncomputable def o7_4_4 : Oper := opN r7_4 4
noncomputable def o7_4_5 : Oper := opN r7_4 5
noncomputable def o7_4_6 : Oper := opN r7_4 6
noncomputable def o7_4_7 : Oper := opN r7_4 7
noncomputable def o7_4_8 : Oper := opN r7_4 8
noncomputable def o7_4_9 : Oper := opN r7_4 9
noncomputable def o7_4_10 : Oper := opN r7_4 10
noncomputable def o7_4_11 : Oper := opN r7_4 11
noncomputable def o7_4_12 : Oper := opN r7_4 12
noncomputable def o7_4_13 : Oper := opN r7_4 13
theorem x7_10 : execA E C (fg 7) B 261 E0 N c7_10 s = regX (runA E C B 261 r7_4 r7_4.toList s) (fun s => gcM E0 [9, 42, 43, 44, 45, 46, 47, 48, 49, 50, 51, 52, 53, 54] (forget s.1 [9, 42, 43, 44, 45, 46, 47, 48, 49, 50, 51, 52, 53, 54], s.2)) := x_reg (ops := r7_4) (by rfl) (by rfl) s
theorem r7_4_l : r7_4.toList = [o7_4_0, o7_4_1, o7_4_2, o7_4_3, o7_4_4, o7_4_5, o7_4_6, o7_4_7, o7_4_8, o7_4_9, o7_4_10, o7_4_11, o7_4_12, o7_4_13] := nrfl rfl
theorem s7_4_0 : stepA E C B 261 r7_4 o7_4_0 (φ, H) = some (fput φ 42 (fget φ 9), H) := nrfl rfl
theorem s7_4_1 : stepA E C B 261 r7_4 o7_4_1 (φ, H) = stp (some 43) φ H (just (aBin E.T .neq 28 (fget φ 42) (.int .i64 0))) := nrfl rfl
theorem s7_4_2 : stepA E C B 261 r7_4 o7_4_2 (φ, H) = some (fput φ 44 (fget φ 43), H) := nrfl rfl
theorem s7_4_3 : stepA E C B 261 r7_4 o7_4_3 (φ, H) = gd φ 44 false (fun φ => some (fput φ 45 (.tup []), H)) (fun φ => some (fput φ 45 (fget φ 8), H)) := s_gd (j := 2) (oj := o7_4_2) rfl rfl rfl (fun _ => rfl) (fun _ => rfl)
theorem s7_4_4 : stepA E C B 261 r7_4 o7_4_4 (φ, H) = gd φ 44 false (fun φ => some (fput φ 46 (.tup []), H)) (fun φ => stp (some 46) φ H (aBuiltin E.T (B + 46) .len #[52] [(fget φ 45)])) := s_gd (j := 2) (oj := o7_4_2) rfl rfl rfl (fun _ => rfl) (fun _ => rfl)
theorem s7_4_5 : stepA E C B 261 r7_4 o7_4_5 (φ, H) = gd φ 44 false (fun φ => some (fput φ 47 (.tup []), H)) (fun φ => some (fput φ 47 (fget φ 7), H)) := s_gd (j := 2) (oj := o7_4_2) rfl rfl rfl (fun _ => rfl) (fun _ => rfl)
theorem s7_4_6 : stepA E C B 261 r7_4 o7_4_6 (φ, H) = gd φ 44 false (fun φ => some (fput φ 48 (.tup []), H)) (fun φ => stp (some 48) φ H (just (aBin E.T .neq 3 (fget φ 46) (fget φ 47)))) := s_gd (j := 2) (oj := o7_4_2) rfl rfl rfl (fun _ => rfl) (fun _ => rfl)
theorem s7_4_7 : stepA E C B 261 r7_4 o7_4_7 (φ, H) = stp (some 49) φ H (opPick (fget φ 44) (.bool true) (fget φ 48)) := nrfl rfl
theorem s7_4_8 : stepA E C B 261 r7_4 o7_4_8 (φ, H) = some (fput φ 50 (fget φ 49), H) := nrfl rfl
theorem s7_4_9 : stepA E C B 261 r7_4 o7_4_9 (φ, H) = gd φ 50 false (fun φ => some (fput φ 51 (.tup []), H)) (fun φ => some (fput φ 51 (fget φ 5), H)) := s_gd (j := 8) (oj := o7_4_8) rfl rfl rfl (fun _ => rfl) (fun _ => rfl)
theorem s7_4_10 : stepA E C B 261 r7_4 o7_4_10 (φ, H) = gd φ 50 false (fun φ => some (fput φ 52 (.tup []), H)) (fun φ => some (fput φ 52 (fget φ 6), H)) := s_gd (j := 8) (oj := o7_4_8) rfl rfl rfl (fun _ => rfl) (fun _ => rfl)
theorem s7_4_11 : stepA E C B 261 r7_4 o7_4_11 (φ, H) = gd φ 50 false (fun φ => some (fput φ 53 (.tup []), H)) (fun φ => stp (some 53) φ H (aCall C (fun j => B + j * 261 + 53) true 29 [(fget φ 51), (fget φ 52)])) := s_gd (j := 8) (oj := o7_4_8) rfl rfl rfl (fun _ => rfl) (fun _ => rfl)
theorem s7_4_12 : stepA E C B 261 r7_4 o7_4_12 (φ, H) = gd φ 50 false (fun φ => some (fput φ 54 (.tup []), H)) (fun φ => stp (some 54) φ H (just (aBin E.T .neq 28 (fget φ 53) (.int .i64 0)))) := s_gd (j := 8) (oj := o7_4_8) rfl rfl rfl (fun _ => rfl) (fun _ => rfl)
theorem s7_4_13 : stepA E C B 261 r7_4 o7_4_13 (φ, H) = stp (some 55) φ H (opPick (fget φ 50) (.bool true) (fget φ 54)) := nrfl rfl
noncomputable def c7_11 : Code := kR c7_9
noncomputable def c7_12 : Code := kT c7_11
noncomputable def c7_13 : Code := kL c7_12
noncomputable def r7_5 : Array Oper := kO c7_13
noncomputable def o7_5_0 : Oper := opN r7_5 0
theorem x7_13 : execA E C (fg 7) B 261 E0 N c7_13 s = regX (runA E C B 261 r7_5 r7_5.toList s) (fun s => gcM E0 [3, 5, 6, 7, 8, 55] (forget s.1 [3, 5, 6, 7, 8, 55], s.2)) := x_reg (ops := r7_5) (by rfl) (by rfl) s
theorem r7_5_l : r7_5.toList = [o7_5_0] := nrfl rfl
theorem s7_5_0 : stepA E C B 261 r7_5 o7_5_0 (φ, H) = some (fput φ 4 (.bool false), H) := nrfl rfl
noncomputable def c7_14 : Code := kR c7_12
theorem x7_14 : execA E C (fg 7) B 261 E0 N c7_14 s = some (.ret, s) := x_ret (by rfl) s
theorem x7_12 : execA E C (fg 7) B 261 E0 N c7_12 s = seqX (execA E C (fg 7) B 261 E0 N c7_13 s) (execA E C (fg 7) B 261 E0 N c7_14) := x_seq (by rfl) s
noncomputable def c7_15 : Code := kE c7_11
theorem x7_15 : execA E C (fg 7) B 261 E0 N c7_15 s = some (.normal, s) := x_skip (by rfl) s
theorem x7_11 : execA E C (fg 7) B 261 E0 N c7_11 (φ, H) = condX (fget φ 55) (execA E C (fg 7) B 261 E0 N c7_12 (φ, H)) (execA E C (fg 7) B 261 E0 N c7_15 (φ, H)) := x_cond (by rfl) _
theorem x7_9 : execA E C (fg 7) B 261 E0 N c7_9 s = seqX (execA E C (fg 7) B 261 E0 N c7_10 s) (execA E C (fg 7) B 261 E0 N c7_11) := x_seq (by rfl) s
noncomputable def c7_16 : Code := kR c7_8
noncomputable def c7_17 : Code := kL c7_16
noncomputable def r7_6 : Array Oper := kO c7_17
noncomputable def o7_6_0 : Oper := opN r7_6 0
noncomputable def o7_6_1 : Oper := opN r7_6 1
noncomputable def o7_6_2 : Oper := opN r7_6 2
noncomputable def o7_6_3 : Oper := opN r7_6 3
noncomputable def o7_6_4 : Oper := opN r7_6 4
noncomputable def o7_6_5 : Oper := opN r7_6 5
noncomputable def o7_6_6 : Oper := opN r7_6 6
noncomputable def o7_6_7 : Oper := opN r7_6 7
noncomputable def o7_6_8 : Oper := opN r7_6 8
noncomputable def o7_6_9 : Oper := opN r7_6 9
theorem x7_17 : execA E C (fg 7) B 261 E0 N c7_17 s = regX (runA E C B 261 r7_6 r7_6.toList s) (fun s => gcM E0 [10, 55, 56, 57, 58, 59, 60, 61, 62, 63] (forget s.1 [10, 55, 56, 57, 58, 59, 60, 61, 62, 63], s.2)) := x_reg (ops := r7_6) (by rfl) (by rfl) s
theorem r7_6_l : r7_6.toList = [o7_6_0, o7_6_1, o7_6_2, o7_6_3, o7_6_4, o7_6_5, o7_6_6, o7_6_7, o7_6_8, o7_6_9] := nrfl rfl
theorem s7_6_0 : stepA E C B 261 r7_6 o7_6_0 (φ, H) = some (fput φ 57 (fget φ 5), H) := nrfl rfl
theorem s7_6_1 : stepA E C B 261 r7_6 o7_6_1 (φ, H) = some (fput φ 58 (fget φ 6), H) := nrfl rfl
theorem s7_6_2 : stepA E C B 261 r7_6 o7_6_2 (φ, H) = some (fput φ 59 (fget φ 7), H) := nrfl rfl
theorem s7_6_3 : stepA E C B 261 r7_6 o7_6_3 (φ, H) = stp (some 60) φ H (just (aBin E.T .sub 3 (fget φ 59) (.int .i64 1))) := nrfl rfl
theorem s7_6_4 : stepA E C B 261 r7_6 o7_6_4 (φ, H) = stp (some 61) φ H (aCall C (fun j => B + j * 261 + 61) true 44 [(fget φ 57), (fget φ 58), (fget φ 60)]) := nrfl rfl
theorem s7_6_5 : stepA E C B 261 r7_6 o7_6_5 (φ, H) = some (fput φ 56 (fget φ 61), H) := nrfl rfl
theorem s7_6_6 : stepA E C B 261 r7_6 o7_6_6 (φ, H) = stp (some 62) φ H (opExtract (fget φ 56) 0) := nrfl rfl
theorem s7_6_7 : stepA E C B 261 r7_6 o7_6_7 (φ, H) = stp (some 63) φ H (opExtract (fget φ 56) 1) := nrfl rfl
theorem s7_6_8 : stepA E C B 261 r7_6 o7_6_8 (φ, H) = some (fput φ 10 (fget φ 62), H) := nrfl rfl
theorem s7_6_9 : stepA E C B 261 r7_6 o7_6_9 (φ, H) = some (fput φ 11 (fget φ 63), H) := nrfl rfl
noncomputable def c7_18 : Code := kR c7_16
noncomputable def c7_19 : Code := kL c7_18
noncomputable def r7_7 : Array Oper := kO c7_19
noncomputable def o7_7_0 : Oper := opN r7_7 0
theorem x7_19 : execA E C (fg 7) B 261 E0 N c7_19 s = regX (runA E C B 261 r7_7 r7_7.toList s) (fun s => gcM E0 [] (forget s.1 [], s.2)) := x_reg (ops := r7_7) (by rfl) (by rfl) s
theorem r7_7_l : r7_7.toList = [o7_7_0] := nrfl rfl
theorem s7_7_0 : stepA E C B 261 r7_7 o7_7_0 (φ, H) = some (fput φ 12 (.nilsl), H) := nrfl rfl
noncomputable def c7_20 : Code := kR c7_18
noncomputable def c7_21 : Code := kL c7_20
noncomputable def c7_22 : Code := kL c7_21
noncomputable def r7_8 : Array Oper := kO c7_22
noncomputable def o7_8_0 : Oper := opN r7_8 0
noncomputable def o7_8_1 : Oper := opN r7_8 1
noncomputable def o7_8_2 : Oper := opN r7_8 2
theorem x7_22 : execA E C (fg 7) B 261 E0 N c7_22 s = regX (runA E C B 261 r7_8 r7_8.toList s) (fun s => gcM E0 [8] (forget s.1 [8], s.2)) := x_reg (ops := r7_8) (by rfl) (by rfl) s
theorem r7_8_l : r7_8.toList = [o7_8_0, o7_8_1, o7_8_2] := nrfl rfl
theorem s7_8_0 : stepA E C B 261 r7_8 o7_8_0 (φ, H) = some (fput φ 64 (fget φ 8), H) := nrfl rfl
theorem s7_8_1 : stepA E C B 261 r7_8 o7_8_1 (φ, H) = stp (some 65) φ H (aBuiltin E.T (B + 65) .len #[52] [(fget φ 64)]) := nrfl rfl
theorem s7_8_2 : stepA E C B 261 r7_8 o7_8_2 (φ, H) = some (fput φ 66 (.int .i64 0), H) := nrfl rfl
noncomputable def c7_23 : Code := kR c7_21
noncomputable def c7_24 : Code := kB c7_23
noncomputable def c7_25 : Code := kB c7_24
noncomputable def c7_26 : Code := kL c7_25
noncomputable def r7_9 : Array Oper := kO c7_26
noncomputable def o7_9_0 : Oper := opN r7_9 0
theorem x7_26 : execA E C (fg 7) B 261 E0 N c7_26 s = regX (runA E C B 261 r7_9 r7_9.toList s) (fun s => gcM E0 [] (forget s.1 [], s.2)) := x_reg (ops := r7_9) (by rfl) (by rfl) s
theorem r7_9_l : r7_9.toList = [o7_9_0] := nrfl rfl
theorem s7_9_0 : stepA E C B 261 r7_9 o7_9_0 (φ, H) = stp (some 67) φ H (just (aBin E.T .lss 3 (fget φ 66) (fget φ 65))) := nrfl rfl
noncomputable def c7_27 : Code := kR c7_25
noncomputable def c7_28 : Code := kL c7_27
noncomputable def c7_29 : Code := kT c7_28
theorem x7_29 : execA E C (fg 7) B 261 E0 N c7_29 s = some (.normal, s) := x_skip (by rfl) s
noncomputable def c7_30 : Code := kE c7_28
theorem x7_30 : execA E C (fg 7) B 261 E0 N c7_30 s = some (.exit 0, s) := x_exit (by rfl) s
theorem x7_28 : execA E C (fg 7) B 261 E0 N c7_28 (φ, H) = condX (fget φ 67) (execA E C (fg 7) B 261 E0 N c7_29 (φ, H)) (execA E C (fg 7) B 261 E0 N c7_30 (φ, H)) := x_cond (by rfl) _
noncomputable def c7_31 : Code := kR c7_27
noncomputable def c7_32 : Code := kL c7_31
noncomputable def c7_33 : Code := kB c7_32
noncomputable def c7_34 : Code := kL c7_33
noncomputable def r7_10 : Array Oper := kO c7_34
noncomputable def o7_10_0 : Oper := opN r7_10 0
noncomputable def o7_10_1 : Oper := opN r7_10 1
noncomputable def o7_10_2 : Oper := opN r7_10 2
noncomputable def o7_10_3 : Oper := opN r7_10 3
noncomputable def o7_10_4 : Oper := opN r7_10 4
noncomputable def o7_10_5 : Oper := opN r7_10 5
theorem x7_34 : execA E C (fg 7) B 261 E0 N c7_34 s = regX (runA E C B 261 r7_10 r7_10.toList s) (fun s => gcM E0 [67, 68, 69, 70] (forget s.1 [67, 68, 69, 70], s.2)) := x_reg (ops := r7_10) (by rfl) (by rfl) s
theorem r7_10_l : r7_10.toList = [o7_10_0, o7_10_1, o7_10_2, o7_10_3, o7_10_4, o7_10_5] := nrfl rfl
theorem s7_10_0 : stepA E C B 261 r7_10 o7_10_0 (φ, H) = some (fput φ 68 (fget φ 66), H) := nrfl rfl
theorem s7_10_1 : stepA E C B 261 r7_10 o7_10_1 (φ, H) = stp (some 69) φ H (just (aIndexAddr E.T 52 (fget φ 64) (fget φ 66))) := nrfl rfl
theorem s7_10_2 : stepA E C B 261 r7_10 o7_10_2 (φ, H) = stp (some 70) φ H (just (aLoad E.T 27 (fget φ 69))) := nrfl rfl
theorem s7_10_3 : stepA E C B 261 r7_10 o7_10_3 (φ, H) = stp (some 14) φ H (opBox (B + 14) (zeroCells E.T 27)) := nrfl rfl
theorem s7_10_4 : stepA E C B 261 r7_10 o7_10_4 (φ, H) = some (fput φ 13 (fget φ 68), H) := nrfl rfl
theorem s7_10_5 : stepA E C B 261 r7_10 o7_10_5 (φ, H) = stp none φ H (opStore E.T 27 (fget φ 14) (fget φ 70)) := nrfl rfl
noncomputable def c7_35 : Code := kR c7_33
noncomputable def c7_36 : Code := kL c7_35
noncomputable def c7_37 : Code := kL c7_36
noncomputable def r7_11 : Array Oper := kO c7_37
noncomputable def o7_11_0 : Oper := opN r7_11 0
noncomputable def o7_11_1 : Oper := opN r7_11 1
noncomputable def o7_11_2 : Oper := opN r7_11 2
noncomputable def o7_11_3 : Oper := opN r7_11 3
noncomputable def o7_11_4 : Oper := opN r7_11 4
noncomputable def o7_11_5 : Oper := opN r7_11 5
noncomputable def o7_11_6 : Oper := opN r7_11 6
noncomputable def o7_11_7 : Oper := opN r7_11 7
noncomputable def o7_11_8 : Oper := opN r7_11 8
noncomputable def o7_11_9 : Oper := opN r7_11 9
theorem x7_37 : execA E C (fg 7) B 261 E0 N c7_37 s = regX (runA E C B 261 r7_11 r7_11.toList s) (fun s => gcM E0 [71, 72, 73, 74, 75, 76, 77, 78, 79] (forget s.1 [71, 72, 73, 74, 75, 76, 77, 78, 79], s.2)) := x_reg (ops := r7_11) (by rfl) (by rfl) s
theorem r7_11_l : r7_11.toList = [o7_11_0, o7_11_1, o7_11_2, o7_11_3, o7_11_4, o7_11_5, o7_11_6, o7_11_7, o7_11_8, o7_11_9] := nrfl rfl
theorem s7_11_0 : stepA E C B 261 r7_11 o7_11_0 (φ, H) = stp (some 71) φ H (just (aLoad E.T 27 (fget φ 14))) := nrfl rfl
theorem s7_11_1 : stepA E C B 261 r7_11 o7_11_1 (φ, H) = stp (some 72) φ H (aCall C (fun j => B + j * 261 + 72) true 33 [(fget φ 71)]) := nrfl rfl
theorem s7_11_2 : stepA E C B 261 r7_11 o7_11_2 (φ, H) = stp (some 73) φ H (justO (aUn .not (fget φ 72))) := nrfl rfl
theorem s7_11_3 : stepA E C B 261 r7_11 o7_11_3 (φ, H) = some (fput φ 74 (fget φ 73), H) := nrfl rfl
theorem s7_11_4 : stepA E C B 261 r7_11 o7_11_4 (φ, H) = gd φ 74 false (fun φ => some (fput φ 75 (.tup []), H)) (fun φ => some (fput φ 75 (fget φ 11), H)) := s_gd (j := 3) (oj := o7_11_3) rfl rfl rfl (fun _ => rfl) (fun _ => rfl)
theorem s7_11_5 : stepA E C B 261 r7_11 o7_11_5 (φ, H) = gd φ 74 false (fun φ => some (fput φ 76 (.tup []), H)) (fun φ => stp (some 76) φ H (just (aFieldAddr E.T 27 (fget φ 14) 1))) := s_gd (j := 3) (oj := o7_11_3) rfl rfl rfl (fun _ => rfl) (fun _ => rfl)
theorem s7_11_6 : stepA E C B 261 r7_11 o7_11_6 (φ, H) = gd φ 74 false (fun φ => some (fput φ 77 (.tup []), H)) (fun φ => stp (some 77) φ H (just (aLoad E.T 3 (fget φ 76)))) := s_gd (j := 3) (oj := o7_11_3) rfl rfl rfl (fun _ => rfl) (fun _ => rfl)
theorem s7_11_7 : stepA E C B 261 r7_11 o7_11_7 (φ, H) = gd φ 74 false (fun φ => some (fput φ 78 (.tup []), H)) (fun φ => stp (some 78) φ H (just (aBin E.T .rem 3 (fget φ 75) (fget φ 77)))) := s_gd (j := 3) (oj := o7_11_3) rfl rfl rfl (fun _ => rfl) (fun _ => rfl)
theorem s7_11_8 : stepA E C B 261 r7_11 o7_11_8 (φ, H) = gd φ 74 false (fun φ => some (fput φ 79 (.tup []), H)) (fun φ => stp (some 79) φ H (just (aBin E.T .neq 3 (fget φ 78) (.int .i64 0)))) := s_gd (j := 3) (oj := o7_11_3) rfl rfl rfl (fun _ => rfl) (fun _ => rfl)
theorem s7_11_9 : stepA E C B 261 r7_11 o7_11_9 (φ, H) = stp (some 80) φ H (opPick (fget φ 74) (.bool true) (fget φ 79)) := nrfl rfl
noncomputable def c7_38 : Code := kR c7_36
noncomputable def c7_39 : Code := kT c7_38
noncomputable def c7_40 : Code := kL c7_39
noncomputable def r7_12 : Array Oper := kO c7_40
noncomputable def o7_12_0 : Oper := opN r7_12 0
theorem x7_40 : execA E C (fg 7) B 261 E0 N c7_40 s = regX (runA E C B 261 r7_12 r7_12.toList s) (fun s => gcM E0 [3, 5, 6, 7, 11, 12, 13, 14, 64, 65, 66, 80] (forget s.1 [3, 5, 6, 7, 11, 12, 13, 14, 64, 65, 66, 80], s.2)) := x_reg (ops := r7_12) (by rfl) (by rfl) s
theorem r7_12_l : r7_12.toList = [o7_12_0] := nrfl rfl
theorem s7_12_0 : stepA E C B 261 r7_12 o7_12_0 (φ, H) = some (fput φ 4 (.bool false), H) := nrfl rfl
noncomputable def c7_41 : Code := kR c7_39
theorem x7_41 : execA E C (fg 7) B 261 E0 N c7_41 s = some (.ret, s) := x_ret (by rfl) s
theorem x7_39 : execA E C (fg 7) B 261 E0 N c7_39 s = seqX (execA E C (fg 7) B 261 E0 N c7_40 s) (execA E C (fg 7) B 261 E0 N c7_41) := x_seq (by rfl) s
noncomputable def c7_42 : Code := kE c7_38
theorem x7_42 : execA E C (fg 7) B 261 E0 N c7_42 s = some (.normal, s) := x_skip (by rfl) s
theorem x7_38 : execA E C (fg 7) B 261 E0 N c7_38 (φ, H) = condX (fget φ 80) (execA E C (fg 7) B 261 E0 N c7_39 (φ, H)) (execA E C (fg 7) B 261 E0 N c7_42 (φ, H)) := x_cond (by rfl) _
theorem x7_36 : execA E C (fg 7) B 261 E0 N c7_36 s = seqX (execA E C (fg 7) B 261 E0 N c7_37 s) (execA E C (fg 7) B 261 E0 N c7_38) := x_seq (by rfl) s
noncomputable def c7_43 : Code := kR c7_35
noncomputable def r7_13 : Array Oper := kO c7_43
noncomputable def o7_13_0 : Oper := opN r7_13 0
noncomputable def o7_13_1 : Oper := opN r7_13 1
noncomputable def o7_13_2 : Oper := opN r7_13 2
noncomputable def o7_13_3 : Oper := opN r7_13 3
noncomputable def o7_13_4 : Oper := opN r7_13 4
noncomputable def o7_13_5 : Oper := opN r7_13 5
noncomputable def o7_13_6 : Oper := opN r7_13 6
noncomputable def o7_13_7 : Oper := opN r7_13 7
noncomputable def o7_13_8 : Oper := opN r7_13 8
noncomputable def o7_13_9 : Oper := opN r7_13 9
noncomputable def o7_13_10 : Oper := opN r7_13 10
noncomputable def o7_13_11 : Oper := opN r7_13 11
noncomputable def o7_13_12 : Oper := opN r7_13 12
noncomputable def o7_13_13 : Oper := opN r7_13 13
noncomputable def o7_13_14 : Oper := opN r7_13 14
noncomputable def o7_13_15 : Oper := opN r7_13 15
noncomputable def o7_13_16 : Oper := opN r7_13 16
noncomputable def o7_13_17 : Oper := opN r7_13 17
noncomputable def o7_13_18 : Oper := opN r7_13 18
noncomputable def o7_13_19 : Oper := opN r7_13 19
noncomputable def o7_13_20 : Oper := opN r7_13 20
noncomputable def o7_13_21 : Oper := opN r7_13 21
noncomputable def o7_13_22 : Oper := opN r7_13 22
noncomputable def o7_13_23 : Oper := opN r7_13 23
noncomputable def o7_13_24 : Oper := opN r7_13 24
noncomputable def o7_13_25 : Oper := opN r7_13 25
theorem x7_43 : execA E C (fg 7) B 261 E0 N c7_43 s = regX (drawA E C B 261 r7_13 s) (fun s => gcM E0 [13, 14, 80, 81, 82, 83, 84, 85, 86, 87, 88, 89, 90, 91, 92, 93, 94, 95, 96, 97, 98, 99, 100, 101, 102, 103, 104, 105] (forget s.1 [13, 14, 80, 81, 82, 83, 84, 85, 86, 87, 88, 89, 90, 91, 92, 93, 94, 95, 96, 97, 98, 99, 100, 101, 102, 103, 104, 105], s.2)) := x_draw (ops := r7_13) (by rfl) (by rfl) s
theorem r7_13_l : r7_13.toList = [o7_13_0, o7_13_1, o7_13_2, o7_13_3, o7_13_4, o7_13_5, o7_13_6, o7_13_7, o7_13_8, o7_13_9, o7_13_10, o7_13_11, o7_13_12, o7_13_13, o7_13_14, o7_13_15, o7_13_16, o7_13_17, o7_13_18, o7_13_19, o7_13_20, o7_13_21, o7_13_22, o7_13_23, o7_13_24, o7_13_25] := nrfl rfl
theorem r7_13_st : statOk r7_13 = true := by kernel_rfl
theorem r7_13_dr : drawA E C B 261 r7_13 s = if neat 261 s = true then drX r7_13 (runT E C B 261 r7_13 r7_13.toList 0 s) else none := draw_eq r7_13_st s
theorem r7_13_an (l : List (Nat × Tr)) : dynOk r7_13 l = (!writing l || dynPairs [[], [], [], [1, 2], [1, 2, 3], [], [1, 2, 3, 4, 5], [], [7], [], [], [10], [9, 10, 11], [7, 8, 9, 10, 11, 12], [], [], [14, 15], [14, 15, 16], [], [], [18, 19], [18, 19, 20], [1, 2, 3, 4, 5, 6, 7, 8, 9, 10, 11, 12, 13, 14, 15, 16, 17, 18, 19, 20, 21], [1, 2, 3, 4, 5, 6, 7, 8, 9, 10, 11, 12, 13, 14, 15, 16, 17, 18, 19, 20, 21, 22], [0, 1, 2, 3, 4, 5, 6, 7, 8, 9, 10, 11, 12, 13, 14, 15, 16, 17, 18, 19, 20, 21, 22, 23], [0, 1, 2, 3, 4, 5, 6, 7, 8, 9, 10, 11, 12, 13, 14, 15, 16, 17, 18, 19, 20, 21, 22, 23, 24]] (touching l)) := dynOk_eq (by kernel_rfl) l
theorem s7_13_0 : stepT E C B 261 r7_13 o7_13_0 (φ, H) = some ((fput φ 81 (fget φ 12), H), ⟨false, [], []⟩) := stT_go rfl (goT_mv rfl rfl)
theorem s7_13_1 : stepT E C B 261 r7_13 o7_13_1 (φ, H) = some ((fput φ 82 (fget φ 5), H), ⟨false, [], []⟩) := stT_go rfl (goT_mv rfl rfl)
theorem s7_13_2 : stepT E C B 261 r7_13 o7_13_2 (φ, H) = some ((fput φ 83 (fget φ 13), H), ⟨false, [], []⟩) := stT_go rfl (goT_mv rfl rfl)
theorem s7_13_3 : stepT E C B 261 r7_13 o7_13_3 (φ, H) = stpT (some 84) φ H (just (aIndexAddr E.T 47 (fget φ 82) (fget φ 83))) := stT_go rfl (goT_R rfl rfl)
theorem s7_13_4 : stepT E C B 261 r7_13 o7_13_4 (φ, H) = stpT (some 85) φ H (just (aLoad E.T 3 (fget φ 84))) := stT_go rfl (goT_R rfl rfl)
theorem s7_13_5 : stepT E C B 261 r7_13 o7_13_5 (φ, H) = some ((fput φ 86 (fget φ 11), H), ⟨false, [], []⟩) := stT_go rfl (goT_mv rfl rfl)
theorem s7_13_6 : stepT E C B 261 r7_13 o7_13_6 (φ, H) = stpT (some 87) φ H (just (aBin E.T .mul 3 (fget φ 85) (fget φ 86))) := stT_go rfl (goT_R rfl rfl)
theorem s7_13_7 : stepT E C B 261 r7_13 o7_13_7 (φ, H) = stpT (some 88) φ H (just (aFieldAddr E.T 27 (fget φ 14) 0)) := stT_go rfl (goT_R rfl rfl)
theorem s7_13_8 : stepT E C B 261 r7_13 o7_13_8 (φ, H) = stpT (some 89) φ H (just (aLoad E.T 3 (fget φ 88))) := stT_go rfl (goT_R rfl rfl)
theorem s7_13_9 : stepT E C B 261 r7_13 o7_13_9 (φ, H) = some ((fput φ 90 (fget φ 11), H), ⟨false, [], []⟩) := stT_go rfl (goT_mv rfl rfl)
theorem s7_13_10 : stepT E C B 261 r7_13 o7_13_10 (φ, H) = stpT (some 91) φ H (just (aFieldAddr E.T 27 (fget φ 14) 1)) := stT_go rfl (goT_R rfl rfl)
theorem s7_13_11 : stepT E C B 261 r7_13 o7_13_11 (φ, H) = stpT (some 92) φ H (just (aLoad E.T 3 (fget φ 91))) := stT_go rfl (goT_R rfl rfl)
theorem s7_13_12 : stepT E C B 261 r7_13 o7_13_12 (φ, H) = stpT (some 93) φ H (just (aBin E.T .quo 3 (fget φ 90) (fget φ 92))) := stT_go rfl (goT_R rfl rfl)
theorem s7_13_13 : stepT E C B 261 r7_13 o7_13_13 (φ, H) = stpT (some 94) φ H (just (aBin E.T .mul 3 (fget φ 89) (fget φ 93))) := stT_go rfl (goT_R rfl rfl)
theorem s7_13_14 : stepT E C B 261 r7_13 o7_13_14 (φ, H) = some ((fput φ 95 (fget φ 6), H), ⟨false, [], []⟩) := stT_go rfl (goT_mv rfl rfl)
theorem s7_13_15 : stepT E C B 261 r7_13 o7_13_15 (φ, H) = some ((fput φ 96 (fget φ 13), H), ⟨false, [], []⟩) := stT_go rfl (goT_mv rfl rfl)
theorem s7_13_16 : stepT E C B 261 r7_13 o7_13_16 (φ, H) = stpT (some 97) φ H (just (aIndexAddr E.T 47 (fget φ 95) (fget φ 96))) := stT_go rfl (goT_R rfl rfl)
theorem s7_13_17 : stepT E C B 261 r7_13 o7_13_17 (φ, H) = stpT (some 98) φ H (just (aLoad E.T 3 (fget φ 97))) := stT_go rfl (goT_R rfl rfl)
theorem s7_13_18 : stepT E C B 261 r7_13 o7_13_18 (φ, H) = some ((fput φ 99 (fget φ 6), H), ⟨false, [], []⟩) := stT_go rfl (goT_mv rfl rfl)
theorem s7_13_19 : stepT E C B 261 r7_13 o7_13_19 (φ, H) = some ((fput φ 100 (fget φ 13), H), ⟨false, [], []⟩) := stT_go rfl (goT_mv rfl rfl)
theorem s7_13_20 : stepT E C B 261 r7_13 o7_13_20 (φ, H) = stpT (some 101) φ H (just (aIndexAddr E.T 47 (fget φ 99) (fget φ 100))) := stT_go rfl (goT_R rfl rfl)
theorem s7_13_21 : stepT E C B 261 r7_13 o7_13_21 (φ, H) = stpT (some 102) φ H (just (aLoad E.T 3 (fget φ 101))) := stT_go rfl (goT_R rfl rfl)
theorem s7_13_22 : stepT E C B 261 r7_13 o7_13_22 (φ, H) = stpT (some 103) φ H (justO (aBuild E.T 45 (evO E φ) [(0, Operand.tmp 87), (1, Operand.tmp 94), (2, Operand.tmp 98), (3, Operand.tmp 102)])) := stT_go rfl (goT_R rfl rfl)
theorem s7_13_23 : stepT E C B 261 r7_13 o7_13_23 (φ, H) = stpT (some 104) φ H (aBuildSlice E.T (B + 104) 22 1 (evO E φ) [(0, Operand.tmp 103)]) := stT_go rfl (goT_R rfl rfl)
theorem s7_13_24 : stepT E C B 261 r7_13 o7_13_24 (φ, H) = stpT (some 105) φ H (aBuiltin E.T (B + 105) .append #[22, 22] [(fget φ 81), (fget φ 104)]) := stT_go rfl (goT_R rfl rfl)
theorem s7_13_25 : stepT E C B 261 r7_13 o7_13_25 (φ, H) = some ((fput φ 12 (fget φ 105), H), ⟨false, [], []⟩) := stT_go rfl (goT_mv rfl rfl)
theorem x7_35 : execA E C (fg 7) B 261 E0 N c7_35 s = seqX (execA E C (fg 7) B 261 E0 N c7_36 s) (execA E C (fg 7) B 261 E0 N c7_43) := x_seq (by rfl) s
theorem x7_33 : execA E C (fg 7) B 261 E0 N c7_33 s = seqX (execA E C (fg 7) B 261 E0 N c7_34 s) (execA E C (fg 7) B 261 E0 N c7_35) := x_seq (by rfl) s
theorem x7_32 : execA E C (fg 7) B 261 E0 N c7_32 s = blockX 1 (fun s => (forget s.1 [], s.2)) (execA E C (fg 7) B 261 E0 N c7_33 s) := x_block (by rfl) (by rfl) s
noncomputable def c7_44 : Code := kR c7_31
noncomputable def r7_14 : Array Oper := kO c7_44
noncomputable def o7_14_0 : Oper := opN r7_14 0
noncomputable def o7_14_1 : Oper := opN r7_14 1
theorem x7_44 : execA E C (fg 7) B 261 E0 N c7_44 s = regX (runA E C B 261 r7_14 r7_14.toList s) (fun s => gcM E0 [106] (forget s.1 [106], s.2)) := x_reg (ops := r7_14) (by rfl) (by rfl) s
theorem r7_14_l : r7_14.toList = [o7_14_0, o7_14_1] := nrfl rfl
theorem s7_14_0 : stepA E C B 261 r7_14 o7_14_0 (φ, H) = stp (some 106) φ H (just (aBin E.T .add 3 (fget φ 66) (.int .i64 1))) := nrfl rfl
theorem s7_14_1 : stepA E C B 261 r7_14 o7_14_1 (φ, H) = some (fput φ 66 (fget φ 106), H) := nrfl rfl
theorem x7_31 : execA E C (fg 7) B 261 E0 N c7_31 s = seqX (execA E C (fg 7) B 261 E0 N c7_32 s) (execA E C (fg 7) B 261 E0 N c7_44) := x_seq (by rfl) s
theorem x7_27 : execA E C (fg 7) B 261 E0 N c7_27 s = seqX (execA E C (fg 7) B 261 E0 N c7_28 s) (execA E C (fg 7) B 261 E0 N c7_31) := x_seq (by rfl) s
theorem x7_25 : execA E C (fg 7) B 261 E0 N c7_25 s = seqX (execA E C (fg 7) B 261 E0 N c7_26 s) (execA E C (fg 7) B 261 E0 N c7_27) := x_seq (by rfl) s
theorem x7_24 : execA E C (fg 7) B 261 E0 N c7_24 s = iterA (execA E C (fg 7) B 261 E0 N c7_25) (headA E0) N s := x_loop (by rfl) s
theorem x7_23 : execA E C (fg 7) B 261 E0 N c7_23 s = blockX 0 (fun s => (forget s.1 [11, 64, 65, 66, 67], s.2)) (execA E C (fg 7) B 261 E0 N c7_24 s) := x_block (by rfl) (by rfl) s
theorem x7_21 : execA E C (fg 7) B 261 E0 N c7_21 s = seqX (execA E C (fg 7) B 261 E0 N c7_22 s) (execA E C (fg 7) B 261 E0 N c7_23) := x_seq (by rfl) s
noncomputable def c7_45 : Code := kR c7_20
noncomputable def c7_46 : Code := kL c7_45
noncomputable def r7_15 : Array Oper := kO c7_46
noncomputable def o7_15_0 : Oper := opN r7_15 0
noncomputable def o7_15_1 : Oper := opN r7_15 1
noncomputable def o7_15_2 : Oper := opN r7_15 2
noncomputable def o7_15_3 : Oper := opN r7_15 3
noncomputable def o7_15_4 : Oper := opN r7_15 4
noncomputable def o7_15_5 : Oper := opN r7_15 5
noncomputable def o7_15_6 : Oper := opN r7_15 6
theorem x7_46 : execA E C (fg 7) B 261 E0 N c7_46 s = regX (runA E C B 261 r7_15 r7_15.toList s) (fun s => gcM E0 [107, 108, 109, 110, 111] (forget s.1 [107, 108, 109, 110, 111], s.2)) := x_reg (ops := r7_15) (by rfl) (by rfl) s
theorem r7_15_l : r7_15.toList = [o7_15_0, o7_15_1, o7_15_2, o7_15_3, o7_15_4, o7_15_5, o7_15_6] := nrfl rfl
theorem s7_15_0 : stepA E C B 261 r7_15 o7_15_0 (φ, H) = some (fput φ 108 (fget φ 12), H) := nrfl rfl
theorem s7_15_1 : stepA E C B 261 r7_15 o7_15_1 (φ, H) = stp (some 109) φ H (aCall C (fun j => B + j * 261 + 109) true 32 [(fget φ 108)]) := nrfl rfl
theorem s7_15_2 : stepA E C B 261 r7_15 o7_15_2 (φ, H) = some (fput φ 107 (fget φ 109), H) := nrfl rfl
theorem s7_15_3 : stepA E C B 261 r7_15 o7_15_3 (φ, H) = stp (some 110) φ H (opExtract (fget φ 107) 0) := nrfl rfl
theorem s7_15_4 : stepA E C B 261 r7_15 o7_15_4 (φ, H) = stp (some 111) φ H (opExtract (fget φ 107) 1) := nrfl rfl
theorem s7_15_5 : stepA E C B 261 r7_15 o7_15_5 (φ, H) = some (fput φ 15 (fget φ 110), H) := nrfl rfl
theorem s7_15_6 : stepA E C B 261 r7_15 o7_15_6 (φ, H) = some (fput φ 9 (fget φ 111), H) := nrfl rfl
noncomputable def c7_47 : Code := kR c7_45
noncomputable def c7_48 : Code := kL c7_47
noncomputable def c7_49 : Code := kL c7_48
noncomputable def r7_16 : Array Oper := kO c7_49
noncomputable def o7_16_0 : Oper := opN r7_16 0
noncomputable def o7_16_1 : Oper := opN r7_16 1
noncomputable def o7_16_2 : Oper := opN r7_16 2
noncomputable def o7_16_3 : Oper := opN r7_16 3
noncomputable def o7_16_4 : Oper := opN r7_16 4
noncomputable def o7_16_5 : Oper := opN r7_16 5
noncomputable def o7_16_6 : Oper := opN r7_16 6
noncomputable def o7_16_7 : Oper := opN r7_16 7
noncomputable def o7_16_8 : Oper := opN r7_16 8
noncomputable def o7_16_9 : Oper := opN r7_16 9
noncomputable def o7_16_10 : Oper := opN r7_16 10
theorem x7_49 : execA E C (fg 7) B 261 E0 N c7_49 s = regX (runA E C B 261 r7_16 r7_16.toList s) (fun s => gcM E0 [9, 15, 112, 113, 114, 115, 116, 117, 118, 119, 120, 121] (forget s.1 [9, 15, 112, 113, 114, 115, 116, 117, 118, 119, 120, 121], s.2)) := x_reg (ops := r7_16) (by rfl) (by rfl) s
theorem r7_16_l : r7_16.toList = [o7_16_0, o7_16_1, o7_16_2, o7_16_3, o7_16_4, o7_16_5, o7_16_6, o7_16_7, o7_16_8, o7_16_9, o7_16_10] := nrfl rfl
theorem s7_16_0 : stepA E C B 261 r7_16 o7_16_0 (φ, H) = some (fput φ 112 (fget φ 9), H) := nrfl rfl
theorem s7_16_1 : stepA E C B 261 r7_16 o7_16_1 (φ, H) = stp (some 113) φ H (just (aBin E.T .neq 28 (fget φ 112) (.int .i64 0))) := nrfl rfl
theorem s7_16_2 : stepA E C B 261 r7_16 o7_16_2 (φ, H) = some (fput φ 114 (fget φ 113), H) := nrfl rfl
theorem s7_16_3 : stepA E C B 261 r7_16 o7_16_3 (φ, H) = gd φ 114 false (fun φ => some (fput φ 115 (.tup []), H)) (fun φ => some (fput φ 115 (fget φ 15), H)) := s_gd (j := 2) (oj := o7_16_2) rfl rfl rfl (fun _ => rfl) (fun _ => rfl)
theorem s7_16_4 : stepA E C B 261 r7_16 o7_16_4 (φ, H) = gd φ 114 false (fun φ => some (fput φ 116 (.tup []), H)) (fun φ => stp (some 116) φ H (justO (aUn .not (fget φ 115)))) := s_gd (j := 2) (oj := o7_16_2) rfl rfl rfl (fun _ => rfl) (fun _ => rfl)
theorem s7_16_5 : stepA E C B 261 r7_16 o7_16_5 (φ, H) = stp (some 117) φ H (opPick (fget φ 114) (.bool true) (fget φ 116)) := nrfl rfl
theorem s7_16_6 : stepA E C B 261 r7_16 o7_16_6 (φ, H) = some (fput φ 118 (fget φ 117), H) := nrfl rfl
theorem s7_16_7 : stepA E C B 261 r7_16 o7_16_7 (φ, H) = gd φ 118 false (fun φ => some (fput φ 119 (.tup []), H)) (fun φ => some (fput φ 119 (fget φ 12), H)) := s_gd (j := 6) (oj := o7_16_6) rfl rfl rfl (fun _ => rfl) (fun _ => rfl)
theorem s7_16_8 : stepA E C B 261 r7_16 o7_16_8 (φ, H) = gd φ 118 false (fun φ => some (fput φ 120 (.tup []), H)) (fun φ => stp (some 120) φ H (aCall C (fun j => B + j * 261 + 120) true 45 [(fget φ 119)])) := s_gd (j := 6) (oj := o7_16_6) rfl rfl rfl (fun _ => rfl) (fun _ => rfl)
theorem s7_16_9 : stepA E C B 261 r7_16 o7_16_9 (φ, H) = gd φ 118 false (fun φ => some (fput φ 121 (.tup []), H)) (fun φ => stp (some 121) φ H (just (aBin E.T .geq 3 (fget φ 120) (.int .i64 0)))) := s_gd (j := 6) (oj := o7_16_6) rfl rfl rfl (fun _ => rfl) (fun _ => rfl)
theorem s7_16_10 : stepA E C B 261 r7_16 o7_16_10 (φ, H) = stp (some 122) φ H (opPick (fget φ 118) (.bool true) (fget φ 121)) := nrfl rfl
noncomputable def c7_50 : Code := kR c7_48
noncomputable def c7_51 : Code := kT c7_50
noncomputable def c7_52 : Code := kL c7_51
noncomputable def r7_17 : Array Oper := kO c7_52
noncomputable def o7_17_0 : Oper := opN r7_17 0
theorem x7_52 : execA E C (fg 7) B 261 E0 N c7_52 s = regX (runA E C B 261 r7_17 r7_17.toList s) (fun s => gcM E0 [3, 5, 6, 7, 12, 122] (forget s.1 [3, 5, 6, 7, 12, 122], s.2)) := x_reg (ops := r7_17) (by rfl) (by rfl) s
theorem r7_17_l : r7_17.toList = [o7_17_0] := nrfl rfl
theorem s7_17_0 : stepA E C B 261 r7_17 o7_17_0 (φ, H) = some (fput φ 4 (.bool false), H) := nrfl rfl
noncomputable def c7_53 : Code := kR c7_51
theorem x7_53 : execA E C (fg 7) B 261 E0 N c7_53 s = some (.ret, s) := x_ret (by rfl) s
theorem x7_51 : execA E C (fg 7) B 261 E0 N c7_51 s = seqX (execA E C (fg 7) B 261 E0 N c7_52 s) (execA E C (fg 7) B 261 E0 N c7_53) := x_seq (by rfl) s
noncomputable def c7_54 : Code := kE c7_50
theorem x7_54 : execA E C (fg 7) B 261 E0 N c7_54 s = some (.normal, s) := x_skip (by rfl) s
theorem x7_50 : execA E C (fg 7) B 261 E0 N c7_50 (φ, H) = condX (fget φ 122) (execA E C (fg 7) B 261 E0 N c7_51 (φ, H)) (execA E C (fg 7) B 261 E0 N c7_54 (φ, H)) := x_cond (by rfl) _
theorem x7_48 : execA E C (fg 7) B 261 E0 N c7_48 s = seqX (execA E C (fg 7) B 261 E0 N c7_49 s) (execA E C (fg 7) B 261 E0 N c7_50) := x_seq (by rfl) s
noncomputable def c7_55 : Code := kR c7_47
noncomputable def c7_56 : Code := kL c7_55
noncomputable def c7_57 : Code := kL c7_56
noncomputable def r7_18 : Array Oper := kO c7_57
noncomputable def o7_18_0 : Oper := opN r7_18 0
noncomputable def o7_18_1 : Oper := opN r7_18 1
theorem x7_57 : execA E C (fg 7) B 261 E0 N c7_57 s = regX (runA E C B 261 r7_18 r7_18.toList s) (fun s => gcM E0 [122] (forget s.1 [122], s.2)) := x_reg (ops := r7_18) (by rfl) (by rfl) s
theorem r7_18_l : r7_18.toList = [o7_18_0, o7_18_1] := nrfl rfl
theorem s7_18_0 : stepA E C B 261 r7_18 o7_18_0 (φ, H) = some (fput φ 123 (fget φ 7), H) := nrfl rfl
theorem s7_18_1 : stepA E C B 261 r7_18 o7_18_1 (φ, H) = some (fput φ 124 (.int .i64 0), H) := nrfl rfl
noncomputable def c7_58 : Code := kR c7_56
noncomputable def c7_59 : Code := kB c7_58
noncomputable def c7_60 : Code := kB c7_59
noncomputable def c7_61 : Code := kL c7_60
noncomputable def r7_19 : Array Oper := kO c7_61
noncomputable def o7_19_0 : Oper := opN r7_19 0
theorem x7_61 : execA E C (fg 7) B 261 E0 N c7_61 s = regX (runA E C B 261 r7_19 r7_19.toList s) (fun s => gcM E0 [] (forget s.1 [], s.2)) := x_reg (ops := r7_19) (by rfl) (by rfl) s
theorem r7_19_l : r7_19.toList = [o7_19_0] := nrfl rfl
theorem s7_19_0 : stepA E C B 261 r7_19 o7_19_0 (φ, H) = stp (some 125) φ H (just (aBin E.T .lss 3 (fget φ 124) (fget φ 123))) := nrfl rfl
noncomputable def c7_62 : Code := kR c7_60
noncomputable def c7_63 : Code := kL c7_62
noncomputable def c7_64 : Code := kT c7_63
theorem x7_64 : execA E C (fg 7) B 261 E0 N c7_64 s = some (.normal, s) := x_skip (by rfl) s
noncomputable def c7_65 : Code := kE c7_63
theorem x7_65 : execA E C (fg 7) B 261 E0 N c7_65 s = some (.exit 2, s) := x_exit (by rfl) s
theorem x7_63 : execA E C (fg 7) B 261 E0 N c7_63 (φ, H) = condX (fget φ 125) (execA E C (fg 7) B 261 E0 N c7_64 (φ, H)) (execA E C (fg 7) B 261 E0 N c7_65 (φ, H)) := x_cond (by rfl) _
noncomputable def c7_66 : Code := kR c7_62
noncomputable def c7_67 : Code := kL c7_66
noncomputable def c7_68 : Code := kB c7_67
noncomputable def c7_69 : Code := kL c7_68
noncomputable def r7_20 : Array Oper := kO c7_69
noncomputable def o7_20_0 : Oper := opN r7_20 0
noncomputable def o7_20_1 : Oper := opN r7_20 1
theorem x7_69 : execA E C (fg 7) B 261 E0 N c7_69 s = regX (runA E C B 261 r7_20 r7_20.toList s) (fun s => gcM E0 [125, 126] (forget s.1 [125, 126], s.2)) := x_reg (ops := r7_20) (by rfl) (by rfl) s
theorem r7_20_l : r7_20.toList = [o7_20_0, o7_20_1] := nrfl rfl
theorem s7_20_0 : stepA E C B 261 r7_20 o7_20_0 (φ, H) = some (fput φ 126 (fget φ 124), H) := nrfl rfl
theorem s7_20_1 : stepA E C B 261 r7_20 o7_20_1 (φ, H) = some (fput φ 16 (fget φ 126), H) := nrfl rfl
noncomputable def c7_70 : Code := kR c7_68
noncomputable def c7_71 : Code := kL c7_70
noncomputable def r7_21 : Array Oper := kO c7_71
noncomputable def o7_21_0 : Oper := opN r7_21 0
noncomputable def o7_21_1 : Oper := opN r7_21 1
noncomputable def o7_21_2 : Oper := opN r7_21 2
noncomputable def o7_21_3 : Oper := opN r7_21 3
noncomputable def o7_21_4 : Oper := opN r7_21 4
noncomputable def o7_21_5 : Oper := opN r7_21 5
noncomputable def o7_21_6 : Oper := opN r7_21 6
noncomputable def o7_21_7 : Oper := opN r7_21 7
noncomputable def o7_21_8 : Oper := opN r7_21 8
theorem x7_71 : execA E C (fg 7) B 261 E0 N c7_71 s = regX (runA E C B 261 r7_21 r7_21.toList s) (fun s => gcM E0 [127, 128, 129, 130, 131, 132, 133] (forget s.1 [127, 128, 129, 130, 131, 132, 133], s.2)) := x_reg (ops := r7_21) (by rfl) (by rfl) s
theorem r7_21_l : r7_21.toList = [o7_21_0, o7_21_1, o7_21_2, o7_21_3, o7_21_4, o7_21_5, o7_21_6, o7_21_7, o7_21_8] := nrfl rfl
theorem s7_21_0 : stepA E C B 261 r7_21 o7_21_0 (φ, H) = some (fput φ 128 (fget φ 5), H) := nrfl rfl
theorem s7_21_1 : stepA E C B 261 r7_21 o7_21_1 (φ, H) = some (fput φ 129 (fget φ 6), H) := nrfl rfl
theorem s7_21_2 : stepA E C B 261 r7_21 o7_21_2 (φ, H) = some (fput φ 130 (fget φ 16), H) := nrfl rfl
theorem s7_21_3 : stepA E C B 261 r7_21 o7_21_3 (φ, H) = stp (some 131) φ H (aCall C (fun j => B + j * 261 + 131) true 44 [(fget φ 128), (fget φ 129), (fget φ 130)]) := nrfl rfl
theorem s7_21_4 : stepA E C B 261 r7_21 o7_21_4 (φ, H) = some (fput φ 127 (fget φ 131), H) := nrfl rfl
theorem s7_21_5 : stepA E C B 261 r7_21 o7_21_5 (φ, H) = stp (some 132) φ H (opExtract (fget φ 127) 0) := nrfl rfl
theorem s7_21_6 : stepA E C B 261 r7_21 o7_21_6 (φ, H) = stp (some 133) φ H (opExtract (fget φ 127) 1) := nrfl rfl
theorem s7_21_7 : stepA E C B 261 r7_21 o7_21_7 (φ, H) = some (fput φ 17 (fget φ 132), H) := nrfl rfl
theorem s7_21_8 : stepA E C B 261 r7_21 o7_21_8 (φ, H) = some (fput φ 18 (fget φ 133), H) := nrfl rfl
noncomputable def c7_72 : Code := kR c7_70
noncomputable def c7_73 : Code := kL c7_72
noncomputable def r7_22 : Array Oper := kO c7_73
noncomputable def o7_22_0 : Oper := opN r7_22 0
noncomputable def o7_22_1 : Oper := opN r7_22 1
noncomputable def o7_22_2 : Oper := opN r7_22 2
noncomputable def o7_22_3 : Oper := opN r7_22 3
noncomputable def o7_22_4 : Oper := opN r7_22 4
noncomputable def o7_22_5 : Oper := opN r7_22 5
noncomputable def o7_22_6 : Oper := opN r7_22 6
noncomputable def o7_22_7 : Oper := opN r7_22 7
noncomputable def o7_22_8 : Oper := opN r7_22 8
noncomputable def o7_22_9 : Oper := opN r7_22 9
theorem x7_73 : execA E C (fg 7) B 261 E0 N c7_73 s = regX (runA E C B 261 r7_22 r7_22.toList s) (fun s => gcM E0 [134, 135, 136, 137, 138, 139, 140] (forget s.1 [134, 135, 136, 137, 138, 139, 140], s.2)) := x_reg (ops := r7_22) (by rfl) (by rfl) s
theorem r7_22_l : r7_22.toList = [o7_22_0, o7_22_1, o7_22_2, o7_22_3, o7_22_4, o7_22_5, o7_22_6, o7_22_7, o7_22_8, o7_22_9] := nrfl rfl
theorem s7_22_0 : stepA E C B 261 r7_22 o7_22_0 (φ, H) = some (fput φ 135 (fget φ 5), H) := nrfl rfl
theorem s7_22_1 : stepA E C B 261 r7_22 o7_22_1 (φ, H) = some (fput φ 136 (fget φ 6), H) := nrfl rfl
theorem s7_22_2 : stepA E C B 261 r7_22 o7_22_2 (φ, H) = some (fput φ 137 (fget φ 16), H) := nrfl rfl
theorem s7_22_3 : stepA E C B 261 r7_22 o7_22_3 (φ, H) = stp (some 138) φ H (aCall C (fun j => B + j * 261 + 138) true 20 [(fget φ 135), (fget φ 136), (fget φ 137)]) := nrfl rfl
theorem s7_22_4 : stepA E C B 261 r7_22 o7_22_4 (φ, H) = some (fput φ 134 (fget φ 138), H) := nrfl rfl
theorem s7_22_5 : stepA E C B 261 r7_22 o7_22_5 (φ, H) = stp (some 139) φ H (opExtract (fget φ 134) 0) := nrfl rfl
theorem s7_22_6 : stepA E C B 261 r7_22 o7_22_6 (φ, H) = stp (some 140) φ H (opExtract (fget φ 134) 1) := nrfl rfl
theorem s7_22_7 : stepA E C B 261 r7_22 o7_22_7 (φ, H) = stp (some 19) φ H (opBox (B + 19) (zeroCells E.T 27)) := nrfl rfl
theorem s7_22_8 : stepA E C B 261 r7_22 o7_22_8 (φ, H) = stp none φ H (opStore E.T 27 (fget φ 19) (fget φ 139)) := nrfl rfl
theorem s7_22_9 : stepA E C B 261 r7_22 o7_22_9 (φ, H) = some (fput φ 20 (fget φ 140), H) := nrfl rfl
noncomputable def c7_74 : Code := kR c7_72
noncomputable def c7_75 : Code := kL c7_74
noncomputable def c7_76 : Code := kL c7_75
noncomputable def r7_23 : Array Oper := kO c7_76
noncomputable def o7_23_0 : Oper := opN r7_23 0
noncomputable def o7_23_1 : Oper := opN r7_23 1
noncomputable def o7_23_2 : Oper := opN r7_23 2
noncomputable def o7_23_3 : Oper := opN r7_23 3
noncomputable def o7_23_4 : Oper := opN r7_23 4
noncomputable def o7_23_5 : Oper := opN r7_23 5
noncomputable def o7_23_6 : Oper := opN r7_23 6
noncomputable def o7_23_7 : Oper := opN r7_23 7
noncomputable def o7_23_8 : Oper := opN r7_23 8
theorem x7_76 : execA E C (fg 7) B 261 E0 N c7_76 s = regX (drawA E C B 261 r7_23 s) (fun s => gcM E0 [18, 19, 20, 141, 142, 143, 144, 145, 146, 147, 148] (forget s.1 [18, 19, 20, 141, 142, 143, 144, 145, 146, 147, 148], s.2)) := x_draw (ops := r7_23) (by rfl) (by rfl) s
theorem r7_23_l : r7_23.toList = [o7_23_0, o7_23_1, o7_23_2, o7_23_3, o7_23_4, o7_23_5, o7_23_6, o7_23_7, o7_23_8] := nrfl rfl
theorem r7_23_st : statOk r7_23 = true := by kernel_rfl
theorem r7_23_dr : drawA E C B 261 r7_23 s = if neat 261 s = true then drX r7_23 (runT E C B 261 r7_23 r7_23.toList 0 s) else none := draw_eq r7_23_st s
theorem r7_23_an (l : List (Nat × Tr)) : dynOk r7_23 l = (!writing l || dynPairs [[], [0], [0, 1], [0, 1, 2], [0, 1, 2], [0, 1, 2], [0, 1, 2, 4, 5], [0, 1, 2, 3, 4, 5, 6], [0, 1, 2, 3, 4, 5, 6, 7]] (touching l)) := dynOk_eq (by kernel_rfl) l
theorem s7_23_0 : stepT E C B 261 r7_23 o7_23_0 (φ, H) = some ((fput φ 141 (fget φ 20), H), ⟨false, [], []⟩) := stT_go rfl (goT_mv rfl rfl)
theorem s7_23_1 : stepT E C B 261 r7_23 o7_23_1 (φ, H) = stpT (some 142) φ H (just (aBin E.T .neq 28 (fget φ 141) (.int .i64 0))) := stT_go rfl (goT_R rfl rfl)
theorem s7_23_2 : stepT E C B 261 r7_23 o7_23_2 (φ, H) = some ((fput φ 143 (fget φ 142), H), ⟨false, [], []⟩) := stT_go rfl (goT_mv rfl rfl)
theorem s7_23_3 : stepT E C B 261 r7_23 o7_23_3 (φ, H) = gdT φ 143 false (fun φ => (some (fput φ 144 (.tup []), H)).map fun s => (s, ⟨false, [], []⟩)) (fun φ => stpT (some 144) φ H (just (aLoad E.T 27 (fget φ 19)))) := stT_gd (j := 2) (oj := o7_23_2) rfl rfl rfl (fun _ => rfl) (fun _ => goT_R rfl rfl)
theorem s7_23_4 : stepT E C B 261 r7_23 o7_23_4 (φ, H) = gdT φ 143 false (fun φ => (some (fput φ 145 (.tup []), H)).map fun s => (s, ⟨false, [], []⟩)) (fun φ => some ((fput φ 145 (fget φ 17), H), ⟨false, [], []⟩)) := stT_gd (j := 2) (oj := o7_23_2) rfl rfl rfl (fun _ => rfl) (fun _ => goT_mv rfl rfl)
theorem s7_23_5 : stepT E C B 261 r7_23 o7_23_5 (φ, H) = gdT φ 143 false (fun φ => (some (fput φ 146 (.tup []), H)).map fun s => (s, ⟨false, [], []⟩)) (fun φ => some ((fput φ 146 (fget φ 18), H), ⟨false, [], []⟩)) := stT_gd (j := 2) (oj := o7_23_2) rfl rfl rfl (fun _ => rfl) (fun _ => goT_mv rfl rfl)
theorem s7_23_6 : stepT E C B 261 r7_23 o7_23_6 (φ, H) = gdT φ 143 false (fun φ => (some (fput φ 147 (.tup []), H)).map fun s => (s, ⟨false, [], []⟩)) (fun φ => stpT (some 147) φ H (aCall C (fun j => B + j * 261 + 147) true 35 [(fget φ 145), (fget φ 146)])) := stT_gd (j := 2) (oj := o7_23_2) rfl rfl rfl (fun _ => rfl) (fun _ => goT_R rfl rfl)
theorem s7_23_7 : stepT E C B 261 r7_23 o7_23_7 (φ, H) = gdT φ 143 false (fun φ => (some (fput φ 148 (.tup []), H)).map fun s => (s, ⟨false, [], []⟩)) (fun φ => stpT (some 148) φ H (just (aBin E.T .neq 27 (fget φ 144) (fget φ 147)))) := stT_gd (j := 2) (oj := o7_23_2) rfl rfl rfl (fun _ => rfl) (fun _ => goT_R rfl rfl)
theorem s7_23_8 : stepT E C B 261 r7_23 o7_23_8 (φ, H) = stpT (some 149) φ H (opPick (fget φ 143) (.bool true) (fget φ 148)) := stT_go rfl (goT_R rfl rfl)
noncomputable def c7_77 : Code := kR c7_75
noncomputable def c7_78 : Code := kT c7_77
noncomputable def c7_79 : Code := kL c7_78
noncomputable def r7_24 : Array Oper := kO c7_79
noncomputable def o7_24_0 : Oper := opN r7_24 0
theorem x7_79 : execA E C (fg 7) B 261 E0 N c7_79 s = regX (runA E C B 261 r7_24 r7_24.toList s) (fun s => gcM E0 [3, 5, 6, 7, 12, 16, 17, 123, 124, 149] (forget s.1 [3, 5, 6, 7, 12, 16, 17, 123, 124, 149], s.2)) := x_reg (ops := r7_24) (by rfl) (by rfl) s
theorem r7_24_l : r7_24.toList = [o7_24_0] := nrfl rfl
theorem s7_24_0 : stepA E C B 261 r7_24 o7_24_0 (φ, H) = some (fput φ 4 (.bool false), H) := nrfl rfl
noncomputable def c7_80 : Code := kR c7_78
theorem x7_80 : execA E C (fg 7) B 261 E0 N c7_80 s = some (.ret, s) := x_ret (by rfl) s
theorem x7_78 : execA E C (fg 7) B 261 E0 N c7_78 s = seqX (execA E C (fg 7) B 261 E0 N c7_79 s) (execA E C (fg 7) B 261 E0 N c7_80) := x_seq (by rfl) s
noncomputable def c7_81 : Code := kE c7_77
theorem x7_81 : execA E C (fg 7) B 261 E0 N c7_81 s = some (.normal, s) := x_skip (by rfl) s
theorem x7_77 : execA E C (fg 7) B 261 E0 N c7_77 (φ, H) = condX (fget φ 149) (execA E C (fg 7) B 261 E0 N c7_78 (φ, H)) (execA E C (fg 7) B 261 E0 N c7_81 (φ, H)) := x_cond (by rfl) _
theorem x7_75 : execA E C (fg 7) B 261 E0 N c7_75 s = seqX (execA E C (fg 7) B 261 E0 N c7_76 s) (execA E C (fg 7) B 261 E0 N c7_77) := x_seq (by rfl) s
noncomputable def c7_82 : Code := kR c7_74
noncomputable def c7_83 : Code := kL c7_82
noncomputable def r7_25 : Array Oper := kO c7_83
noncomputable def o7_25_0 : Oper := opN r7_25 0
noncomputable def o7_25_1 : Oper := opN r7_25 1
noncomputable def o7_25_2 : Oper := opN r7_25 2
noncomputable def o7_25_3 : Oper := opN r7_25 3
theorem x7_83 : execA E C (fg 7) B 261 E0 N c7_83 s = regX (runA E C B 261 r7_25 r7_25.toList s) (fun s => gcM E0 [149, 150, 151, 152] (forget s.1 [149, 150, 151, 152], s.2)) := x_reg (ops := r7_25) (by rfl) (by rfl) s
theorem r7_25_l : r7_25.toList = [o7_25_0, o7_25_1, o7_25_2, o7_25_3] := nrfl rfl
theorem s7_25_0 : stepA E C B 261 r7_25 o7_25_0 (φ, H) = some (fput φ 150 (fget φ 16), H) := nrfl rfl
theorem s7_25_1 : stepA E C B 261 r7_25 o7_25_1 (φ, H) = some (fput φ 151 (fget φ 7), H) := nrfl rfl
theorem s7_25_2 : stepA E C B 261 r7_25 o7_25_2 (φ, H) = stp (some 152) φ H (just (aBin E.T .sub 3 (fget φ 151) (.int .i64 1))) := nrfl rfl
theorem s7_25_3 : stepA E C B 261 r7_25 o7_25_3 (φ, H) = stp (some 153) φ H (just (aBin E.T .eql 3 (fget φ 150) (fget φ 152))) := nrfl rfl
noncomputable def c7_84 : Code := kR c7_82
noncomputable def c7_85 : Code := kT c7_84
noncomputable def c7_86 : Code := kL c7_85
noncomputable def c7_87 : Code := kL c7_86
noncomputable def r7_26 : Array Oper := kO c7_87
noncomputable def o7_26_0 : Oper := opN r7_26 0
noncomputable def o7_26_1 : Oper := opN r7_26 1
noncomputable def o7_26_2 : Oper := opN r7_26 2
noncomputable def o7_26_3 : Oper := opN r7_26 3
noncomputable def o7_26_4 : Oper := opN r7_26 4
noncomputable def o7_26_5 : Oper := opN r7_26 5
noncomputable def o7_26_6 : Oper := opN r7_26 6
noncomputable def o7_26_7 : Oper := opN r7_26 7
noncomputable def o7_26_8 : Oper := opN r7_26 8
noncomputable def o7_26_9 : Oper := opN r7_26 9
noncomputable def o7_26_10 : Oper := opN r7_26 10
noncomputable def o7_26_11 : Oper := opN r7_26 11
noncomputable def o7_26_12 : Oper := opN r7_26 12
theorem x7_87 : execA E C (fg 7) B 261 E0 N c7_87 s = regX (drawA E C B 261 r7_26 s) (fun s => gcM E0 [17, 153, 154, 155, 156, 157, 158, 159, 160, 161, 162, 163, 164, 165] (forget s.1 [17, 153, 154, 155, 156, 157, 158, 159, 160, 161, 162, 163, 164, 165], s.2)) := x_draw (ops := r7_26) (by rfl) (by rfl) s
theorem r7_26_l : r7_26.toList = [o7_26_0, o7_26_1, o7_26_2, o7_26_3, o7_26_4, o7_26_5, o7_26_6, o7_26_7, o7_26_8, o7_26_9, o7_26_10, o7_26_11, o7_26_12] := nrfl rfl
theorem r7_26_st : statOk r7_26 = true := by kernel_rfl
theorem r7_26_dr : drawA E C B 261 r7_26 s = if neat 261 s = true then drX r7_26 (runT E C B 261 r7_26 r7_26.toList 0 s) else none := draw_eq r7_26_st s
theorem r7_26_an (l : List (Nat × Tr)) : dynOk r7_26 l = (!writing l || dynPairs [[], [], [0, 1], [0, 1, 2], [0, 1, 2, 3], [], [], [5, 6], [5, 6, 7], [5, 6, 7, 8], [0, 1, 2, 3, 4, 5, 6, 7, 8, 9], [], [0, 1, 2, 3, 4, 5, 6, 7, 8, 9, 10, 11]] (touching l)) := dynOk_eq (by kernel_rfl) l
theorem s7_26_0 : stepT E C B 261 r7_26 o7_26_0 (φ, H) = some ((fput φ 154 (fget φ 12), H), ⟨false, [], []⟩) := stT_go rfl (goT_mv rfl rfl)
theorem s7_26_1 : stepT E C B 261 r7_26 o7_26_1 (φ, H) = some ((fput φ 155 (fget φ 16), H), ⟨false, [], []⟩) := stT_go rfl (goT_mv rfl rfl)
theorem s7_26_2 : stepT E C B 261 r7_26 o7_26_2 (φ, H) = stpT (some 156) φ H (just (aIndexAddr E.T 22 (fget φ 154) (fget φ 155))) := stT_go rfl (goT_R rfl rfl)
theorem s7_26_3 : stepT E C B 261 r7_26 o7_26_3 (φ, H) = stpT (some 157) φ H (just (aFieldAddr E.T 45 (fget φ 156) 1)) := stT_go rfl (goT_R rfl rfl)
theorem s7_26_4 : stepT E C B 261 r7_26 o7_26_4 (φ, H) = stpT (some 158) φ H (just (aLoad E.T 3 (fget φ 157))) := stT_go rfl (goT_R rfl rfl)
theorem s7_26_5 : stepT E C B 261 r7_26 o7_26_5 (φ, H) = some ((fput φ 159 (fget φ 12), H), ⟨false, [], []⟩) := stT_go rfl (goT_mv rfl rfl)
theorem s7_26_6 : stepT E C B 261 r7_26 o7_26_6 (φ, H) = some ((fput φ 160 (fget φ 16), H), ⟨false, [], []⟩) := stT_go rfl (goT_mv rfl rfl)
theorem s7_26_7 : stepT E C B 261 r7_26 o7_26_7 (φ, H) = stpT (some 161) φ H (just (aIndexAddr E.T 22 (fget φ 159) (fget φ 160))) := stT_go rfl (goT_R rfl rfl)
theorem s7_26_8 : stepT E C B 261 r7_26 o7_26_8 (φ, H) = stpT (some 162) φ H (just (aFieldAddr E.T 45 (fget φ 161) 0)) := stT_go rfl (goT_R rfl rfl)
theorem s7_26_9 : stepT E C B 261 r7_26 o7_26_9 (φ, H) = stpT (some 163) φ H (just (aLoad E.T 3 (fget φ 162))) := stT_go rfl (goT_R rfl rfl)
theorem s7_26_10 : stepT E C B 261 r7_26 o7_26_10 (φ, H) = stpT (some 164) φ H (just (aBin E.T .add 3 (fget φ 158) (fget φ 163))) := stT_go rfl (goT_R rfl rfl)
theorem s7_26_11 : stepT E C B 261 r7_26 o7_26_11 (φ, H) = some ((fput φ 165 (fget φ 17), H), ⟨false, [], []⟩) := stT_go rfl (goT_mv rfl rfl)
theorem s7_26_12 : stepT E C B 261 r7_26 o7_26_12 (φ, H) = stpT (some 166) φ H (just (aBin E.T .neq 3 (fget φ 164) (fget φ 165))) := stT_go rfl (goT_R rfl rfl)
noncomputable def c7_88 : Code := kR c7_86
noncomputable def c7_89 : Code := kT c7_88
noncomputable def c7_90 : Code := kL c7_89
noncomputable def r7_27 : Array Oper := kO c7_90
noncomputable def o7_27_0 : Oper := opN r7_27 0
theorem x7_90 : execA E C (fg 7) B 261 E0 N c7_90 s = regX (runA E C B 261 r7_27 r7_27.toList s) (fun s => gcM E0 [3, 5, 6, 7, 12, 16, 123, 124, 166] (forget s.1 [3, 5, 6, 7, 12, 16, 123, 124, 166], s.2)) := x_reg (ops := r7_27) (by rfl) (by rfl) s
theorem r7_27_l : r7_27.toList = [o7_27_0] := nrfl rfl
theorem s7_27_0 : stepA E C B 261 r7_27 o7_27_0 (φ, H) = some (fput φ 4 (.bool false), H) := nrfl rfl
noncomputable def c7_91 : Code := kR c7_89
theorem x7_91 : execA E C (fg 7) B 261 E0 N c7_91 s = some (.ret, s) := x_ret (by rfl) s
theorem x7_89 : execA E C (fg 7) B 261 E0 N c7_89 s = seqX (execA E C (fg 7) B 261 E0 N c7_90 s) (execA E C (fg 7) B 261 E0 N c7_91) := x_seq (by rfl) s
noncomputable def c7_92 : Code := kE c7_88
theorem x7_92 : execA E C (fg 7) B 261 E0 N c7_92 s = some (.normal, s) := x_skip (by rfl) s
theorem x7_88 : execA E C (fg 7) B 261 E0 N c7_88 (φ, H) = condX (fget φ 166) (execA E C (fg 7) B 261 E0 N c7_89 (φ, H)) (execA E C (fg 7) B 261 E0 N c7_92 (φ, H)) := x_cond (by rfl) _
theorem x7_86 : execA E C (fg 7) B 261 E0 N c7_86 s = seqX (execA E C (fg 7) B 261 E0 N c7_87 s) (execA E C (fg 7) B 261 E0 N c7_88) := x_seq (by rfl) s
noncomputable def c7_93 : Code := kR c7_85
noncomputable def c7_94 : Code := kL c7_93
noncomputable def r7_28 : Array Oper := kO c7_94
noncomputable def o7_28_0 : Oper := opN r7_28 0
noncomputable def o7_28_1 : Oper := opN r7_28 1
noncomputable def o7_28_2 : Oper := opN r7_28 2
noncomputable def o7_28_3 : Oper := opN r7_28 3
noncomputable def o7_28_4 : Oper := opN r7_28 4
noncomputable def o7_28_5 : Oper := opN r7_28 5
noncomputable def o7_28_6 : Oper := opN r7_28 6
noncomputable def o7_28_7 : Oper := opN r7_28 7
noncomputable def o7_28_8 : Oper := opN r7_28 8
theorem x7_94 : execA E C (fg 7) B 261 E0 N c7_94 s = regX (runA E C B 261 r7_28 r7_28.toList s) (fun s => gcM E0 [16, 166, 167, 168, 169, 170, 171, 172, 173, 174] (forget s.1 [16, 166, 167, 168, 169, 170, 171, 172, 173, 174], s.2)) := x_reg (ops := r7_28) (by rfl) (by rfl) s
theorem r7_28_l : r7_28.toList = [o7_28_0, o7_28_1, o7_28_2, o7_28_3, o7_28_4, o7_28_5, o7_28_6, o7_28_7, o7_28_8] := nrfl rfl
theorem s7_28_0 : stepA E C B 261 r7_28 o7_28_0 (φ, H) = some (fput φ 167 (fget φ 12), H) := nrfl rfl
theorem s7_28_1 : stepA E C B 261 r7_28 o7_28_1 (φ, H) = some (fput φ 168 (fget φ 16), H) := nrfl rfl
theorem s7_28_2 : stepA E C B 261 r7_28 o7_28_2 (φ, H) = stp (some 169) φ H (just (aIndexAddr E.T 22 (fget φ 167) (fget φ 168))) := nrfl rfl
theorem s7_28_3 : stepA E C B 261 r7_28 o7_28_3 (φ, H) = stp (some 170) φ H (just (aFieldAddr E.T 45 (fget φ 169) 1)) := nrfl rfl
theorem s7_28_4 : stepA E C B 261 r7_28 o7_28_4 (φ, H) = stp (some 171) φ H (just (aLoad E.T 3 (fget φ 170))) := nrfl rfl
theorem s7_28_5 : stepA E C B 261 r7_28 o7_28_5 (φ, H) = stp (some 172) φ H (just (aBin E.T .add 3 (fget φ 171) (.int .i64 1))) := nrfl rfl
theorem s7_28_6 : stepA E C B 261 r7_28 o7_28_6 (φ, H) = stp (some 173) φ H (just (aIndexAddr E.T 22 (fget φ 167) (fget φ 168))) := nrfl rfl
theorem s7_28_7 : stepA E C B 261 r7_28 o7_28_7 (φ, H) = stp (some 174) φ H (just (aFieldAddr E.T 45 (fget φ 173) 1)) := nrfl rfl
theorem s7_28_8 : stepA E C B 261 r7_28 o7_28_8 (φ, H) = stp none φ H (opStore E.T 3 (fget φ 174) (fget φ 172)) := nrfl rfl
noncomputable def c7_95 : Code := kR c7_93
noncomputable def c7_96 : Code := kL c7_95
noncomputable def r7_29 : Array Oper := kO c7_96
noncomputable def o7_29_0 : Oper := opN r7_29 0
noncomputable def o7_29_1 : Oper := opN r7_29 1
noncomputable def o7_29_2 : Oper := opN r7_29 2
theorem x7_96 : execA E C (fg 7) B 261 E0 N c7_96 s = regX (runA E C B 261 r7_29 r7_29.toList s) (fun s => gcM E0 [175, 176] (forget s.1 [175, 176], s.2)) := x_reg (ops := r7_29) (by rfl) (by rfl) s
theorem r7_29_l : r7_29.toList = [o7_29_0, o7_29_1, o7_29_2] := nrfl rfl
theorem s7_29_0 : stepA E C B 261 r7_29 o7_29_0 (φ, H) = some (fput φ 175 (fget φ 12), H) := nrfl rfl
theorem s7_29_1 : stepA E C B 261 r7_29 o7_29_1 (φ, H) = stp (some 176) φ H (aCall C (fun j => B + j * 261 + 176) true 45 [(fget φ 175)]) := nrfl rfl
theorem s7_29_2 : stepA E C B 261 r7_29 o7_29_2 (φ, H) = stp (some 177) φ H (just (aBin E.T .lss 3 (fget φ 176) (.int .i64 0))) := nrfl rfl
noncomputable def c7_97 : Code := kR c7_95
noncomputable def c7_98 : Code := kT c7_97
noncomputable def c7_99 : Code := kL c7_98
noncomputable def r7_30 : Array Oper := kO c7_99
noncomputable def o7_30_0 : Oper := opN r7_30 0
theorem x7_99 : execA E C (fg 7) B 261 E0 N c7_99 s = regX (runA E C B 261 r7_30 r7_30.toList s) (fun s => gcM E0 [3, 5, 6, 7, 12, 123, 124, 177] (forget s.1 [3, 5, 6, 7, 12, 123, 124, 177], s.2)) := x_reg (ops := r7_30) (by rfl) (by rfl) s
theorem r7_30_l : r7_30.toList = [o7_30_0] := nrfl rfl
theorem s7_30_0 : stepA E C B 261 r7_30 o7_30_0 (φ, H) = some (fput φ 4 (.bool false), H) := nrfl rfl
noncomputable def c7_100 : Code := kR c7_98
theorem x7_100 : execA E C (fg 7) B 261 E0 N c7_100 s = some (.ret, s) := x_ret (by rfl) s
theorem x7_98 : execA E C (fg 7) B 261 E0 N c7_98 s = seqX (execA E C (fg 7) B 261 E0 N c7_99 s) (execA E C (fg 7) B 261 E0 N c7_100) := x_seq (by rfl) s
noncomputable def c7_101 : Code := kE c7_97
theorem x7_101 : execA E C (fg 7) B 261 E0 N c7_101 s = some (.normal, s) := x_skip (by rfl) s
theorem x7_97 : execA E C (fg 7) B 261 E0 N c7_97 (φ, H) = condX (fget φ 177) (execA E C (fg 7) B 261 E0 N c7_98 (φ, H)) (execA E C (fg 7) B 261 E0 N c7_101 (φ, H)) := x_cond (by rfl) _
theorem x7_95 : execA E C (fg 7) B 261 E0 N c7_95 s = seqX (execA E C (fg 7) B 261 E0 N c7_96 s) (execA E C (fg 7) B 261 E0 N c7_97) := x_seq (by rfl) s
theorem x7_93 : execA E C (fg 7) B 261 E0 N c7_93 s = seqX (execA E C (fg 7) B 261 E0 N c7_94 s) (execA E C (fg 7) B 261 E0 N c7_95) := x_seq (by rfl) s
theorem x7_85 : execA E C (fg 7) B 261 E0 N c7_85 s = seqX (execA E C (fg 7) B 261 E0 N c7_86 s) (execA E C (fg 7) B 261 E0 N c7_93) := x_seq (by rfl) s
noncomputable def c7_102 : Code := kE c7_84
theorem x7_102 : execA E C (fg 7) B 261 E0 N c7_102 s = some (.normal, s) := x_skip (by rfl) s
theorem x7_84 : execA E C (fg 7) B 261 E0 N c7_84 (φ, H) = condX (fget φ 153) (execA E C (fg 7) B 261 E0 N c7_85 (φ, H)) (execA E C (fg 7) B 261 E0 N c7_102 (φ, H)) := x_cond (by rfl) _
theorem x7_82 : execA E C (fg 7) B 261 E0 N c7_82 s = seqX (execA E C (fg 7) B 261 E0 N c7_83 s) (execA E C (fg 7) B 261 E0 N c7_84) := x_seq (by rfl) s
theorem x7_74 : execA E C (fg 7) B 261 E0 N c7_74 s = seqX (execA E C (fg 7) B 261 E0 N c7_75 s) (execA E C (fg 7) B 261 E0 N c7_82) := x_seq (by rfl) s
theorem x7_72 : execA E C (fg 7) B 261 E0 N c7_72 s = seqX (execA E C (fg 7) B 261 E0 N c7_73 s) (execA E C (fg 7) B 261 E0 N c7_74) := x_seq (by rfl) s
theorem x7_70 : execA E C (fg 7) B 261 E0 N c7_70 s = seqX (execA E C (fg 7) B 261 E0 N c7_71 s) (execA E C (fg 7) B 261 E0 N c7_72) := x_seq (by rfl) s
theorem x7_68 : execA E C (fg 7) B 261 E0 N c7_68 s = seqX (execA E C (fg 7) B 261 E0 N c7_69 s) (execA E C (fg 7) B 261 E0 N c7_70) := x_seq (by rfl) s
theorem x7_67 : execA E C (fg 7) B 261 E0 N c7_67 s = blockX 3 (fun s => (forget s.1 [16, 17, 153, 177], s.2)) (execA E C (fg 7) B 261 E0 N c7_68 s) := x_block (by rfl) (by rfl) s
noncomputable def c7_103 : Code := kR c7_66
noncomputable def r7_31 : Array Oper := kO c7_103
noncomputable def o7_31_0 : Oper := opN r7_31 0
noncomputable def o7_31_1 : Oper := opN r7_31 1
theorem x7_103 : execA E C (fg 7) B 261 E0 N c7_103 s = regX (runA E C B 261 r7_31 r7_31.toList s) (fun s => gcM E0 [178] (forget s.1 [178], s.2)) := x_reg (ops := r7_31) (by rfl) (by rfl) s
theorem r7_31_l : r7_31.toList = [o7_31_0, o7_31_1] := nrfl rfl
theorem s7_31_0 : stepA E C B 261 r7_31 o7_31_0 (φ, H) = stp (some 178) φ H (just (aBin E.T .add 3 (fget φ 124) (.int .i64 1))) := nrfl rfl
theorem s7_31_1 : stepA E C B 261 r7_31 o7_31_1 (φ, H) = some (fput φ 124 (fget φ 178), H) := nrfl rfl
theorem x7_66 : execA E C (fg 7) B 261 E0 N c7_66 s = seqX (execA E C (fg 7) B 261 E0 N c7_67 s) (execA E C (fg 7) B 261 E0 N c7_103) := x_seq (by rfl) s
theorem x7_62 : execA E C (fg 7) B 261 E0 N c7_62 s = seqX (execA E C (fg 7) B 261 E0 N c7_63 s) (execA E C (fg 7) B 261 E0 N c7_66) := x_seq (by rfl) s
theorem x7_60 : execA E C (fg 7) B 261 E0 N c7_60 s = seqX (execA E C (fg 7) B 261 E0 N c7_61 s) (execA E C (fg 7) B 261 E0 N c7_62) := x_seq (by rfl) s
theorem x7_59 : execA E C (fg 7) B 261 E0 N c7_59 s = iterA (execA E C (fg 7) B 261 E0 N c7_60) (headA E0) N s := x_loop (by rfl) s
theorem x7_58 : execA E C (fg 7) B 261 E0 N c7_58 s = blockX 2 (fun s => (forget s.1 [12, 123, 124, 125], s.2)) (execA E C (fg 7) B 261 E0 N c7_59 s) := x_block (by rfl) (by rfl) s
theorem x7_56 : execA E C (fg 7) B 261 E0 N c7_56 s = seqX (execA E C (fg 7) B 261 E0 N c7_57 s) (execA E C (fg 7) B 261 E0 N c7_58) := x_seq (by rfl) s
noncomputable def c7_104 : Code := kR c7_55
noncomputable def c7_105 : Code := kL c7_104
noncomputable def r7_32 : Array Oper := kO c7_105
noncomputable def o7_32_0 : Oper := opN r7_32 0
theorem x7_105 : execA E C (fg 7) B 261 E0 N c7_105 s = regX (runA E C B 261 r7_32 r7_32.toList s) (fun s => gcM E0 [] (forget s.1 [], s.2)) := x_reg (ops := r7_32) (by rfl) (by rfl) s
theorem r7_32_l : r7_32.toList = [o7_32_0] := nrfl rfl
theorem s7_32_0 : stepA E C B 261 r7_32 o7_32_0 (φ, H) = some (fput φ 21 (.int .i64 0), H) := nrfl rfl
noncomputable def c7_106 : Code := kR c7_104
noncomputable def c7_107 : Code := kL c7_106
noncomputable def r7_33 : Array Oper := kO c7_107
noncomputable def o7_33_0 : Oper := opN r7_33 0
theorem x7_107 : execA E C (fg 7) B 261 E0 N c7_107 s = regX (runA E C B 261 r7_33 r7_33.toList s) (fun s => gcM E0 [] (forget s.1 [], s.2)) := x_reg (ops := r7_33) (by rfl) (by rfl) s
theorem r7_33_l : r7_33.toList = [o7_33_0] := nrfl rfl
theorem s7_33_0 : stepA E C B 261 r7_33 o7_33_0 (φ, H) = some (fput φ 22 (.nilsl), H) := nrfl rfl
noncomputable def c7_108 : Code := kR c7_106
noncomputable def c7_109 : Code := kL c7_108
noncomputable def c7_110 : Code := kL c7_109
noncomputable def r7_34 : Array Oper := kO c7_110
noncomputable def o7_34_0 : Oper := opN r7_34 0
noncomputable def o7_34_1 : Oper := opN r7_34 1
theorem x7_110 : execA E C (fg 7) B 261 E0 N c7_110 s = regX (runA E C B 261 r7_34 r7_34.toList s) (fun s => gcM E0 [] (forget s.1 [], s.2)) := x_reg (ops := r7_34) (by rfl) (by rfl) s
theorem r7_34_l : r7_34.toList = [o7_34_0, o7_34_1] := nrfl rfl
theorem s7_34_0 : stepA E C B 261 r7_34 o7_34_0 (φ, H) = some (fput φ 179 (fget φ 7), H) := nrfl rfl
theorem s7_34_1 : stepA E C B 261 r7_34 o7_34_1 (φ, H) = some (fput φ 180 (.int .i64 0), H) := nrfl rfl
noncomputable def c7_111 : Code := kR c7_109
noncomputable def c7_112 : Code := kB c7_111
noncomputable def c7_113 : Code := kB c7_112
noncomputable def c7_114 : Code := kL c7_113
noncomputable def r7_35 : Array Oper := kO c7_114
noncomputable def o7_35_0 : Oper := opN r7_35 0
theorem x7_114 : execA E C (fg 7) B 261 E0 N c7_114 s = regX (runA E C B 261 r7_35 r7_35.toList s) (fun s => gcM E0 [] (forget s.1 [], s.2)) := x_reg (ops := r7_35) (by rfl) (by rfl) s
theorem r7_35_l : r7_35.toList = [o7_35_0] := nrfl rfl
theorem s7_35_0 : stepA E C B 261 r7_35 o7_35_0 (φ, H) = stp (some 181) φ H (just (aBin E.T .lss 3 (fget φ 180) (fget φ 179))) := nrfl rfl
noncomputable def c7_115 : Code := kR c7_113
noncomputable def c7_116 : Code := kL c7_115
noncomputable def c7_117 : Code := kT c7_116
theorem x7_117 : execA E C (fg 7) B 261 E0 N c7_117 s = some (.normal, s) := x_skip (by rfl) s
noncomputable def c7_118 : Code := kE c7_116
theorem x7_118 : execA E C (fg 7) B 261 E0 N c7_118 s = some (.exit 4, s) := x_exit (by rfl) s
theorem x7_116 : execA E C (fg 7) B 261 E0 N c7_116 (φ, H) = condX (fget φ 181) (execA E C (fg 7) B 261 E0 N c7_117 (φ, H)) (execA E C (fg 7) B 261 E0 N c7_118 (φ, H)) := x_cond (by rfl) _
noncomputable def c7_119 : Code := kR c7_115
noncomputable def c7_120 : Code := kL c7_119
noncomputable def c7_121 : Code := kB c7_120
noncomputable def c7_122 : Code := kL c7_121
noncomputable def r7_36 : Array Oper := kO c7_122
noncomputable def o7_36_0 : Oper := opN r7_36 0
noncomputable def o7_36_1 : Oper := opN r7_36 1
theorem x7_122 : execA E C (fg 7) B 261 E0 N c7_122 s = regX (runA E C B 261 r7_36 r7_36.toList s) (fun s => gcM E0 [181, 182] (forget s.1 [181, 182], s.2)) := x_reg (ops := r7_36) (by rfl) (by rfl) s
theorem r7_36_l : r7_36.toList = [o7_36_0, o7_36_1] := nrfl rfl
theorem s7_36_0 : stepA E C B 261 r7_36 o7_36_0 (φ, H) = some (fput φ 182 (fget φ 180), H) := nrfl rfl
theorem s7_36_1 : stepA E C B 261 r7_36 o7_36_1 (φ, H) = some (fput φ 23 (fget φ 182), H) := nrfl rfl
noncomputable def c7_123 : Code := kR c7_121
noncomputable def c7_124 : Code := kL c7_123
noncomputable def r7_37 : Array Oper := kO c7_124
noncomputable def o7_37_0 : Oper := opN r7_37 0
noncomputable def o7_37_1 : Oper := opN r7_37 1
noncomputable def o7_37_2 : Oper := opN r7_37 2
noncomputable def o7_37_3 : Oper := opN r7_37 3
noncomputable def o7_37_4 : Oper := opN r7_37 4
noncomputable def o7_37_5 : Oper := opN r7_37 5
noncomputable def o7_37_6 : Oper := opN r7_37 6
noncomputable def o7_37_7 : Oper := opN r7_37 7
noncomputable def o7_37_8 : Oper := opN r7_37 8
noncomputable def o7_37_9 : Oper := opN r7_37 9
noncomputable def o7_37_10 : Oper := opN r7_37 10
noncomputable def o7_37_11 : Oper := opN r7_37 11
noncomputable def o7_37_12 : Oper := opN r7_37 12
noncomputable def o7_37_13 : Oper := opN r7_37 13
noncomputable def o7_37_14 : Oper := opN r7_37 14
noncomputable def o7_37_15 : Oper := opN r7_37 15
noncomputable def o7_37_16 : Oper := opN r7_37 16
noncomputable def o7_37_17 : Oper := opN r7_37 17
noncomputable def o7_37_18 : Oper := opN r7_37 18
noncomputable def o7_37_19 : Oper := opN r7_37 19
noncomputable def o7_37_20 : Oper := opN r7_37 20
noncomputable def o7_37_21 : Oper := opN r7_37 21
noncomputable def o7_37_22 : Oper := opN r7_37 22
noncomputable def o7_37_23 : Oper := opN r7_37 23
noncomputable def o7_37_24 : Oper := opN r7_37 24
noncomputable def o7_37_25 : Oper := opN r7_37 25
noncomputable def o7_37_26 : Oper := opN r7_37 26
noncomputable def o7_37_27 : Oper := opN r7_37 27
noncomputable def o7_37_28 : Oper := opN r7_37 28
noncomputable def o7_37_29 : Oper := opN r7_37 29
theorem x7_124 : execA E C (fg 7) B 261 E0 N c7_124 s = regX (drawA E C B 261 r7_37 s) (fun s => gcM E0 [21, 23, 183, 184, 185, 186, 187, 188, 189, 190, 191, 192, 193, 194, 195, 196, 197, 198, 199, 200, 201, 202, 203, 204, 205, 206, 207, 208, 209, 210] (forget s.1 [21, 23, 183, 184, 185, 186, 187, 188, 189, 190, 191, 192, 193, 194, 195, 196, 197, 198, 199, 200, 201, 202, 203, 204, 205, 206, 207, 208, 209, 210], s.2)) := x_draw (ops := r7_37) (by rfl) (by rfl) s
theorem r7_37_l : r7_37.toList = [o7_37_0, o7_37_1, o7_37_2, o7_37_3, o7_37_4, o7_37_5, o7_37_6, o7_37_7, o7_37_8, o7_37_9, o7_37_10, o7_37_11, o7_37_12, o7_37_13, o7_37_14, o7_37_15, o7_37_16, o7_37_17, o7_37_18, o7_37_19, o7_37_20, o7_37_21, o7_37_22, o7_37_23, o7_37_24, o7_37_25, o7_37_26, o7_37_27, o7_37_28, o7_37_29] := nrfl rfl
theorem r7_37_st : statOk r7_37 = true := by kernel_rfl
theorem r7_37_dr : drawA E C B 261 r7_37 s = if neat 261 s = true then drX r7_37 (runT E C B 261 r7_37 r7_37.toList 0 s) else none := draw_eq r7_37_st s
theorem r7_37_an (l : List (Nat × Tr)) : dynOk r7_37 l = (!writing l || dynPairs [[], [], [0, 1], [0, 1, 2], [0, 1, 2, 3], [], [5], [], [7], [7, 8], [7, 8, 9], [], [], [11, 12], [11, 12, 13], [11, 12, 13, 14], [11, 12, 13, 14, 15], [7, 8, 9, 10, 11, 12, 13, 14, 15, 16], [5, 6, 7, 8, 9, 10, 11, 12, 13, 14, 15, 16, 17], [], [], [19, 20], [19, 20, 21], [], [], [23, 24], [23, 24, 25], [0, 1, 2, 3, 4, 5, 6, 7, 8, 9, 10, 11, 12, 13, 14, 15, 16, 17, 18, 19, 20, 21, 22, 23, 24, 25, 26], [], [0, 1, 2, 3, 4, 5, 6, 7, 8, 9, 10, 11, 12, 13, 14, 15, 16, 17, 18, 19, 20, 21, 22, 23, 24, 25, 26, 27, 28]] (touching l)) := dynOk_eq (by kernel_rfl) l
theorem s7_37_0 : stepT E C B 261 r7_37 o7_37_0 (φ, H) = some ((fput φ 183 (fget φ 5), H), ⟨false, [], []⟩) := stT_go rfl (goT_mv rfl rfl)
theorem s7_37_1 : stepT E C B 261 r7_37 o7_37_1 (φ, H) = some ((fput φ 184 (fget φ 23), H), ⟨false, [], []⟩) := stT_go rfl (goT_mv rfl rfl)
theorem s7_37_2 : stepT E C B 261 r7_37 o7_37_2 (φ, H) = stpT (some 185) φ H (just (aIndexAddr E.T 47 (fget φ 183) (fget φ 184))) := stT_go rfl (goT_R rfl rfl)
theorem s7_37_3 : stepT E C B 261 r7_37 o7_37_3 (φ, H) = stpT (some 186) φ H (just (aLoad E.T 3 (fget φ 185))) := stT_go rfl (goT_R rfl rfl)
theorem s7_37_4 : stepT E C B 261 r7_37 o7_37_4 (φ, H) = stpT (some 187) φ H (just (aBin E.T .mul 3 (.int .i64 4) (fget φ 186))) := stT_go rfl (goT_R rfl rfl)
theorem s7_37_5 : stepT E C B 261 r7_37 o7_37_5 (φ, H) = some ((fput φ 188 (fget φ 21), H), ⟨false, [], []⟩) := stT_go rfl (goT_mv rfl rfl)
theorem s7_37_6 : stepT E C B 261 r7_37 o7_37_6 (φ, H) = stpT (some 189) φ H (just (aBin E.T .add 3 (fget φ 188) (.int .i64 1))) := stT_go rfl (goT_R rfl rfl)
theorem s7_37_7 : stepT E C B 261 r7_37 o7_37_7 (φ, H) = some ((fput φ 190 (fget φ 23), H), ⟨false, [], []⟩) := stT_go rfl (goT_mv rfl rfl)
theorem s7_37_8 : stepT E C B 261 r7_37 o7_37_8 (φ, H) = stpT (some 191) φ H (just (aIndexAddr E.T 71 (fget φ 3) (fget φ 190))) := stT_go rfl (goT_R rfl rfl)
theorem s7_37_9 : stepT E C B 261 r7_37 o7_37_9 (φ, H) = stpT (some 192) φ H (just (aLoad E.T 5 (fget φ 191))) := stT_go rfl (goT_R rfl rfl)
theorem s7_37_10 : stepT E C B 261 r7_37 o7_37_10 (φ, H) = stpT (some 193) φ H (justO (aConv E.T 5 3 (fget φ 192))) := stT_go rfl (goT_R rfl rfl)
theorem s7_37_11 : stepT E C B 261 r7_37 o7_37_11 (φ, H) = some ((fput φ 194 (fget φ 5), H), ⟨false, [], []⟩) := stT_go rfl (goT_mv rfl rfl)
theorem s7_37_12 : stepT E C B 261 r7_37 o7_37_12 (φ, H) = some ((fput φ 195 (fget φ 23), H), ⟨false, [], []⟩) := stT_go rfl (goT_mv rfl rfl)
theorem s7_37_13 : stepT E C B 261 r7_37 o7_37_13 (φ, H) = stpT (some 196) φ H (just (aIndexAddr E.T 47 (fget φ 194) (fget φ 195))) := stT_go rfl (goT_R rfl rfl)
theorem s7_37_14 : stepT E C B 261 r7_37 o7_37_14 (φ, H) = stpT (some 197) φ H (just (aLoad E.T 3 (fget φ 196))) := stT_go rfl (goT_R rfl rfl)
theorem s7_37_15 : stepT E C B 261 r7_37 o7_37_15 (φ, H) = stpT (some 198) φ H (just (aBin E.T .mul 3 (.int .i64 8) (fget φ 197))) := stT_go rfl (goT_R rfl rfl)
theorem s7_37_16 : stepT E C B 261 r7_37 o7_37_16 (φ, H) = stpT (some 199) φ H (just (aBin E.T .add 3 (fget φ 198) (.int .i64 2))) := stT_go rfl (goT_R rfl rfl)
theorem s7_37_17 : stepT E C B 261 r7_37 o7_37_17 (φ, H) = stpT (some 200) φ H (just (aBin E.T .rem 3 (fget φ 193) (fget φ 199))) := stT_go rfl (goT_R rfl rfl)
theorem s7_37_18 : stepT E C B 261 r7_37 o7_37_18 (φ, H) = stpT (some 201) φ H (just (aBin E.T .sub 3 (fget φ 189) (fget φ 200))) := stT_go rfl (goT_R rfl rfl)
theorem s7_37_19 : stepT E C B 261 r7_37 o7_37_19 (φ, H) = some ((fput φ 202 (fget φ 6), H), ⟨false, [], []⟩) := stT_go rfl (goT_mv rfl rfl)
theorem s7_37_20 : stepT E C B 261 r7_37 o7_37_20 (φ, H) = some ((fput φ 203 (fget φ 23), H), ⟨false, [], []⟩) := stT_go rfl (goT_mv rfl rfl)
theorem s7_37_21 : stepT E C B 261 r7_37 o7_37_21 (φ, H) = stpT (some 204) φ H (just (aIndexAddr E.T 47 (fget φ 202) (fget φ 203))) := stT_go rfl (goT_R rfl rfl)
theorem s7_37_22 : stepT E C B 261 r7_37 o7_37_22 (φ, H) = stpT (some 205) φ H (just (aLoad E.T 3 (fget φ 204))) := stT_go rfl (goT_R rfl rfl)
theorem s7_37_23 : stepT E C B 261 r7_37 o7_37_23 (φ, H) = some ((fput φ 206 (fget φ 6), H), ⟨false, [], []⟩) := stT_go rfl (goT_mv rfl rfl)
theorem s7_37_24 : stepT E C B 261 r7_37 o7_37_24 (φ, H) = some ((fput φ 207 (fget φ 23), H), ⟨false, [], []⟩) := stT_go rfl (goT_mv rfl rfl)
theorem s7_37_25 : stepT E C B 261 r7_37 o7_37_25 (φ, H) = stpT (some 208) φ H (just (aIndexAddr E.T 47 (fget φ 206) (fget φ 207))) := stT_go rfl (goT_R rfl rfl)
theorem s7_37_26 : stepT E C B 261 r7_37 o7_37_26 (φ, H) = stpT (some 209) φ H (just (aLoad E.T 3 (fget φ 208))) := stT_go rfl (goT_R rfl rfl)
theorem s7_37_27 : stepT E C B 261 r7_37 o7_37_27 (φ, H) = stpT (some 210) φ H (justO (aBuild E.T 45 (evO E φ) [(0, Operand.tmp 187), (1, Operand.tmp 201), (2, Operand.tmp 205), (3, Operand.tmp 209)])) := stT_go rfl (goT_R rfl rfl)
theorem s7_37_28 : stepT E C B 261 r7_37 o7_37_28 (φ, H) = stpT (some 24) φ H (opBox (B + 24) (zeroCells E.T 45)) := stT_go rfl (goT_R rfl rfl)
theorem s7_37_29 : stepT E C B 261 r7_37 o7_37_29 (φ, H) = stpT none φ H (opStore E.T 45 (fget φ 24) (fget φ 210)) := stT_go rfl (goT_R rfl rfl)
noncomputable def c7_125 : Code := kR c7_123
noncomputable def c7_126 : Code := kL c7_125
noncomputable def r7_38 : Array Oper := kO c7_126
noncomputable def o7_38_0 : Oper := opN r7_38 0
noncomputable def o7_38_1 : Oper := opN r7_38 1
noncomputable def o7_38_2 : Oper := opN r7_38 2
noncomputable def o7_38_3 : Oper := opN r7_38 3
noncomputable def o7_38_4 : Oper := opN r7_38 4
theorem x7_126 : execA E C (fg 7) B 261 E0 N c7_126 s = regX (runA E C B 261 r7_38 r7_38.toList s) (fun s => gcM E0 [211, 212, 213, 214] (forget s.1 [211, 212, 213, 214], s.2)) := x_reg (ops := r7_38) (by rfl) (by rfl) s
theorem r7_38_l : r7_38.toList = [o7_38_0, o7_38_1, o7_38_2, o7_38_3, o7_38_4] := nrfl rfl
theorem s7_38_0 : stepA E C B 261 r7_38 o7_38_0 (φ, H) = some (fput φ 211 (fget φ 22), H) := nrfl rfl
theorem s7_38_1 : stepA E C B 261 r7_38 o7_38_1 (φ, H) = stp (some 212) φ H (just (aLoad E.T 45 (fget φ 24))) := nrfl rfl
theorem s7_38_2 : stepA E C B 261 r7_38 o7_38_2 (φ, H) = stp (some 213) φ H (aBuildSlice E.T (B + 213) 22 1 (evO E φ) [(0, Operand.tmp 212)]) := nrfl rfl
theorem s7_38_3 : stepA E C B 261 r7_38 o7_38_3 (φ, H) = stp (some 214) φ H (aBuiltin E.T (B + 214) .append #[22, 22] [(fget φ 211), (fget φ 213)]) := nrfl rfl
theorem s7_38_4 : stepA E C B 261 r7_38 o7_38_4 (φ, H) = some (fput φ 22 (fget φ 214), H) := nrfl rfl
noncomputable def c7_127 : Code := kR c7_125
noncomputable def r7_39 : Array Oper := kO c7_127
noncomputable def o7_39_0 : Oper := opN r7_39 0
noncomputable def o7_39_1 : Oper := opN r7_39 1
noncomputable def o7_39_2 : Oper := opN r7_39 2
noncomputable def o7_39_3 : Oper := opN r7_39 3
noncomputable def o7_39_4 : Oper := opN r7_39 4
noncomputable def o7_39_5 : Oper := opN r7_39 5
theorem x7_127 : execA E C (fg 7) B 261 E0 N c7_127 s = regX (runA E C B 261 r7_39 r7_39.toList s) (fun s => gcM E0 [24, 215, 216, 217, 218, 219] (forget s.1 [24, 215, 216, 217, 218, 219], s.2)) := x_reg (ops := r7_39) (by rfl) (by rfl) s
theorem r7_39_l : r7_39.toList = [o7_39_0, o7_39_1, o7_39_2, o7_39_3, o7_39_4, o7_39_5] := nrfl rfl
theorem s7_39_0 : stepA E C B 261 r7_39 o7_39_0 (φ, H) = stp (some 215) φ H (just (aFieldAddr E.T 45 (fget φ 24) 1)) := nrfl rfl
theorem s7_39_1 : stepA E C B 261 r7_39 o7_39_1 (φ, H) = stp (some 216) φ H (just (aLoad E.T 3 (fget φ 215))) := nrfl rfl
theorem s7_39_2 : stepA E C B 261 r7_39 o7_39_2 (φ, H) = stp (some 217) φ H (just (aFieldAddr E.T 45 (fget φ 24) 0)) := nrfl rfl
theorem s7_39_3 : stepA E C B 261 r7_39 o7_39_3 (φ, H) = stp (some 218) φ H (just (aLoad E.T 3 (fget φ 217))) := nrfl rfl
theorem s7_39_4 : stepA E C B 261 r7_39 o7_39_4 (φ, H) = stp (some 219) φ H (just (aBin E.T .add 3 (fget φ 216) (fget φ 218))) := nrfl rfl
theorem s7_39_5 : stepA E C B 261 r7_39 o7_39_5 (φ, H) = some (fput φ 21 (fget φ 219), H) := nrfl rfl
theorem x7_125 : execA E C (fg 7) B 261 E0 N c7_125 s = seqX (execA E C (fg 7) B 261 E0 N c7_126 s) (execA E C (fg 7) B 261 E0 N c7_127) := x_seq (by rfl) s
theorem x7_123 : execA E C (fg 7) B 261 E0 N c7_123 s = seqX (execA E C (fg 7) B 261 E0 N c7_124 s) (execA E C (fg 7) B 261 E0 N c7_125) := x_seq (by rfl) s
theorem x7_121 : execA E C (fg 7) B 261 E0 N c7_121 s = seqX (execA E C (fg 7) B 261 E0 N c7_122 s) (execA E C (fg 7) B 261 E0 N c7_123) := x_seq (by rfl) s
theorem x7_120 : execA E C (fg 7) B 261 E0 N c7_120 s = blockX 5 (fun s => (forget s.1 [], s.2)) (execA E C (fg 7) B 261 E0 N c7_121 s) := x_block (by rfl) (by rfl) s
noncomputable def c7_128 : Code := kR c7_119
noncomputable def r7_40 : Array Oper := kO c7_128
noncomputable def o7_40_0 : Oper := opN r7_40 0
noncomputable def o7_40_1 : Oper := opN r7_40 1
theorem x7_128 : execA E C (fg 7) B 261 E0 N c7_128 s = regX (runA E C B 261 r7_40 r7_40.toList s) (fun s => gcM E0 [220] (forget s.1 [220], s.2)) := x_reg (ops := r7_40) (by rfl) (by rfl) s
theorem r7_40_l : r7_40.toList = [o7_40_0, o7_40_1] := nrfl rfl
theorem s7_40_0 : stepA E C B 261 r7_40 o7_40_0 (φ, H) = stp (some 220) φ H (just (aBin E.T .add 3 (fget φ 180) (.int .i64 1))) := nrfl rfl
theorem s7_40_1 : stepA E C B 261 r7_40 o7_40_1 (φ, H) = some (fput φ 180 (fget φ 220), H) := nrfl rfl
theorem x7_119 : execA E C (fg 7) B 261 E0 N c7_119 s = seqX (execA E C (fg 7) B 261 E0 N c7_120 s) (execA E C (fg 7) B 261 E0 N c7_128) := x_seq (by rfl) s
theorem x7_115 : execA E C (fg 7) B 261 E0 N c7_115 s = seqX (execA E C (fg 7) B 261 E0 N c7_116 s) (execA E C (fg 7) B 261 E0 N c7_119) := x_seq (by rfl) s
theorem x7_113 : execA E C (fg 7) B 261 E0 N c7_113 s = seqX (execA E C (fg 7) B 261 E0 N c7_114 s) (execA E C (fg 7) B 261 E0 N c7_115) := x_seq (by rfl) s
theorem x7_112 : execA E C (fg 7) B 261 E0 N c7_112 s = iterA (execA E C (fg 7) B 261 E0 N c7_113) (headA E0) N s := x_loop (by rfl) s
theorem x7_111 : execA E C (fg 7) B 261 E0 N c7_111 s = blockX 4 (fun s => (forget s.1 [3, 21, 179, 180, 181], s.2)) (execA E C (fg 7) B 261 E0 N c7_112 s) := x_block (by rfl) (by rfl) s
theorem x7_109 : execA E C (fg 7) B 261 E0 N c7_109 s = seqX (execA E C (fg 7) B 261 E0 N c7_110 s) (execA E C (fg 7) B 261 E0 N c7_111) := x_seq (by rfl) s
noncomputable def c7_129 : Code := kR c7_108
noncomputable def c7_130 : Code := kL c7_129
noncomputable def c7_131 : Code := kL c7_130
noncomputable def r7_41 : Array Oper := kO c7_131
noncomputable def o7_41_0 : Oper := opN r7_41 0
noncomputable def o7_41_1 : Oper := opN r7_41 1
noncomputable def o7_41_2 : Oper := opN r7_41 2
theorem x7_131 : execA E C (fg 7) B 261 E0 N c7_131 s = regX (runA E C B 261 r7_41 r7_41.toList s) (fun s => gcM E0 [221, 222] (forget s.1 [221, 222], s.2)) := x_reg (ops := r7_41) (by rfl) (by rfl) s
theorem r7_41_l : r7_41.toList = [o7_41_0, o7_41_1, o7_41_2] := nrfl rfl
theorem s7_41_0 : stepA E C B 261 r7_41 o7_41_0 (φ, H) = some (fput φ 221 (fget φ 22), H) := nrfl rfl
theorem s7_41_1 : stepA E C B 261 r7_41 o7_41_1 (φ, H) = stp (some 222) φ H (aCall C (fun j => B + j * 261 + 222) true 45 [(fget φ 221)]) := nrfl rfl
theorem s7_41_2 : stepA E C B 261 r7_41 o7_41_2 (φ, H) = stp (some 223) φ H (just (aBin E.T .lss 3 (fget φ 222) (.int .i64 0))) := nrfl rfl
noncomputable def c7_132 : Code := kR c7_130
noncomputable def c7_133 : Code := kT c7_132
noncomputable def c7_134 : Code := kL c7_133
noncomputable def r7_42 : Array Oper := kO c7_134
noncomputable def o7_42_0 : Oper := opN r7_42 0
noncomputable def o7_42_1 : Oper := opN r7_42 1
noncomputable def o7_42_2 : Oper := opN r7_42 2
theorem x7_134 : execA E C (fg 7) B 261 E0 N c7_134 s = regX (runA E C B 261 r7_42 r7_42.toList s) (fun s => gcM E0 [22, 223] (forget s.1 [22, 223], s.2)) := x_reg (ops := r7_42) (by rfl) (by rfl) s
theorem r7_42_l : r7_42.toList = [o7_42_0, o7_42_1, o7_42_2] := nrfl rfl
theorem s7_42_0 : stepA E C B 261 r7_42 o7_42_0 (φ, H) = some (fput φ 224 (fget φ 22), H) := nrfl rfl
theorem s7_42_1 : stepA E C B 261 r7_42 o7_42_1 (φ, H) = stp (some 225) φ H (aBuiltin E.T (B + 225) .len #[22] [(fget φ 224)]) := nrfl rfl
theorem s7_42_2 : stepA E C B 261 r7_42 o7_42_2 (φ, H) = some (fput φ 226 (.int .i64 0), H) := nrfl rfl
noncomputable def c7_135 : Code := kR c7_133
noncomputable def c7_136 : Code := kB c7_135
noncomputable def c7_137 : Code := kB c7_136
noncomputable def c7_138 : Code := kL c7_137
noncomputable def r7_43 : Array Oper := kO c7_138
noncomputable def o7_43_0 : Oper := opN r7_43 0
theorem x7_138 : execA E C (fg 7) B 261 E0 N c7_138 s = regX (runA E C B 261 r7_43 r7_43.toList s) (fun s => gcM E0 [] (forget s.1 [], s.2)) := x_reg (ops := r7_43) (by rfl) (by rfl) s
theorem r7_43_l : r7_43.toList = [o7_43_0] := nrfl rfl
theorem s7_43_0 : stepA E C B 261 r7_43 o7_43_0 (φ, H) = stp (some 227) φ H (just (aBin E.T .lss 3 (fget φ 226) (fget φ 225))) := nrfl rfl
noncomputable def c7_139 : Code := kR c7_137
noncomputable def c7_140 : Code := kL c7_139
noncomputable def c7_141 : Code := kT c7_140
theorem x7_141 : execA E C (fg 7) B 261 E0 N c7_141 s = some (.normal, s) := x_skip (by rfl) s
noncomputable def c7_142 : Code := kE c7_140
theorem x7_142 : execA E C (fg 7) B 261 E0 N c7_142 s = some (.exit 6, s) := x_exit (by rfl) s
theorem x7_140 : execA E C (fg 7) B 261 E0 N c7_140 (φ, H) = condX (fget φ 227) (execA E C (fg 7) B 261 E0 N c7_141 (φ, H)) (execA E C (fg 7) B 261 E0 N c7_142 (φ, H)) := x_cond (by rfl) _
noncomputable def c7_143 : Code := kR c7_139
noncomputable def c7_144 : Code := kL c7_143
noncomputable def c7_145 : Code := kB c7_144
noncomputable def c7_146 : Code := kL c7_145
noncomputable def r7_44 : Array Oper := kO c7_146
noncomputable def o7_44_0 : Oper := opN r7_44 0
noncomputable def o7_44_1 : Oper := opN r7_44 1
noncomputable def o7_44_2 : Oper := opN r7_44 2
noncomputable def o7_44_3 : Oper := opN r7_44 3
noncomputable def o7_44_4 : Oper := opN r7_44 4
noncomputable def o7_44_5 : Oper := opN r7_44 5
theorem x7_146 : execA E C (fg 7) B 261 E0 N c7_146 s = regX (runA E C B 261 r7_44 r7_44.toList s) (fun s => gcM E0 [227, 228, 229, 230] (forget s.1 [227, 228, 229, 230], s.2)) := x_reg (ops := r7_44) (by rfl) (by rfl) s
theorem r7_44_l : r7_44.toList = [o7_44_0, o7_44_1, o7_44_2, o7_44_3, o7_44_4, o7_44_5] := nrfl rfl
theorem s7_44_0 : stepA E C B 261 r7_44 o7_44_0 (φ, H) = some (fput φ 228 (fget φ 226), H) := nrfl rfl
theorem s7_44_1 : stepA E C B 261 r7_44 o7_44_1 (φ, H) = stp (some 229) φ H (just (aIndexAddr E.T 22 (fget φ 224) (fget φ 226))) := nrfl rfl
theorem s7_44_2 : stepA E C B 261 r7_44 o7_44_2 (φ, H) = stp (some 230) φ H (just (aLoad E.T 45 (fget φ 229))) := nrfl rfl
theorem s7_44_3 : stepA E C B 261 r7_44 o7_44_3 (φ, H) = stp (some 26) φ H (opBox (B + 26) (zeroCells E.T 45)) := nrfl rfl
theorem s7_44_4 : stepA E C B 261 r7_44 o7_44_4 (φ, H) = some (fput φ 25 (fget φ 228), H) := nrfl rfl
theorem s7_44_5 : stepA E C B 261 r7_44 o7_44_5 (φ, H) = stp none φ H (opStore E.T 45 (fget φ 26) (fget φ 230)) := nrfl rfl
noncomputable def c7_147 : Code := kR c7_145
noncomputable def c7_148 : Code := kL c7_147
noncomputable def r7_45 : Array Oper := kO c7_148
noncomputable def o7_45_0 : Oper := opN r7_45 0
noncomputable def o7_45_1 : Oper := opN r7_45 1
noncomputable def o7_45_2 : Oper := opN r7_45 2
noncomputable def o7_45_3 : Oper := opN r7_45 3
noncomputable def o7_45_4 : Oper := opN r7_45 4
noncomputable def o7_45_5 : Oper := opN r7_45 5
noncomputable def o7_45_6 : Oper := opN r7_45 6
noncomputable def o7_45_7 : Oper := opN r7_45 7
noncomputable def o7_45_8 : Oper := opN r7_45 8
theorem x7_148 : execA E C (fg 7) B 261 E0 N c7_148 s = regX (runA E C B 261 r7_45 r7_45.toList s) (fun s => gcM E0 [25, 231, 232, 233, 234, 235, 236, 237] (forget s.1 [25, 231, 232, 233, 234, 235, 236, 237], s.2)) := x_reg (ops := r7_45) (by rfl) (by rfl) s
theorem r7_45_l : r7_45.toList = [o7_45_0, o7_45_1, o7_45_2, o7_45_3, o7_45_4, o7_45_5, o7_45_6, o7_45_7, o7_45_8] := nrfl rfl
theorem s7_45_0 : stepA E C B 261 r7_45 o7_45_0 (φ, H) = some (fput φ 232 (fget φ 5), H) := nrfl rfl
theorem s7_45_1 : stepA E C B 261 r7_45 o7_45_1 (φ, H) = some (fput φ 233 (fget φ 6), H) := nrfl rfl
theorem s7_45_2 : stepA E C B 261 r7_45 o7_45_2 (φ, H) = some (fput φ 234 (fget φ 25), H) := nrfl rfl
theorem s7_45_3 : stepA E C B 261 r7_45 o7_45_3 (φ, H) = stp (some 235) φ H (aCall C (fun j => B + j * 261 + 235) true 44 [(fget φ 232), (fget φ 233), (fget φ 234)]) := nrfl rfl
theorem s7_45_4 : stepA E C B 261 r7_45 o7_45_4 (φ, H) = some (fput φ 231 (fget φ 235), H) := nrfl rfl
theorem s7_45_5 : stepA E C B 261 r7_45 o7_45_5 (φ, H) = stp (some 236) φ H (opExtract (fget φ 231) 0) := nrfl rfl
theorem s7_45_6 : stepA E C B 261 r7_45 o7_45_6 (φ, H) = stp (some 237) φ H (opExtract (fget φ 231) 1) := nrfl rfl
theorem s7_45_7 : stepA E C B 261 r7_45 o7_45_7 (φ, H) = some (fput φ 27 (fget φ 236), H) := nrfl rfl
theorem s7_45_8 : stepA E C B 261 r7_45 o7_45_8 (φ, H) = some (fput φ 28 (fget φ 237), H) := nrfl rfl
noncomputable def c7_149 : Code := kR c7_147
noncomputable def c7_150 : Code := kL c7_149
noncomputable def r7_46 : Array Oper := kO c7_150
noncomputable def o7_46_0 : Oper := opN r7_46 0
noncomputable def o7_46_1 : Oper := opN r7_46 1
noncomputable def o7_46_2 : Oper := opN r7_46 2
noncomputable def o7_46_3 : Oper := opN r7_46 3
noncomputable def o7_46_4 : Oper := opN r7_46 4
noncomputable def o7_46_5 : Oper := opN r7_46 5
noncomputable def o7_46_6 : Oper := opN r7_46 6
noncomputable def o7_46_7 : Oper := opN r7_46 7
noncomputable def o7_46_8 : Oper := opN r7_46 8
noncomputable def o7_46_9 : Oper := opN r7_46 9
theorem x7_150 : execA E C (fg 7) B 261 E0 N c7_150 s = regX (runA E C B 261 r7_46 r7_46.toList s) (fun s => gcM E0 [26, 27, 28, 238, 239, 240, 241, 242, 243, 244, 245, 246] (forget s.1 [26, 27, 28, 238, 239, 240, 241, 242, 243, 244, 245, 246], s.2)) := x_reg (ops := r7_46) (by rfl) (by rfl) s
theorem r7_46_l : r7_46.toList = [o7_46_0, o7_46_1, o7_46_2, o7_46_3, o7_46_4, o7_46_5, o7_46_6, o7_46_7, o7_46_8, o7_46_9] := nrfl rfl
theorem s7_46_0 : stepA E C B 261 r7_46 o7_46_0 (φ, H) = stp (some 238) φ H (just (aFieldAddr E.T 45 (fget φ 26) 1)) := nrfl rfl
theorem s7_46_1 : stepA E C B 261 r7_46 o7_46_1 (φ, H) = stp (some 239) φ H (just (aLoad E.T 3 (fget φ 238))) := nrfl rfl
theorem s7_46_2 : stepA E C B 261 r7_46 o7_46_2 (φ, H) = stp (some 240) φ H (just (aFieldAddr E.T 45 (fget φ 26) 0)) := nrfl rfl
theorem s7_46_3 : stepA E C B 261 r7_46 o7_46_3 (φ, H) = stp (some 241) φ H (just (aLoad E.T 3 (fget φ 240))) := nrfl rfl
theorem s7_46_4 : stepA E C B 261 r7_46 o7_46_4 (φ, H) = stp (some 242) φ H (just (aBin E.T .add 3 (fget φ 239) (fget φ 241))) := nrfl rfl
theorem s7_46_5 : stepA E C B 261 r7_46 o7_46_5 (φ, H) = some (fput φ 243 (fget φ 28), H) := nrfl rfl
theorem s7_46_6 : stepA E C B 261 r7_46 o7_46_6 (φ, H) = stp (some 244) φ H (just (aBin E.T .mul 3 (fget φ 242) (fget φ 243))) := nrfl rfl
theorem s7_46_7 : stepA E C B 261 r7_46 o7_46_7 (φ, H) = some (fput φ 245 (fget φ 27), H) := nrfl rfl
theorem s7_46_8 : stepA E C B 261 r7_46 o7_46_8 (φ, H) = stp (some 246) φ H (just (aBin E.T .mul 3 (.int .i64 4) (fget φ 245))) := nrfl rfl
theorem s7_46_9 : stepA E C B 261 r7_46 o7_46_9 (φ, H) = stp (some 247) φ H (just (aBin E.T .gtr 3 (fget φ 244) (fget φ 246))) := nrfl rfl
noncomputable def c7_151 : Code := kR c7_149
noncomputable def c7_152 : Code := kT c7_151
noncomputable def c7_153 : Code := kL c7_152
noncomputable def r7_47 : Array Oper := kO c7_153
noncomputable def o7_47_0 : Oper := opN r7_47 0
theorem x7_153 : execA E C (fg 7) B 261 E0 N c7_153 s = regX (runA E C B 261 r7_47 r7_47.toList s) (fun s => gcM E0 [5, 6, 7, 224, 225, 226, 247] (forget s.1 [5, 6, 7, 224, 225, 226, 247], s.2)) := x_reg (ops := r7_47) (by rfl) (by rfl) s
theorem r7_47_l : r7_47.toList = [o7_47_0] := nrfl rfl
theorem s7_47_0 : stepA E C B 261 r7_47 o7_47_0 (φ, H) = some (fput φ 4 (.bool false), H) := nrfl rfl
noncomputable def c7_154 : Code := kR c7_152
theorem x7_154 : execA E C (fg 7) B 261 E0 N c7_154 s = some (.ret, s) := x_ret (by rfl) s
theorem x7_152 : execA E C (fg 7) B 261 E0 N c7_152 s = seqX (execA E C (fg 7) B 261 E0 N c7_153 s) (execA E C (fg 7) B 261 E0 N c7_154) := x_seq (by rfl) s
noncomputable def c7_155 : Code := kE c7_151
theorem x7_155 : execA E C (fg 7) B 261 E0 N c7_155 s = some (.normal, s) := x_skip (by rfl) s
theorem x7_151 : execA E C (fg 7) B 261 E0 N c7_151 (φ, H) = condX (fget φ 247) (execA E C (fg 7) B 261 E0 N c7_152 (φ, H)) (execA E C (fg 7) B 261 E0 N c7_155 (φ, H)) := x_cond (by rfl) _
theorem x7_149 : execA E C (fg 7) B 261 E0 N c7_149 s = seqX (execA E C (fg 7) B 261 E0 N c7_150 s) (execA E C (fg 7) B 261 E0 N c7_151) := x_seq (by rfl) s
theorem x7_147 : execA E C (fg 7) B 261 E0 N c7_147 s = seqX (execA E C (fg 7) B 261 E0 N c7_148 s) (execA E C (fg 7) B 261 E0 N c7_149) := x_seq (by rfl) s
theorem x7_145 : execA E C (fg 7) B 261 E0 N c7_145 s = seqX (execA E C (fg 7) B 261 E0 N c7_146 s) (execA E C (fg 7) B 261 E0 N c7_147) := x_seq (by rfl) s
theorem x7_144 : execA E C (fg 7) B 261 E0 N c7_144 s = blockX 7 (fun s => (forget s.1 [247], s.2)) (execA E C (fg 7) B 261 E0 N c7_145 s) := x_block (by rfl) (by rfl) s
noncomputable def c7_156 : Code := kR c7_143
noncomputable def r7_48 : Array Oper := kO c7_156
noncomputable def o7_48_0 : Oper := opN r7_48 0
noncomputable def o7_48_1 : Oper := opN r7_48 1
theorem x7_156 : execA E C (fg 7) B 261 E0 N c7_156 s = regX (runA E C B 261 r7_48 r7_48.toList s) (fun s => gcM E0 [248] (forget s.1 [248], s.2)) := x_reg (ops := r7_48) (by rfl) (by rfl) s
theorem r7_48_l : r7_48.toList = [o7_48_0, o7_48_1] := nrfl rfl
theorem s7_48_0 : stepA E C B 261 r7_48 o7_48_0 (φ, H) = stp (some 248) φ H (just (aBin E.T .add 3 (fget φ 226) (.int .i64 1))) := nrfl rfl
theorem s7_48_1 : stepA E C B 261 r7_48 o7_48_1 (φ, H) = some (fput φ 226 (fget φ 248), H) := nrfl rfl
theorem x7_143 : execA E C (fg 7) B 261 E0 N c7_143 s = seqX (execA E C (fg 7) B 261 E0 N c7_144 s) (execA E C (fg 7) B 261 E0 N c7_156) := x_seq (by rfl) s
theorem x7_139 : execA E C (fg 7) B 261 E0 N c7_139 s = seqX (execA E C (fg 7) B 261 E0 N c7_140 s) (execA E C (fg 7) B 261 E0 N c7_143) := x_seq (by rfl) s
theorem x7_137 : execA E C (fg 7) B 261 E0 N c7_137 s = seqX (execA E C (fg 7) B 261 E0 N c7_138 s) (execA E C (fg 7) B 261 E0 N c7_139) := x_seq (by rfl) s
theorem x7_136 : execA E C (fg 7) B 261 E0 N c7_136 s = iterA (execA E C (fg 7) B 261 E0 N c7_137) (headA E0) N s := x_loop (by rfl) s
theorem x7_135 : execA E C (fg 7) B 261 E0 N c7_135 s = blockX 6 (fun s => (forget s.1 [224, 225, 226, 227], s.2)) (execA E C (fg 7) B 261 E0 N c7_136 s) := x_block (by rfl) (by rfl) s
theorem x7_133 : execA E C (fg 7) B 261 E0 N c7_133 s = seqX (execA E C (fg 7) B 261 E0 N c7_134 s) (execA E C (fg 7) B 261 E0 N c7_135) := x_seq (by rfl) s
noncomputable def c7_157 : Code := kE c7_132
theorem x7_157 : execA E C (fg 7) B 261 E0 N c7_157 s = some (.normal, s) := x_skip (by rfl) s
theorem x7_132 : execA E C (fg 7) B 261 E0 N c7_132 (φ, H) = condX (fget φ 223) (execA E C (fg 7) B 261 E0 N c7_133 (φ, H)) (execA E C (fg 7) B 261 E0 N c7_157 (φ, H)) := x_cond (by rfl) _
theorem x7_130 : execA E C (fg 7) B 261 E0 N c7_130 s = seqX (execA E C (fg 7) B 261 E0 N c7_131 s) (execA E C (fg 7) B 261 E0 N c7_132) := x_seq (by rfl) s
noncomputable def c7_158 : Code := kR c7_129
noncomputable def c7_159 : Code := kL c7_158
noncomputable def r7_49 : Array Oper := kO c7_159
noncomputable def o7_49_0 : Oper := opN r7_49 0
noncomputable def o7_49_1 : Oper := opN r7_49 1
noncomputable def o7_49_2 : Oper := opN r7_49 2
noncomputable def o7_49_3 : Oper := opN r7_49 3
noncomputable def o7_49_4 : Oper := opN r7_49 4
noncomputable def o7_49_5 : Oper := opN r7_49 5
noncomputable def o7_49_6 : Oper := opN r7_49 6
noncomputable def o7_49_7 : Oper := opN r7_49 7
theorem x7_159 : execA E C (fg 7) B 261 E0 N c7_159 s = regX (runA E C B 261 r7_49 r7_49.toList s) (fun s => gcM E0 [5, 6, 7, 22, 223, 249, 250, 251, 252, 253, 254, 255] (forget s.1 [5, 6, 7, 22, 223, 249, 250, 251, 252, 253, 254, 255], s.2)) := x_reg (ops := r7_49) (by rfl) (by rfl) s
theorem r7_49_l : r7_49.toList = [o7_49_0, o7_49_1, o7_49_2, o7_49_3, o7_49_4, o7_49_5, o7_49_6, o7_49_7] := nrfl rfl
theorem s7_49_0 : stepA E C B 261 r7_49 o7_49_0 (φ, H) = some (fput φ 250 (fget φ 5), H) := nrfl rfl
theorem s7_49_1 : stepA E C B 261 r7_49 o7_49_1 (φ, H) = some (fput φ 251 (fget φ 6), H) := nrfl rfl
theorem s7_49_2 : stepA E C B 261 r7_49 o7_49_2 (φ, H) = some (fput φ 252 (fget φ 7), H) := nrfl rfl
theorem s7_49_3 : stepA E C B 261 r7_49 o7_49_3 (φ, H) = stp (some 253) φ H (aCall C (fun j => B + j * 261 + 253) true 20 [(fget φ 250), (fget φ 251), (fget φ 252)]) := nrfl rfl
theorem s7_49_4 : stepA E C B 261 r7_49 o7_49_4 (φ, H) = some (fput φ 249 (fget φ 253), H) := nrfl rfl
theorem s7_49_5 : stepA E C B 261 r7_49 o7_49_5 (φ, H) = stp (some 254) φ H (opExtract (fget φ 249) 0) := nrfl rfl
theorem s7_49_6 : stepA E C B 261 r7_49 o7_49_6 (φ, H) = stp (some 255) φ H (opExtract (fget φ 249) 1) := nrfl rfl
theorem s7_49_7 : stepA E C B 261 r7_49 o7_49_7 (φ, H) = some (fput φ 9 (fget φ 255), H) := nrfl rfl
noncomputable def c7_160 : Code := kR c7_158
noncomputable def c7_161 : Code := kL c7_160
noncomputable def r7_50 : Array Oper := kO c7_161
noncomputable def o7_50_0 : Oper := opN r7_50 0
noncomputable def o7_50_1 : Oper := opN r7_50 1
noncomputable def o7_50_2 : Oper := opN r7_50 2
noncomputable def o7_50_3 : Oper := opN r7_50 3
noncomputable def o7_50_4 : Oper := opN r7_50 4
noncomputable def o7_50_5 : Oper := opN r7_50 5
theorem x7_161 : execA E C (fg 7) B 261 E0 N c7_161 s = regX (runA E C B 261 r7_50 r7_50.toList s) (fun s => gcM E0 [9, 256, 257, 258, 259, 260] (forget s.1 [9, 256, 257, 258, 259, 260], s.2)) := x_reg (ops := r7_50) (by rfl) (by rfl) s
theorem r7_50_l : r7_50.toList = [o7_50_0, o7_50_1, o7_50_2, o7_50_3, o7_50_4, o7_50_5] := nrfl rfl
theorem s7_50_0 : stepA E C B 261 r7_50 o7_50_0 (φ, H) = some (fput φ 256 (fget φ 9), H) := nrfl rfl
theorem s7_50_1 : stepA E C B 261 r7_50 o7_50_1 (φ, H) = stp (some 257) φ H (just (aBin E.T .eql 28 (fget φ 256) (.int .i64 2))) := nrfl rfl
theorem s7_50_2 : stepA E C B 261 r7_50 o7_50_2 (φ, H) = some (fput φ 258 (fget φ 257), H) := nrfl rfl
theorem s7_50_3 : stepA E C B 261 r7_50 o7_50_3 (φ, H) = gd φ 258 true (fun φ => some (fput φ 259 (.tup []), H)) (fun φ => stp (some 259) φ H (aCall C (fun j => B + j * 261 + 259) true 10 [])) := s_gd (j := 2) (oj := o7_50_2) rfl rfl rfl (fun _ => rfl) (fun _ => rfl)
theorem s7_50_4 : stepA E C B 261 r7_50 o7_50_4 (φ, H) = stp (some 260) φ H (opPick (fget φ 258) (fget φ 259) (.bool false)) := nrfl rfl
theorem s7_50_5 : stepA E C B 261 r7_50 o7_50_5 (φ, H) = some (fput φ 4 (fget φ 260), H) := nrfl rfl
noncomputable def c7_162 : Code := kR c7_160
theorem x7_162 : execA E C (fg 7) B 261 E0 N c7_162 s = some (.ret, s) := x_ret (by rfl) s
theorem x7_160 : execA E C (fg 7) B 261 E0 N c7_160 s = seqX (execA E C (fg 7) B 261 E0 N c7_161 s) (execA E C (fg 7) B 261 E0 N c7_162) := x_seq (by rfl) s
theorem x7_158 : execA E C (fg 7) B 261 E0 N c7_158 s = seqX (execA E C (fg 7) B 261 E0 N c7_159 s) (execA E C (fg 7) B 261 E0 N c7_160) := x_seq (by rfl) s
theorem x7_129 : execA E C (fg 7) B 261 E0 N c7_129 s = seqX (execA E C (fg 7) B 261 E0 N c7_130 s) (execA E C (fg 7) B 261 E0 N c7_158) := x_seq (by rfl) s
theorem x7_108 : execA E C (fg 7) B 261 E0 N c7_108 s = seqX (execA E C (fg 7) B 261 E0 N c7_109 s) (execA E C (fg 7) B 261 E0 N c7_129) := x_seq (by rfl) s
theorem x7_106 : execA E C (fg 7) B 261 E0 N c7_106 s = seqX (execA E C (fg 7) B 261 E0 N c7_107 s) (execA E C (fg 7) B 261 E0 N c7_108) := x_seq (by rfl) s
theorem x7_104 : execA E C (fg 7) B 261 E0 N c7_104 s = seqX (execA E C (fg 7) B 261 E0 N c7_105 s) (execA E C (fg 7) B 261 E0 N c7_106) := x_seq (by rfl) s
theorem x7_55 : execA E C (fg 7) B 261 E0 N c7_55 s = seqX (execA E C (fg 7) B 261 E0 N c7_56 s) (execA E C (fg 7) B 261 E0 N c7_104) := x_seq (by rfl) s
theorem x7_47 : execA E C (fg 7) B 261 E0 N c7_47 s = seqX (execA E C (fg 7) B 261 E0 N c7_48 s) (execA E C (fg 7) B 261 E0 N c7_55) := x_seq (by rfl) s
theorem x7_45 : execA E C (fg 7) B 261 E0 N c7_45 s = seqX (execA E C (fg 7) B 261 E0 N c7_46 s) (execA E C (fg 7) B 261 E0 N c7_47) := x_seq (by rfl) s
theorem x7_20 : execA E C (fg 7) B 261 E0 N c7_20 s = seqX (execA E C (fg 7) B 261 E0 N c7_21 s) (execA E C (fg 7) B 261 E0 N c7_45) := x_seq (by rfl) s
theorem x7_18 : execA E C (fg 7) B 261 E0 N c7_18 s = seqX (execA E C (fg 7) B 261 E0 N c7_19 s) (execA E C (fg 7) B 261 E0 N c7_20) := x_seq (by rfl) s
theorem x7_16 : execA E C (fg 7) B 261 E0 N c7_16 s = seqX (execA E C (fg 7) B 261 E0 N c7_17 s) (execA E C (fg 7) B 261 E0 N c7_18) := x_seq (by rfl) s
theorem x7_8 : execA E C (fg 7) B 261 E0 N c7_8 s = seqX (execA E C (fg 7) B 261 E0 N c7_9 s) (execA E C (fg 7) B 261 E0 N c7_16) := x_seq (by rfl) s
theorem x7_6 : execA E C (fg 7) B 261 E0 N c7_6 s = seqX (execA E C (fg 7) B 261 E0 N c7_7 s) (execA E C (fg 7) B 261 E0 N c7_8) := x_seq (by rfl) s
theorem x7_4 : execA E C (fg 7) B 261 E0 N c7_4 s = seqX (execA E C (fg 7) B 261 E0 N c7_5 s) (execA E C (fg 7) B 261 E0 N c7_6) := x_seq (by rfl) s
theorem x7_2 : execA E C (fg 7) B 261 E0 N c7_2 s = seqX (execA E C (fg 7) B 261 E0 N c7_3 s) (execA E C (fg 7) B 261 E0 N c7_4) := x_seq (by rfl) s
theorem x7_0 : execA E C (fg 7) B 261 E0 N c7_0 s = seqX (execA E C (fg 7) B 261 E0 N c7_1 s) (execA E C (fg 7) B 261 E0 N c7_2) := x_seq (by rfl) s
theorem fi_7 : fInfo E 7 = some ⟨261, #[.tmp 4], c7_0⟩ := nrfl rfl
theorem b_7 (args : List AV) : bodyA E C fg N 7 args H B = bodyX E [.tmp 4] (execA E C (fg 7) B 261 H N c7_0 (frame0 args 0 [], H)) := bodyA_eq fi_7 args H
end Go.AM.Ytmhbnflnlglljaa
end

section
namespace Go.AM.Ytmhbnflnlglljaa
open Go Go.AM
set_option maxRecDepth 100000
set_option maxHeartbeats 4000000
theorem icells_drop (ws : List Int) (k : Nat) : (icells ws).drop k = icells (ws.drop k) := by simp [icells]
theorem total_drop (ws : List Int) (k : Nat) : totalF (ws.drop k) = allW ws k := by
  unfold totalF allW
  rw [List.length_drop]
  have : ∀ m, sumF (fun i => (ws.drop k).getD i 0) 0 m = sumF (fun i => ws.getD i 0) k m := by
    intro m
    induction m with
    | zero => rfl
    | succ m ih => simp only [sumF, ih]; congr 1; simp [List.getElem?_drop]
  exact this _
/-- What the law multiplies in a round. -/
def rcW (ws : List Int) (s i : Nat) : Int := if i = s then allW ws (i + 1) else ws.getD i 0
def rcP (hs ws : List Int) (s : Nat) : Nat → Int × Int
  | 0 => (hs.getD s 0, 1)
  | i + 1 => ((rcP hs ws s i).1 * allW ws i + hs.getD i 0 * rcW ws s i * (rcP hs ws s i).2, (rcP hs ws s i).2 * allW ws i)
theorem allW_succ {hs ws : List Int} (h : OkL hs ws) {i : Nat} (hi : i < ws.length) : allW ws i = ws.getD i 0 + allW ws (i + 1) := by
  unfold allW
  rw [show ws.length - i = (ws.length - (i + 1)) + 1 by omega, sumF_head]
theorem allW_nn {hs ws : List Int} (h : OkL hs ws) {i : Nat} (hi : i ≤ ws.length) : 0 ≤ allW ws i := by
  by_cases e : i = ws.length
  · subst e; simp [allW, sumF]
  · have := allW_b h.le h.w (k := i) (by omega); omega
theorem rcW_b {hs ws : List Int} (h : OkL hs ws) {s i : Nat} (hi : i < ws.length) : 0 ≤ rcW ws s i ∧ rcW ws s i ≤ allW ws i := by
  have a := allW_succ h hi
  have b := h.w i hi
  have c := allW_nn h (i := i + 1) (by omega)
  unfold rcW
  split <;> omega
theorem rc_b {hs ws : List Int} (h : OkL hs ws) {s : Nat} (hs' : s < ws.length) : ∀ i, i ≤ ws.length → 1 ≤ (rcP hs ws s i).2 ∧ (rcP hs ws s i).2 ≤ (45 ^ i : Nat) ∧ 0 ≤ (rcP hs ws s i).1 ∧ (rcP hs ws s i).1 ≤ ((i + 1) * 4194304 : Nat) * (rcP hs ws s i).2
  | 0, _ => by
    have := h.h s hs'
    simp only [rcP]
    omega
  | i + 1, hi => by
    obtain ⟨q1, q2, r1, r2⟩ := rc_b h hs' i (by omega)
    obtain ⟨t1, t2⟩ := allW_b h.le h.w (k := i) (by omega)
    obtain ⟨w1, w2⟩ := rcW_b h (s := s) (i := i) (by omega)
    obtain ⟨x1, x2⟩ := h.h i (by omega)
    simp only [rcP]
    generalize (rcP hs ws s i).1 = R at *
    generalize (rcP hs ws s i).2 = Q at *
    generalize allW ws i = T at *
    generalize rcW ws s i = w at *
    generalize hs.getD i 0 = x at *
    have a1 : Q * T ≤ (45 ^ i : Nat) * 45 := Int.mul_le_mul q2 t2 (by omega) (by omega)
    have a2 : 1 ≤ Q * T := by have := Int.mul_pos (a := Q) (b := T) (by omega) (by omega); omega
    have a3 : R * T ≤ ((i + 1) * 4194304 : Nat) * Q * T := Int.mul_le_mul_of_nonneg_right r2 (by omega)
    have a4 : x * w ≤ 4194304 * T := Int.mul_le_mul x2 w2 w1 (by omega)
    have a5 : x * w * Q ≤ 4194304 * T * Q := Int.mul_le_mul_of_nonneg_right a4 (by omega)
    have a6 : 0 ≤ R * T := Int.mul_nonneg r1 (by omega)
    have a7 : 0 ≤ x * w * Q := Int.mul_nonneg (Int.mul_nonneg (by omega) w1) (by omega)
    have e : ((i + 1 + 1) * 4194304 : Nat) * (Q * T) = ((i + 1) * 4194304 : Nat) * Q * T + 4194304 * T * Q := by
      rw [show (((i + 1 + 1) * 4194304 : Nat) : Int) = ((i + 1) * 4194304 : Nat) + 4194304 by omega, Int.add_mul]; ac_rfl
    have e2 : ((45 ^ (i + 1) : Nat) : Int) = (45 ^ i : Nat) * 45 := by rw [Nat.pow_succ]; simp
    rw [e, e2]
    omega
theorem rc_small {hs ws : List Int} (h : OkL hs ws) {s : Nat} (hs' : s < ws.length) {i : Nat} (hi : i ≤ ws.length) : 1 ≤ (rcP hs ws s i).2 ∧ (rcP hs ws s i).2 ≤ 184528125 ∧ 0 ≤ (rcP hs ws s i).1 ∧ (rcP hs ws s i).1 ≤ 4643840409600000 := by
  obtain ⟨q1, q2, r1, r2⟩ := rc_b h hs' i hi
  have hle := h.le
  have h45 : 45 ^ i ≤ 45 ^ 5 := Nat.pow_le_pow_right (by omega) (by omega)
  have e6 : (45 : Nat) ^ 5 = 184528125 := by decide
  have : (((i + 1) * 4194304 : Nat) : Int) * (rcP hs ws s i).2 ≤ 25165824 * 184528125 := Int.mul_le_mul (by omega) (by omega) (by omega) (by omega)
  omega
abbrev rcS (hs ws : List Int) (e1 e2 : Bool) (s i : Nat) : St := ([(17, .int .i64 i), (16, .int .i64 (s + 1 : Nat)), (7, .int .i64 (rcP hs ws s i).2), (6, .int .i64 (rcP hs ws s i).1), (2, .int .i64 s), (1, .imm (icells ws) ws.length e2), (0, .imm (icells hs) hs.length e1)], [])
theorem reach_run {d : Nat} {hs ws : List Int} {e1 e2 : Bool} (h : OkL hs ws) {s : Nat} (hs' : s < ws.length) :
    rsOf (callA E fg 1000 (d + 2) 44 [.imm (icells hs) hs.length e1, .imm (icells ws) ws.length e2, .int .i64 s] [] 0) = some (.tup [.int .i64 (rcP hs ws s (s + 1)).1, .int .i64 (rcP hs ws s (s + 1)).2]) := by
  change rsOf (bodyA E (callA E fg 1000 (d + 1)) fg 1000 44 _ _ _) = _
  have hle := h.le
  have heq := h.eq
  obtain ⟨x0, hx0⟩ := at_ex (l := hs) (k := s) (by omega)
  have gx0 : hs.getD s 0 = x0 := by simp [hx0]
  have hloop := iter_all (f := execA E (callA E fg 1000 (d + 1)) (fg 44) 0 54 [] 1000 c44_9) (hd := headA []) (rcS hs ws e1 e2 s) (s + 1) 1000 0
    (rcS hs ws e1 e2 s 0) (by rfl) (by omega) (fun i _ hi => by
      have hiw : i < ws.length := by omega
      obtain ⟨x, hx⟩ := at_ex (l := hs) (k := i) (by omega)
      obtain ⟨w, hw⟩ := at_ex (l := ws) (k := i) hiw
      have gx : hs.getD i 0 = x := by simp [hx]
      have gw : ws.getD i 0 = w := by simp [hw]
      have bw := h.w i hiw
      have bx := h.h i hiw
      obtain ⟨q1, q2, r1, r2⟩ := rc_small h hs' (i := i) (by omega)
      obtain ⟨q3, q4, r3, r4⟩ := rc_small h hs' (i := i + 1) (by omega)
      obtain ⟨t1, t2⟩ := allW_b h.le h.w hiw
      obtain ⟨w1, w2⟩ := rcW_b h (s := s) hiw
      have t3 := allW_nn h (i := i + 1) (by omega)
      have t4 := allW_succ h hiw
      rw [gw] at bw t4
      rw [gx] at bx
      have ex1 : rcP hs ws s (i + 1) = ((rcP hs ws s i).1 * allW ws i + x * rcW ws s i * (rcP hs ws s i).2, (rcP hs ws s i).2 * allW ws i) := by rw [rcP, gx]
      rw [ex1] at q3 q4 r3 r4
      simp only at q3 q4 r3 r4
      have hb : ∀ k, k ≤ ws.length → ∀ (j : Nat) (w : Int), (ws.drop k)[j]? = some w → -1000 ≤ w ∧ w ≤ 1000 := fun k hk j w hjw => by
        rw [List.getElem?_drop] at hjw
        have hjl := at_lt hjw
        have := h.w _ hjl
        have e : ws.getD (k + j) 0 = w := by simp [hjw]
        omega
      have ct1 := fun (site : Nat → Nat) seen ex => total_call (d := d) (site := site) (seen := seen) (ex := ex) (ws := ws.drop i) (by rw [List.length_drop]; omega) (hb i (by omega))
      have ct2 := fun (site : Nat → Nat) seen ex => total_call (d := d) (site := site) (seen := seen) (ex := ex) (ws := ws.drop (i + 1)) (by rw [List.length_drop]; omega) (hb (i + 1) (by omega))
      rw [total_drop, List.length_drop] at ct1 ct2
      have tk1 : List.take (ws.length - i) (icells (ws.drop i)) = icells (ws.drop i) := List.take_of_length_le (by rw [icells_length, List.length_drop]; exact Nat.le_refl _)
      have tk2 : List.take (ws.length - (i + 1)) (icells (ws.drop (i + 1))) = icells (ws.drop (i + 1)) := List.take_of_length_le (by rw [icells_length, List.length_drop]; exact Nat.le_refl _)
      have m0 : 0 ≤ (rcP hs ws s i).1 * allW ws i := Int.mul_nonneg r1 (by omega)
      have m1 : (rcP hs ws s i).1 * allW ws i ≤ 4643840409600000 * 45 := Int.mul_le_mul r2 t2 (by omega) (by omega)
      have m2 : x * rcW ws s i ≤ 4194304 * 45 := Int.mul_le_mul bx.2 (by omega) w1 (by omega)
      have m3 : 0 ≤ x * rcW ws s i := Int.mul_nonneg (by omega) w1
      have m4 : x * rcW ws s i * (rcP hs ws s i).2 ≤ 4194304 * 45 * 184528125 := Int.mul_le_mul m2 q2 (by omega) (by omega)
      have m5 : 0 ≤ x * rcW ws s i * (rcP hs ws s i).2 := Int.mul_nonneg m3 (by omega)
      have hw1 : ((i : Nat) : Int) < ((s + 1 : Nat) : Int) := by omega
      by_cases e : i = s
      · subst e
        have eW : rcW ws i i = allW ws (i + 1) := by unfold rcW; rw [if_pos rfl]
        rw [eW] at m2 m3 m4 m5
        rw [show rcS hs ws e1 e2 i (i + 1) = ([(17, .int .i64 (i + 1 : Nat)), (16, .int .i64 (i + 1 : Nat)), (7, .int .i64 ((rcP hs ws i i).2 * allW ws i)), (6, .int .i64 ((rcP hs ws i i).1 * allW ws i + x * allW ws (i + 1) * (rcP hs ws i i).2)), (2, .int .i64 i), (1, .imm (icells ws) ws.length e2), (0, .imm (icells hs) hs.length e1)], []) by simp only [rcS, ex1, eW]]
        simp (disch := omega) only [condX_bool, blockX_normal, run_nil, run_cons, fget_cons', fput_cons', forget_nil, forget_cons', gcM_n, gcM_c, stp, just, Rd.bind, Rd.run, Rd.opt, upds, tsz, rdCells, aLoad, aIndexAddr, aNum, aBin, aInt, Nat.reduceLT, Nat.reduceBEq, Nat.reduceEqDiff, Nat.reduceLeDiff, ↓reduceIte, reduceCtorEq, Nat.zero_add, Bool.and_true, decide_true, window, putD_some, and_true, true_and, Int.natCast_nonneg, Int.ofNat_lt, Int.toNat_natCast, aCall, snaps, List.append_nil, List.elem_cons, List.elem_nil, seqN, bindN, regN, snap_imm, aSlice, aBounds, bMax, bHigh, bLow, Nat.mul_one, beq_self_eq_true, Bool.false_eq_true, T_3, T_47, x44_10, r44_3_l, s44_3_0, x44_13, x44_14, x44_12, x44_18, r44_4_l, s44_4_0, s44_4_1, x44_20, r44_5_l, s44_5_0, s44_5_1, s44_5_2, s44_5_3, s44_5_4, x44_23, r44_6_l, s44_6_0, s44_6_1, s44_6_2, x44_25, r44_7_l, s44_7_0, s44_7_1, s44_7_2, s44_7_3, s44_7_4, s44_7_5, x44_26, x44_24, x44_22, x44_28, r44_8_l, s44_8_0, s44_8_1, s44_8_2, s44_8_3, s44_8_4, x44_29, r44_9_l, s44_9_0, s44_9_1, s44_9_2, s44_9_3, s44_9_4, s44_9_5, s44_9_6, s44_9_7, s44_9_8, s44_9_9, s44_9_10, s44_9_11, s44_9_12, s44_9_13, s44_9_14, s44_9_15, s44_9_16, x44_27, x44_21, x44_19, x44_17, x44_16, x44_30, r44_10_l, s44_10_0, s44_10_1, x44_15, x44_11, x44_9, rcS, hw1, icells_length, icells_at hx, icells_at hw, if_pos, wrp_succ (show i < 1000000 by omega), Int.ofNat_le, icells_drop, tk1, tk2, ct1, ct2, wrp64, Nat.zero_add]
        exact ⟨_, rfl, rfl⟩
      · have eW : rcW ws s i = w := by unfold rcW; rw [if_neg e, gw]
        rw [eW] at m2 m3 m4 m5
        have hne : ¬ (i : Int) = s := by omega
        rw [show rcS hs ws e1 e2 s (i + 1) = ([(17, .int .i64 (i + 1 : Nat)), (16, .int .i64 (s + 1 : Nat)), (7, .int .i64 ((rcP hs ws s i).2 * allW ws i)), (6, .int .i64 ((rcP hs ws s i).1 * allW ws i + x * w * (rcP hs ws s i).2)), (2, .int .i64 s), (1, .imm (icells ws) ws.length e2), (0, .imm (icells hs) hs.length e1)], []) by simp only [rcS, ex1, eW]]
        simp (disch := omega) only [condX_bool, blockX_normal, run_nil, run_cons, fget_cons', fput_cons', forget_nil, forget_cons', gcM_n, gcM_c, stp, just, Rd.bind, Rd.run, Rd.opt, upds, tsz, rdCells, aLoad, aIndexAddr, aNum, aBin, aInt, Nat.reduceLT, Nat.reduceBEq, Nat.reduceEqDiff, Nat.reduceLeDiff, ↓reduceIte, reduceCtorEq, Nat.zero_add, beq_iff_eq, Bool.and_true, decide_true, window, putD_some, and_true, true_and, Int.natCast_nonneg, Int.ofNat_lt, Int.toNat_natCast, aCall, snaps, List.append_nil, List.elem_cons, List.elem_nil, seqN, bindN, regN, snap_imm, aSlice, aBounds, bMax, bHigh, bLow, Nat.mul_one, beq_self_eq_true, Bool.false_eq_true, T_3, T_47, x44_10, r44_3_l, s44_3_0, x44_13, x44_14, x44_12, x44_18, r44_4_l, s44_4_0, s44_4_1, x44_20, r44_5_l, s44_5_0, s44_5_1, s44_5_2, s44_5_3, s44_5_4, x44_23, r44_6_l, s44_6_0, s44_6_1, s44_6_2, x44_25, r44_7_l, s44_7_0, s44_7_1, s44_7_2, s44_7_3, s44_7_4, x44_26, x44_24, x44_22, x44_28, r44_8_l, s44_8_0, s44_8_1, s44_8_2, s44_8_3, s44_8_4, x44_29, r44_9_l, s44_9_0, s44_9_1, s44_9_2, s44_9_3, s44_9_4, s44_9_5, s44_9_6, s44_9_7, s44_9_8, s44_9_9, s44_9_10, s44_9_11, s44_9_12, s44_9_13, s44_9_14, s44_9_15, s44_9_16, x44_27, x44_21, x44_19, x44_17, x44_16, x44_30, r44_10_l, s44_10_0, s44_10_1, x44_15, x44_11, x44_9, rcS, hw1, hne, icells_length, icells_at hx, icells_at hw, if_pos, wrp_succ (show i < 1000000 by omega), Int.ofNat_le, icells_drop, tk1, ct1, wrp64, Nat.zero_add]
        exact ⟨_, rfl, rfl⟩) (e := .exit 0) (se := ((18, .bool false) :: (rcS hs ws e1 e2 s (s + 1)).1, [])) (by
      rw [Nat.zero_add]
      simp only [seqX_exit, condX_bool, run_nil, run_cons, fget_cons', fput_cons', forget_nil, forget_cons', gcM_n, stp, just, Rd.bind, Rd.run, Rd.opt, upds, aBin, aInt, Nat.reduceEqDiff, Nat.reduceLeDiff, ↓reduceIte, decide_false, putD_some, List.elem_nil, seqN, bindN, regN, Int.lt_irrefl, Bool.false_eq_true, x44_10, r44_3_l, s44_3_0, x44_13, x44_14, x44_12, x44_11, x44_9, rcS, Int.lt_irrefl, decide_false, Bool.false_eq_true]) (by simp)
  simp only [rcS, cl0] at hloop
  rw [show (rcP hs ws s 0).1 = x0 from gx0, show (rcP hs ws s 0).2 = 1 from rfl] at hloop
  have hsl : s < hs.length := by omega
  simp (disch := omega) only [blockX_exit, bodyX_ret, run_nil, run_cons, fget_cons', fput_cons', forget_nil, forget_cons', frame0, gcM_c, stp, just, Rd.bind, Rd.run, Rd.opt, upds, tsz, rdCells, aLoad, resA, resL, aIndexAddr, aNum, aBin, aInt, Nat.reduceAdd, Nat.reduceLT, Nat.reduceBEq, Nat.reduceEqDiff, Nat.reduceLeDiff, ↓reduceIte, reduceCtorEq, Nat.zero_add, putD_some, and_true, Int.natCast_nonneg, Int.ofNat_lt, Int.toNat_natCast, Option.map_some, List.elem_cons, List.elem_nil, seqN, bindN, regN, Nat.mul_one, beq_self_eq_true, Bool.false_eq_true, T_3, T_47, x44_1, r44_0_l, s44_0_0, s44_0_1, x44_3, r44_1_l, s44_1_0, s44_1_1, s44_1_2, s44_1_3, s44_1_4, s44_1_5, x44_6, r44_2_l, s44_2_0, s44_2_1, s44_2_2, x44_8, x44_7, x44_5, x44_32, r44_11_l, s44_11_0, s44_11_1, s44_11_2, s44_11_3, x44_33, x44_31, x44_4, x44_2, x44_0, b_44, hsl, icells_length, icells_at hx0, wrp_succ (show s < 1000000 by omega), hloop]
theorem reach_call {d : Nat} {site : Nat → Nat} {seen : List Nat} {hs ws : List Int} {e1 e2 : Bool} (h : OkL hs ws) {s : Nat} (hs' : s < ws.length) :
    aBack site true seen (thaw (callA E fg 1000 (d + 2)) 44 [.imm (icells hs) hs.length e1, .imm (icells ws) ws.length e2, .int .i64 s] [] 0) = .pure (.tup [.int .i64 (rcP hs ws s (s + 1)).1, .int .i64 (rcP hs ws s (s + 1)).2], []) :=
  aBack_ints (rs_ex (reach_run h hs'))
end Go.AM.Ytmhbnflnlglljaa
end

section
namespace Go.AM.Ytmhbnflnlglljaa
open Go Go.AM
set_option maxRecDepth 100000
set_option maxHeartbeats 8000000
structure P2 where
  a : Int
  b : Int
deriving Inhabited
structure P2Ok (p : P2) : Prop where
  a : 0 ≤ p.a ∧ p.a ≤ 255
  b : 0 ≤ p.b ∧ p.b ≤ 255
def p2cells : List P2 → List AV
  | [] => []
  | q :: l => .int .u8 q.a :: .int .u8 q.b :: p2cells l
def lcells (m k : Int) (qs : List P2) : List AV := .int .u8 m :: .int .u8 k :: p2cells qs
theorem p2cells_length : ∀ (l : List P2), (p2cells l).length = l.length * 2
  | [] => rfl
  | q :: l => by simp [p2cells, p2cells_length l]; omega
theorem p2cells_at : ∀ (l : List P2) (k : Nat) (q : P2), l[k]? = some q → ((p2cells l).drop (k * 2)).take 2 = [.int .u8 q.a, .int .u8 q.b]
  | [], k, q, h => by simp at h
  | a :: l, 0, q, h => by simp at h; subst h; simp [p2cells]
  | a :: l, k + 1, q, h => by
    simp at h
    have := p2cells_at l k q h
    rw [p2cells, show (k + 1) * 2 = k * 2 + 2 by omega]
    simpa using this
theorem lcells_at {m z : Int} {qs : List P2} {k : Nat} {q : P2} (h : qs[k]? = some q) : ((lcells m z qs).drop (2 + k * 2)).take 2 = [.int .u8 q.a, .int .u8 q.b] := by
  rw [lcells, show 2 + k * 2 = k * 2 + 2 by omega]
  simpa using p2cells_at qs k q h
structure LOk (m z : Int) (qs : List P2) : Prop where
  m : 0 ≤ m ∧ m ≤ 255
  z : 0 ≤ z ∧ z ≤ 255
  l : qs.length = 5
  q : ∀ (i : Nat) (q : P2), qs[i]? = some q → P2Ok q
def hfN (z : Int) (qs : List P2) (i : Nat) : Int := if z.tmod 2 = 1 then 3 else 1 + (qs.getD i default).a.tmod 4
def wgN (wt : Int) (qs : List P2) (i : Nat) : Int := 1 + (qs.getD i default).b.tmod wt
def hfI (z : Int) (qs : List P2) (i : Nat) : List Int := (List.range i).map (hfN z qs)
def wgI (wt : Int) (qs : List P2) (i : Nat) : List Int := (List.range i).map (wgN wt qs)
theorem hfI_length (z qs i) : (hfI z qs i).length = i := by simp [hfI]
theorem wgI_length (z qs i) : (wgI z qs i).length = i := by simp [wgI]
theorem hfI_succ (z qs i) : hfI z qs (i + 1) = hfI z qs i ++ [hfN z qs i] := by simp [hfI, List.range_succ]
theorem wgI_succ (z qs i) : wgI z qs (i + 1) = wgI z qs i ++ [wgN z qs i] := by simp [wgI, List.range_succ]
def nOfL (m many : Int) : Nat := (1 + m.tmod many).toNat
theorem nOfL_b {m z many : Int} {qs : List P2} (h : LOk m z qs) (hm : many = 4 ∨ many = 5) : 1 ≤ nOfL m many ∧ nOfL m many ≤ many ∧ 1 + m.tmod many = (nOfL m many : Int) := by
  obtain ⟨a, b⟩ := tmod_b h.m.1 many (by omega)
  unfold nOfL
  omega
abbrev lmS (m z wt : Int) (qs : List P2) (n i : Nat) : St := ([(20, .int .i64 i), (19, .int .i64 n), (18, .ref 3 2 n 5 12 2 true), (7, outV 45 (wgI wt qs i)), (6, outV 36 (hfI z qs i)), (3, .ptr 3 0 12), (2, .int .i64 wt)], (3, ⟨.box, lcells m z qs⟩) :: (outH 36 (hfI z qs i) ++ outH 45 (wgI wt qs i)))
theorem lm_round {C : Callee} {m z wt : Int} {qs : List P2} (h : LOk m z qs) (hwt : wt = 5 ∨ wt = 9) (n i : Nat) (hn : n ≤ 5) (hi : i < n) :
    ∃ s', execA E C (fg 43) 0 49 [] 1000 c43_7 (lmS m z wt qs n i) = some (.normal, s') ∧ headA [] s' = lmS m z wt qs n (i + 1) := by
  obtain ⟨q, hq⟩ := at_ex (l := qs) (k := i) (by have := h.l; omega)
  obtain ⟨⟨qa1, qa2⟩, ⟨qb1, qb2⟩⟩ := h.q i q hq
  have hat := lcells_at (m := m) (z := z) hq
  have hlen : (lcells m z qs).length = 12 := by simp [lcells, p2cells_length, h.l]
  have hoff : 2 + i * 2 + 2 ≤ 12 := by omega
  have h5 : i < 5 := by omega
  obtain ⟨ta1, ta2⟩ := tmod_b qa1 4 (by omega)
  obtain ⟨tb1, tb2⟩ := tmod_b qb1 wt (by omega)
  obtain ⟨tz1, tz2⟩ := tmod_b h.z.1 2 (by omega)
  have hnw : ¬ wt = 0 := by omega
  have hgq : qs.getD i default = q := by simp [hq]
  have g0 : (lcells m z qs)[1]? = some (.int .u8 z) := rfl
  have hL := h.l
  have z1 : ¬ (2 : Int) = 0 := by decide
  rw [show lmS m z wt qs n (i + 1) = ([(20, .int .i64 (i + 1 : Nat)), (19, .int .i64 n), (18, .ref 3 2 n 5 12 2 true), (7, outV 45 (wgI wt qs i ++ [1 + q.b.tmod wt])), (6, outV 36 (hfI z qs i ++ [if z.tmod 2 = 1 then 3 else 1 + q.a.tmod 4])), (3, .ptr 3 0 12), (2, .int .i64 wt)], (3, ⟨.box, lcells m z qs⟩) :: (outH 36 (hfI z qs i ++ [if z.tmod 2 = 1 then 3 else 1 + q.a.tmod 4]) ++ outH 45 (wgI wt qs i ++ [1 + q.b.tmod wt]))) by simp only [lmS, hfI_succ, wgI_succ, hfN, wgN, hgq]]
  have lh := hfI_length z qs i
  have lw := wgI_length wt qs i
  simp only [lmS]
  generalize hfI z qs i = oh at *
  generalize wgI wt qs i = ow at *
  cases oh with
  | nil =>
    obtain rfl : i = 0 := by simpa using lh.symm
    obtain rfl : ow = [] := List.length_eq_zero_iff.1 lw
    simp only [outV, outH, List.nil_append]
    by_cases hz : z.tmod 2 = 1
    · rw [if_pos hz]
      simp (disch := omega) only [condX_bool, blockX_normal, Bool.not_true, Bool.not_false, run_nil, run_cons, fget_cons', fput_cons', forget_nil, forget_cons', hget_nil', hget_cons', hset_nil', hset_cons', gcM_n, gcM_c, stp, opBox, justO, just, Rd.bind, Rd.run, Rd.opt, upds, acells, zeroCells, tsz, elemT, rdCells, fieldOf, aFieldAddr, aLoad, aStore, opStore, fresh, aIndexAddr, aNum, aBuiltin, aBin, aInt, putC, evO, Nat.reduceAdd, Nat.reduceLT, Nat.reduceBEq, Nat.reduceEqDiff, Nat.reduceLeDiff, ↓reduceIte, reduceCtorEq, liveBlk_eq, Nat.zero_add, Nat.add_zero, ne_eq, List.nil_append, List.getElem?_toArray, rtX_some, addT_some, drX_some, runT_nil, runT_cons, neat_eq, descF_nil', descF_cons', ascH_nil', ascH_cons', stpT, Rd.foot, writing, touching, Tr.empty, dynPairs, apartT, disj, List.isEmpty_nil, List.isEmpty_cons, List.map_nil, List.map_cons, Bool.not_false, Bool.not_true, Bool.true_or, Bool.or_true, Bool.or_false, Bool.and_true, Bool.true_and, Bool.and_self, decide_true, not_true_eq_false, or_self, aBuildSlice, partsOf, fillA, repC, isSliceT, aAppend, srcOf, window, putD_some, putD_none, and_true, true_and, Int.natCast_nonneg, Int.ofNat_lt, Int.toNat_natCast, snaps, List.append_nil, List.elem_cons, List.elem_nil, List.length_cons, List.length_nil, List.getElem?_cons_zero, List.getElem?_cons_succ, List.drop_zero, List.take_succ_cons, List.take_nil, List.set_cons_zero, List.set_cons_succ, frz_nil, seqN, bindN, regN, snap_int, aConv, List.all_cons, List.all_nil, List.cons_append, Nat.le_refl, Int.reduceEq, Int.reduceLE, Int.reduceToNat, Nat.mul_one, Nat.zero_mul, List.not_mem_nil, beq_self_eq_true, Nat.lt_irrefl, Bool.false_eq_true, T_3, T_47, T_5, T_86, T_89, T_134, x43_8, r43_2_l, s43_2_0, x43_11, x43_12, x43_10, x43_16, r43_3_l, s43_3_0, s43_3_1, s43_3_2, s43_3_3, x43_18, r43_4_l, s43_4_0, s43_4_1, s43_4_2, s43_4_3, s43_4_4, s43_4_5, x43_21, r43_5_l, s43_5_0, s43_5_1, s43_5_2, s43_5_3, x43_23, r43_6_l, s43_6_0, x43_24, x43_22, x43_20, x43_25, r43_7_l, r43_7_dr, r43_7_an, s43_7_0, s43_7_1, s43_7_2, s43_7_3, s43_7_4, s43_7_5, s43_7_6, s43_7_7, s43_7_8, s43_7_9, s43_7_10, s43_7_11, s43_7_12, s43_7_13, s43_7_14, x43_19, x43_17, x43_15, x43_14, x43_26, r43_8_l, s43_8_0, s43_8_1, x43_13, x43_9, x43_7, List.all_cons, List.all_nil, List.getD_cons_zero, List.getD_cons_succ, beq_self_eq_true, hi, hat, hoff, hlen, hz, hnw, z1, g0, wrp64, if_pos, room3 (show 1 ≤ 1000000 by omega), wrp_succ (show 0 < 1000000 by omega)]
      match qs, hL with
      | [_, _, _, _, _], _ => exact ⟨_, rfl, rfl⟩
    · rw [if_neg hz]
      simp (disch := omega) only [condX_bool, blockX_normal, Bool.not_true, Bool.not_false, run_nil, run_cons, fget_cons', fput_cons', forget_nil, forget_cons', hget_nil', hget_cons', hset_nil', hset_cons', gcM_n, gcM_c, stp, opBox, justO, just, Rd.bind, Rd.run, Rd.opt, upds, acells, zeroCells, tsz, elemT, rdCells, fieldOf, aFieldAddr, aLoad, aStore, opStore, fresh, aIndexAddr, aNum, aBuiltin, aBin, aInt, putC, evO, Nat.reduceAdd, Nat.reduceLT, Nat.reduceBEq, Nat.reduceEqDiff, Nat.reduceLeDiff, ↓reduceIte, reduceCtorEq, liveBlk_eq, Nat.zero_add, Nat.add_zero, ne_eq, beq_iff_eq, List.nil_append, List.getElem?_toArray, rtX_some, addT_some, drX_some, runT_nil, runT_cons, neat_eq, descF_nil', descF_cons', ascH_nil', ascH_cons', stpT, Rd.foot, writing, touching, Tr.empty, dynPairs, apartT, disj, List.isEmpty_nil, List.isEmpty_cons, List.map_nil, List.map_cons, Bool.not_false, Bool.not_true, Bool.true_or, Bool.or_true, Bool.or_false, Bool.and_true, Bool.true_and, Bool.and_self, decide_true, not_true_eq_false, or_self, aBuildSlice, partsOf, fillA, repC, isSliceT, aAppend, srcOf, window, putD_some, putD_none, and_true, true_and, Int.natCast_nonneg, Int.ofNat_lt, Int.toNat_natCast, snaps, List.append_nil, List.elem_cons, List.elem_nil, List.length_cons, List.length_nil, List.getElem?_cons_zero, List.getElem?_cons_succ, List.drop_zero, List.take_succ_cons, List.take_nil, List.set_cons_zero, List.set_cons_succ, frz_nil, seqN, bindN, regN, snap_int, aConv, List.all_cons, List.all_nil, List.cons_append, Nat.le_refl, Int.reduceEq, Int.reduceLE, Int.reduceToNat, Nat.mul_one, Nat.zero_mul, List.not_mem_nil, beq_self_eq_true, Nat.lt_irrefl, Bool.false_eq_true, T_3, T_47, T_5, T_86, T_89, T_134, x43_8, r43_2_l, s43_2_0, x43_11, x43_12, x43_10, x43_16, r43_3_l, s43_3_0, s43_3_1, s43_3_2, s43_3_3, x43_18, r43_4_l, s43_4_0, s43_4_1, s43_4_2, s43_4_3, s43_4_4, s43_4_5, x43_21, r43_5_l, s43_5_0, s43_5_1, s43_5_2, s43_5_3, x43_23, r43_6_l, s43_6_0, x43_24, x43_22, x43_20, x43_25, r43_7_l, r43_7_dr, r43_7_an, s43_7_0, s43_7_1, s43_7_2, s43_7_3, s43_7_4, s43_7_5, s43_7_6, s43_7_7, s43_7_8, s43_7_9, s43_7_10, s43_7_11, s43_7_12, s43_7_13, s43_7_14, x43_19, x43_17, x43_15, x43_14, x43_26, r43_8_l, s43_8_0, s43_8_1, x43_13, x43_9, x43_7, List.all_cons, List.all_nil, List.getD_cons_zero, List.getD_cons_succ, beq_self_eq_true, hi, hat, hoff, hlen, hz, hnw, z1, g0, wrp64, if_pos, room3 (show 1 ≤ 1000000 by omega), wrp_succ (show 0 < 1000000 by omega)]
      match qs, hL with
      | [_, _, _, _, _], _ => exact ⟨_, rfl, rfl⟩
  | cons a oh =>
    obtain ⟨b, ow, rfl⟩ : ∃ b t, ow = b :: t := by
      cases ow with
      | nil => simp at lw lh; omega
      | cons b t => exact ⟨b, t, rfl⟩
    have le : ow.length = oh.length := by simp at lw lh; omega
    have hl1 : (icells (a :: oh)).length = oh.length + 1 := by simp [icells]
    have hl1' : (icells (b :: ow)).length = oh.length + 1 := by simp [icells, le]
    have hno : ¬ oh.length + 1 + 1 ≤ oh.length + 1 := by omega
    have hl2 : ∀ z : Int, (oh ++ [z]).length = oh.length + 1 := fun z => by simp
    have hl3 : ∀ z : Int, (ow ++ [z]).length = oh.length + 1 := fun z => by simp [le]
    have tk' : List.take (oh.length + 1) (icells (b :: ow)) = icells (b :: ow) := by rw [← le]; exact take_icells b ow
    simp only [outV, outH, List.cons_append, List.nil_append, hl2, hl3, le]
    by_cases hz : z.tmod 2 = 1
    · rw [if_pos hz]
      simp (disch := omega) only [condX_bool, blockX_normal, Bool.not_true, Bool.not_false, run_nil, run_cons, fget_cons', fput_cons', forget_nil, forget_cons', hget_nil', hget_cons', hset_cons', gcM_n, gcM_c, stp, opBox, justO, just, Rd.bind, Rd.run, Rd.opt, upds, acells, zeroCells, tsz, elemT, rdCells, fieldOf, aFieldAddr, aLoad, aStore, opStore, fresh, aIndexAddr, aNum, aBuiltin, aBin, aInt, putC, evO, Nat.reduceAdd, Nat.reduceLT, Nat.reduceBEq, Nat.reduceEqDiff, Nat.reduceLeDiff, ↓reduceIte, reduceCtorEq, liveBlk_eq, Nat.zero_add, Nat.add_zero, ne_eq, List.nil_append, List.getElem?_toArray, rtX_some, addT_some, drX_some, runT_nil, runT_cons, neat_eq, descF_nil', descF_cons', ascH_nil', ascH_cons', stpT, Rd.foot, writing, touching, Tr.empty, dynPairs, apartT, disj, List.isEmpty_nil, List.isEmpty_cons, List.map_nil, List.map_cons, Bool.not_false, Bool.not_true, Bool.true_or, Bool.or_true, Bool.or_false, Bool.and_true, Bool.true_and, Bool.and_self, decide_true, not_true_eq_false, or_self, aBuildSlice, partsOf, fillA, repC, isSliceT, aAppend, srcOf, window, putD_some, putD_none, and_true, true_and, Int.natCast_nonneg, Int.ofNat_lt, Int.toNat_natCast, snaps, List.append_nil, List.elem_cons, List.elem_nil, List.length_cons, List.length_nil, List.getElem?_cons_zero, List.getElem?_cons_succ, List.drop_zero, List.take_succ_cons, List.take_nil, List.set_cons_zero, List.set_cons_succ, frz_nil, seqN, bindN, regN, snap_int, aConv, List.all_cons, List.all_nil, List.cons_append, Nat.le_refl, Int.reduceEq, Int.reduceLE, Int.reduceToNat, Nat.mul_one, List.not_mem_nil, beq_self_eq_true, Nat.lt_irrefl, Bool.false_eq_true, T_3, T_47, T_5, T_86, T_89, T_134, x43_8, r43_2_l, s43_2_0, x43_11, x43_12, x43_10, x43_16, r43_3_l, s43_3_0, s43_3_1, s43_3_2, s43_3_3, x43_18, r43_4_l, s43_4_0, s43_4_1, s43_4_2, s43_4_3, s43_4_4, s43_4_5, x43_21, r43_5_l, s43_5_0, s43_5_1, s43_5_2, s43_5_3, x43_23, r43_6_l, s43_6_0, x43_24, x43_22, x43_20, x43_25, r43_7_l, r43_7_dr, r43_7_an, s43_7_0, s43_7_1, s43_7_2, s43_7_3, s43_7_4, s43_7_5, s43_7_6, s43_7_7, s43_7_8, s43_7_9, s43_7_10, s43_7_11, s43_7_12, s43_7_13, s43_7_14, x43_19, x43_17, x43_15, x43_14, x43_26, r43_8_l, s43_8_0, s43_8_1, x43_13, x43_9, x43_7, List.all_cons, List.all_nil, List.getD_cons_zero, List.getD_cons_succ, beq_self_eq_true, hi, hat, hoff, hlen, hz, hnw, z1, g0, hl1, hl1', hno, take_icells, tk', icells_snoc, wrp64, if_pos, room3 (show oh.length + 1 + 1 ≤ 1000000 by simp at lh; omega), wrp_succ (show i < 1000000 by omega), List.nil_append]
      match qs, hL with
      | [_, _, _, _, _], _ => exact ⟨_, rfl, rfl⟩
    · rw [if_neg hz]
      simp (disch := omega) only [condX_bool, blockX_normal, Bool.not_true, Bool.not_false, run_nil, run_cons, fget_cons', fput_cons', forget_nil, forget_cons', hget_nil', hget_cons', hset_cons', gcM_n, gcM_c, stp, opBox, justO, just, Rd.bind, Rd.run, Rd.opt, upds, acells, zeroCells, tsz, elemT, rdCells, fieldOf, aFieldAddr, aLoad, aStore, opStore, fresh, aIndexAddr, aNum, aBuiltin, aBin, aInt, putC, evO, Nat.reduceAdd, Nat.reduceLT, Nat.reduceBEq, Nat.reduceEqDiff, Nat.reduceLeDiff, ↓reduceIte, reduceCtorEq, liveBlk_eq, Nat.zero_add, Nat.add_zero, ne_eq, beq_iff_eq, List.nil_append, List.getElem?_toArray, rtX_some, addT_some, drX_some, runT_nil, runT_cons, neat_eq, descF_nil', descF_cons', ascH_nil', ascH_cons', stpT, Rd.foot, writing, touching, Tr.empty, dynPairs, apartT, disj, List.isEmpty_nil, List.isEmpty_cons, List.map_nil, List.map_cons, Bool.not_false, Bool.not_true, Bool.true_or, Bool.or_true, Bool.or_false, Bool.and_true, Bool.true_and, Bool.and_self, decide_true, not_true_eq_false, or_self, aBuildSlice, partsOf, fillA, repC, isSliceT, aAppend, srcOf, window, putD_some, putD_none, and_true, true_and, Int.natCast_nonneg, Int.ofNat_lt, Int.toNat_natCast, snaps, List.append_nil, List.elem_cons, List.elem_nil, List.length_cons, List.length_nil, List.getElem?_cons_zero, List.getElem?_cons_succ, List.drop_zero, List.take_succ_cons, List.take_nil, List.set_cons_zero, List.set_cons_succ, frz_nil, seqN, bindN, regN, snap_int, aConv, List.all_cons, List.all_nil, List.cons_append, Nat.le_refl, Int.reduceEq, Int.reduceLE, Int.reduceToNat, Nat.mul_one, List.not_mem_nil, beq_self_eq_true, Nat.lt_irrefl, Bool.false_eq_true, T_3, T_47, T_5, T_86, T_89, T_134, x43_8, r43_2_l, s43_2_0, x43_11, x43_12, x43_10, x43_16, r43_3_l, s43_3_0, s43_3_1, s43_3_2, s43_3_3, x43_18, r43_4_l, s43_4_0, s43_4_1, s43_4_2, s43_4_3, s43_4_4, s43_4_5, x43_21, r43_5_l, s43_5_0, s43_5_1, s43_5_2, s43_5_3, x43_23, r43_6_l, s43_6_0, x43_24, x43_22, x43_20, x43_25, r43_7_l, r43_7_dr, r43_7_an, s43_7_0, s43_7_1, s43_7_2, s43_7_3, s43_7_4, s43_7_5, s43_7_6, s43_7_7, s43_7_8, s43_7_9, s43_7_10, s43_7_11, s43_7_12, s43_7_13, s43_7_14, x43_19, x43_17, x43_15, x43_14, x43_26, r43_8_l, s43_8_0, s43_8_1, x43_13, x43_9, x43_7, List.all_cons, List.all_nil, List.getD_cons_zero, List.getD_cons_succ, beq_self_eq_true, hi, hat, hoff, hlen, hz, hnw, z1, g0, hl1, hl1', hno, take_icells, tk', icells_snoc, wrp64, if_pos, room3 (show oh.length + 1 + 1 ≤ 1000000 by simp at lh; omega), wrp_succ (show i < 1000000 by omega), List.nil_append]
      match qs, hL with
      | [_, _, _, _, _], _ => exact ⟨_, rfl, rfl⟩
end Go.AM.Ytmhbnflnlglljaa
end

section
namespace Go.AM.Ytmhbnflnlglljaa
open Go Go.AM
set_option maxRecDepth 100000
set_option maxHeartbeats 8000000
theorem lm_run {C : Callee} {m z many wt : Int} {qs : List P2} (h : LOk m z qs) (hm : many = 4 ∨ many = 5) (hwt : wt = 5 ∨ wt = 9) :
    bodyA E C fg 1000 43 [.agg (lcells m z qs), .int .i64 many, .int .i64 wt] [] 0 = some (.tup [.ref 36 0 (nOfL m many) (nOfL m many) (nOfL m many) 1 false, .ref 45 0 (nOfL m many) (nOfL m many) (nOfL m many) 1 false], (3, ⟨.box, lcells m z qs⟩) :: [(36, ⟨.row, icells (hfI z qs (nOfL m many))⟩), (45, ⟨.row, icells (wgI wt qs (nOfL m many))⟩)]) := by
  obtain ⟨n1, n2, n3⟩ := nOfL_b h hm
  have hlen : (lcells m z qs).length = 12 := by simp [lcells, p2cells_length, h.l]
  have hL := h.l
  have g0 : (lcells m z qs)[0]? = some (.int .u8 m) := rfl
  have hmb := h.m
  have hn0 : ¬ many = 0 := by omega
  generalize hn : nOfL m many = n at *
  obtain ⟨e1, e2⟩ := outV_ne (id := 36) (l := hfI z qs n) (by rw [hfI_length]; omega)
  obtain ⟨e3, e4⟩ := outV_ne (id := 45) (l := wgI wt qs n) (by rw [wgI_length]; omega)
  rw [hfI_length] at e1
  rw [wgI_length] at e3
  have hloop := iter_all (f := execA E C (fg 43) 0 49 [] 1000 c43_7) (hd := headA []) (lmS m z wt qs n) n 1000 0
    (lmS m z wt qs n 0) (by
      match qs, hL with
      | [_, _, _, _, _], _ => rfl) (by omega) (fun i _ hi => lm_round h hwt n i (by omega) (by omega)) (e := .exit 0) (se := ((21, .bool false) :: [(20, .int .i64 n), (19, .int .i64 n), (18, .ref 3 2 n 5 12 2 true), (7, .ref 45 0 n n n 1 false), (6, .ref 36 0 n n n 1 false), (3, .ptr 3 0 12), (2, .int .i64 wt)], (3, ⟨.box, lcells m z qs⟩) :: [(36, ⟨.row, icells (hfI z qs n)⟩), (45, ⟨.row, icells (wgI wt qs n)⟩)])) (by
      rw [Nat.zero_add]
      simp only [lmS, e1, e2, e3, e4]
      simp only [seqX_exit, condX_bool, run_nil, run_cons, fget_cons', fput_cons', forget_nil, forget_cons', gcM_n, stp, just, Rd.bind, Rd.run, Rd.opt, upds, aBin, aInt, Nat.reduceEqDiff, Nat.reduceLeDiff, ↓reduceIte, List.nil_append, decide_false, putD_some, List.elem_nil, seqN, bindN, regN, List.cons_append, Int.lt_irrefl, Bool.false_eq_true, x43_8, r43_2_l, s43_2_0, x43_11, x43_12, x43_10, x43_9, x43_7, Int.lt_irrefl, decide_false, Bool.false_eq_true]) (by simp)
  simp only [lmS, cl0, hfI, wgI, List.range_zero, List.map_nil, outV, outH, List.append_nil] at hloop
  have hn5 : (n : Int) ≤ 5 := by omega
  have c5 : ((5 : Nat) : Int) = 5 := rfl
  have hn0' : (0 : Int) ≤ n := by omega
  have t0 : (n : Int).toNat = n := by omega
  simp (disch := omega) only [blockX_exit, bodyX_ret, run_nil, run_cons, fget_cons', fput_cons', forget_nil, forget_cons', hget_nil', hget_cons', hset_nil', frame0, gcM_c, stp, opBox, justO, just, Rd.bind, Rd.run, Rd.opt, upds, acells, tsz, rdCells, fieldOf, aFieldAddr, aLoad, resA, resL, fresh, aNum, aLen, aBuiltin, aBin, aInt, Nat.reduceAdd, Nat.reduceMul, Nat.reduceLT, Nat.reduceBEq, Nat.reduceEqDiff, Nat.reduceLeDiff, ↓reduceIte, reduceCtorEq, liveBlk_eq, Nat.zero_add, Nat.add_zero, List.getElem?_toArray, putD_some, and_true, Option.map_some, List.elem_cons, List.elem_nil, List.getElem?_cons_zero, List.getElem?_cons_succ, seqN, bindN, regN, aConv, aSlice, aBounds, bMax, bHigh, bLow, Nat.le_refl, Nat.sub_zero, Nat.zero_mul, beq_self_eq_true, Bool.false_eq_true, Option.getD_none, T_3, T_5, T_86, T_87, T_89, T_134, x43_1, r43_0_l, s43_0_0, s43_0_1, s43_0_2, x43_4, r43_1_l, s43_1_0, s43_1_1, s43_1_2, s43_1_3, s43_1_4, s43_1_5, s43_1_6, s43_1_7, s43_1_8, s43_1_9, x43_6, x43_5, x43_3, x43_28, r43_9_l, s43_9_0, s43_9_1, s43_9_2, s43_9_3, x43_29, x43_27, x43_2, x43_0, b_43, hlen, g0, n3, hn0, hn5, hn0', t0, c5, wrp64, hloop, hfI, wgI]
theorem lm_call {d : Nat} {site : Nat → Nat} {seen : List Nat} {m z many wt : Int} {qs : List P2} (h : LOk m z qs) (hm : many = 4 ∨ many = 5) (hwt : wt = 5 ∨ wt = 9) (hs : site 1 ≠ site 0) :
    aBack site true seen (thaw (callA E fg 1000 (d + 1)) 43 [.agg (lcells m z qs), .int .i64 many, .int .i64 wt] [] 0) =
      back2 (site 0) (site 1) seen (fun k k' => .tup [.ref k 0 (nOfL m many) (nOfL m many) (nOfL m many) 1 false, .ref k' 0 (nOfL m many) (nOfL m many) (nOfL m many) 1 false]) ⟨.row, icells (hfI z qs (nOfL m many))⟩ ⟨.row, icells (wgI wt qs (nOfL m many))⟩ := by
  have e := lm_run (C := callA E fg 1000 d) h hm hwt
  have l1 : (icells (hfI z qs (nOfL m many))).length = nOfL m many := by rw [icells_length, hfI_length]
  have l2 : (icells (wgI wt qs (nOfL m many))).length = nOfL m many := by rw [icells_length, wgI_length]
  have := aBack_ref2 (site := site) (seen := seen) (n := nOfL m many) (n' := nOfL m many) (sz := 1) (sz' := 1) (id := 36) (id' := 45) (cells := icells (hfI z qs (nOfL m many))) (cells' := icells (wgI wt qs (nOfL m many))) (H' := (3, ⟨.box, lcells m z qs⟩) :: [(36, ⟨.row, icells (hfI z qs (nOfL m many))⟩), (45, ⟨.row, icells (wgI wt qs (nOfL m many))⟩)]) (C := callA E fg 1000 (d + 1)) (f := 43) (args := [.agg (lcells m z qs), .int .i64 many, .int .i64 wt]) (by rw [l1, l2]; exact e) (by rw [hget_cons', hget_cons']; simp) (by rw [hget_cons', hget_cons', hget_cons']; simp) (by decide) hs
  rw [l1, l2] at this
  exact this
theorem lm_ok {m z many wt : Int} {qs : List P2} (h : LOk m z qs) (hm : many = 4 ∨ many = 5) (hwt : wt = 5 ∨ wt = 9) : OkL (hfI z qs (nOfL m many)) (wgI wt qs (nOfL m many)) ∧ (∀ i, i < nOfL m many → (hfI z qs (nOfL m many)).getD i 0 ≤ 4 ∧ (wgI wt qs (nOfL m many)).getD i 0 ≤ wt) := by
  obtain ⟨n1, n2, n3⟩ := nOfL_b h hm
  have key : ∀ i, i < nOfL m many → (1 ≤ (hfI z qs (nOfL m many)).getD i 0 ∧ (hfI z qs (nOfL m many)).getD i 0 ≤ 4) ∧ 1 ≤ (wgI wt qs (nOfL m many)).getD i 0 ∧ (wgI wt qs (nOfL m many)).getD i 0 ≤ wt := by
    intro i hi
    obtain ⟨q, hq⟩ := at_ex (l := qs) (k := i) (by have := h.l; omega)
    obtain ⟨⟨qa1, qa2⟩, ⟨qb1, qb2⟩⟩ := h.q i q hq
    obtain ⟨ta1, ta2⟩ := tmod_b qa1 4 (by omega)
    obtain ⟨tb1, tb2⟩ := tmod_b qb1 wt (by omega)
    have e1 : (hfI z qs (nOfL m many)).getD i 0 = hfN z qs i := by simp [hfI, hi]
    have e2 : (wgI wt qs (nOfL m many)).getD i 0 = wgN wt qs i := by simp [wgI, hi]
    have hgq : qs.getD i default = q := by simp [hq]
    rw [e1, e2, hfN, wgN, hgq]
    refine ⟨?_, by omega, by omega⟩
    split <;> omega
  refine ⟨⟨by rw [wgI_length]; omega, by rw [wgI_length]; omega, by rw [wgI_length, hfI_length], fun i hi => ?_, fun i hi => ?_⟩, fun i hi => ⟨(key i hi).1.2, (key i hi).2.2⟩⟩
  · rw [wgI_length] at hi; have := key i hi; omega
  · rw [wgI_length] at hi; have := key i hi; omega
def cenF (hs ws : List Int) (i : Nat) : Fr := fadd (ctr hs ws (i + 1)) (-hs.getD i 0) 1
def cenI (hs ws : List Int) (i : Nat) : List Fr := (List.range i).map (cenF hs ws)
theorem cenI_length (hs ws i) : (cenI hs ws i).length = i := by simp [cenI]
theorem cenI_succ (hs ws i) : cenI hs ws (i + 1) = cenI hs ws i ++ [cenF hs ws i] := by simp [cenI, List.range_succ]
def foutV (id : Nat) : List Fr → AV
  | [] => .nilsl
  | a :: l => .ref id 0 (l.length + 1) (l.length + 1) ((l.length + 1) * 2) 2 false
def foutH (id : Nat) : List Fr → AHeap
  | [] => []
  | a :: l => [(id, ⟨.row, fcells (a :: l)⟩)]
theorem foutV_ne {id : Nat} {l : List Fr} (h : 0 < l.length) : foutV id l = .ref id 0 l.length l.length (l.length * 2) 2 false ∧ foutH id l = [(id, ⟨.row, fcells l⟩)] := by
  cases l with
  | nil => simp at h
  | cons a l => exact ⟨rfl, rfl⟩
abbrev ceH (hs ws : List Int) (e1 : Bool) (i : Nat) (out : List Fr) : St := ([(22, .int .i64 i), (21, .int .i64 ws.length), (20, .imm (icells hs) ws.length e1), (8, foutV 37 out), (7, .ref 19 0 (ws.length + 1) (ws.length + 1) ((ws.length + 1) * 2) 2 false)], (19, ⟨.row, fcells (plI hs ws ws.length)⟩) :: foutH 37 out)
theorem cen_round {C : Callee} {hs ws : List Int} {e1 : Bool} (h : OkL hs ws) (i : Nat) (hi : i < ws.length) (out : List Fr) (ho : out.length = i) {f g : Fr} {x : Int} (hx : hs[i]? = some x) (hf : (plI hs ws ws.length)[i + 1]? = some f)
    (ca : ∀ (site : Nat → Nat) seen, aBack site true seen (thaw C 74 [.agg (frc f), .int .i64 (-x), .int .i64 1] [] 0) = .pure (.agg (frc g), [])) :
    ∃ s', execA E C (fg 22) 0 40 [] 1000 c22_21 (ceH hs ws e1 i out) = some (.normal, s') ∧ headA [] s' = ceH hs ws e1 (i + 1) (out ++ [g]) := by
  have hat := fcells_at _ _ f hf
  have hfl : (fcells (plI hs ws ws.length)).length = (ws.length + 1) * 2 := by rw [fcells_length, plI_length]
  have hhl := h.eq
  have h5 := h.le
  have bx := h.h i hi
  have gx : hs.getD i 0 = x := by simp [hx]
  rw [gx] at bx
  have w1 : wrp .i64 (0 - x) = -x := by rw [wrp64 (by omega)]; omega
  have hoff : (i + 1) * 2 + 2 ≤ (ws.length + 1) * 2 := by omega
  simp only [frc] at hat ca
  have il : (icells hs).length = ws.length := by rw [icells_length, hhl]
  have hw1 : i + 1 < ws.length + 1 := by omega
  cases out with
  | nil =>
    simp only [ceH, foutV, foutH, List.nil_append]
    simp (disch := omega) only [condX_bool, blockX_normal, run_nil, run_cons, fget_cons', fput_cons', forget_nil, forget_cons', hget_nil', hget_cons', hset_nil', hset_cons', gcM_n, gcM_c, stp, justO, just, Rd.bind, Rd.run, Rd.opt, upds, acells, zeroCells, tsz, elemT, rdCells, aLoad, fresh, aIndexAddr, aNum, aBuiltin, aBin, aInt, putC, evO, Nat.reduceAdd, Nat.reduceMul, Nat.reduceLT, Nat.reduceBEq, Nat.reduceEqDiff, Nat.reduceLeDiff, ↓reduceIte, reduceCtorEq, liveBlk_eq, Nat.zero_add, ne_eq, List.nil_append, List.getElem?_toArray, decide_true, not_true_eq_false, or_self, aBuildSlice, partsOf, fillA, repC, isSliceT, aAppend, srcOf, window, aUn, putD_some, and_true, Int.natCast_nonneg, Int.ofNat_lt, Int.toNat_natCast, aCall, snaps, List.append_nil, List.elem_cons, List.elem_nil, List.length_cons, List.length_nil, List.getElem?_cons_zero, List.getElem?_cons_succ, List.drop_zero, List.take_succ_cons, List.take_nil, List.set_cons_zero, List.set_cons_succ, frz_nil, seqN, bindN, regN, snap_int, snap_agg, Nat.le_refl, Nat.mul_one, Nat.zero_mul, beq_self_eq_true, Nat.lt_irrefl, Bool.false_eq_true, T_3, T_47, T_27, T_52, x22_22, r22_7_l, s22_7_0, x22_25, x22_26, x22_24, x22_30, r22_8_l, s22_8_0, s22_8_1, s22_8_2, s22_8_3, s22_8_4, x22_31, r22_9_l, s22_9_0, s22_9_1, s22_9_2, s22_9_3, s22_9_4, s22_9_5, s22_9_6, s22_9_7, s22_9_8, s22_9_9, s22_9_10, s22_9_11, x22_29, x22_28, x22_32, r22_10_l, s22_10_0, s22_10_1, x22_27, x22_23, x22_21, beq_self_eq_true, hi, il, icells_at hx, hfl, hat, hoff, hw1, w1, ca, room78 (show 1 ≤ 1000000 by omega), wrp_succ (show i < 1000000 by omega), aUn, List.length_nil]
    exact ⟨_, rfl, rfl⟩
  | cons a o =>
    have hlen : (fcells (a :: o)).length = (o.length + 1) * 2 := by rw [fcells_length]; rfl
    have hno : ¬ o.length + 1 + 1 ≤ o.length + 1 := by omega
    have ho2 : o.length + 1 = i := by simpa using ho
    have hl2 : ∀ z : Fr, (o ++ [z]).length = o.length + 1 := fun z => by simp
    have htk : List.take ((o.length + 1) * 2) (fcells (a :: o)) = fcells (a :: o) := take_fc (a :: o)
    have hsn := fcells_snoc (a :: o) g
    simp only [frc, List.cons_append] at hsn
    simp only [ceH, foutV, foutH, List.cons_append, hl2]
    simp (disch := omega) only [condX_bool, blockX_normal, run_nil, run_cons, fget_cons', fput_cons', forget_nil, forget_cons', hget_nil', hget_cons', hset_cons', gcM_n, gcM_c, stp, justO, just, Rd.bind, Rd.run, Rd.opt, upds, acells, zeroCells, tsz, elemT, rdCells, aLoad, fresh, aIndexAddr, aNum, aBuiltin, aBin, aInt, putC, evO, Nat.reduceAdd, Nat.reduceMul, Nat.reduceLT, Nat.reduceBEq, Nat.reduceEqDiff, Nat.reduceLeDiff, ↓reduceIte, reduceCtorEq, liveBlk_eq, Nat.zero_add, ne_eq, List.nil_append, List.getElem?_toArray, decide_true, not_true_eq_false, or_self, aBuildSlice, partsOf, fillA, repC, isSliceT, aAppend, srcOf, window, aUn, putD_some, and_true, Int.natCast_nonneg, Int.ofNat_lt, Int.toNat_natCast, aCall, snaps, List.append_nil, List.elem_cons, List.elem_nil, List.length_cons, List.length_nil, List.getElem?_cons_zero, List.getElem?_cons_succ, List.drop_zero, List.take_succ_cons, List.take_nil, List.set_cons_zero, List.set_cons_succ, frz_nil, seqN, bindN, regN, snap_int, snap_agg, Nat.le_refl, Nat.mul_one, Nat.zero_mul, beq_self_eq_true, Nat.lt_irrefl, Bool.false_eq_true, T_3, T_47, T_27, T_52, x22_22, r22_7_l, s22_7_0, x22_25, x22_26, x22_24, x22_30, r22_8_l, s22_8_0, s22_8_1, s22_8_2, s22_8_3, s22_8_4, x22_31, r22_9_l, s22_9_0, s22_9_1, s22_9_2, s22_9_3, s22_9_4, s22_9_5, s22_9_6, s22_9_7, s22_9_8, s22_9_9, s22_9_10, s22_9_11, x22_29, x22_28, x22_32, r22_10_l, s22_10_0, s22_10_1, x22_27, x22_23, x22_21, beq_self_eq_true, hi, il, icells_at hx, hfl, hat, hoff, hw1, w1, ca, hlen, hno, htk, hsn, room78 (show o.length + 1 + 1 ≤ 1000000 by omega), wrp_succ (show i < 1000000 by omega), aUn]
    exact ⟨_, rfl, rfl⟩
theorem cen_add {d : Nat} {site : Nat → Nat} {seen : List Nat} {hs ws : List Int} (h : OkL hs ws) {i : Nat} (hi : i < ws.length) :
    aBack site true seen (thaw (callA E fg 1000 (d + 2)) 74 [.agg (frc (ctr hs ws (i + 1))), .int .i64 (-hs.getD i 0), .int .i64 1] [] 0) = .pure (.agg (frc (cenF hs ws i)), []) := by
  have hok := ctr_ok h (i + 1) (by omega)
  have hle := h.le
  obtain ⟨b1, b2⟩ := fok_num hok (by omega)
  obtain ⟨n0, d0, _, _⟩ := hok
  have bx := h.h i hi
  have t3 : hs.getD i 0 * (ctr hs ws (i + 1)).den ≤ 4194304 * 184528125 := Int.mul_le_mul bx.2 b2 (by omega) (by omega)
  have t5 : 0 ≤ hs.getD i 0 * (ctr hs ws (i + 1)).den := Int.mul_nonneg (by omega) (by omega)
  have t6 : -hs.getD i 0 * (ctr hs ws (i + 1)).den = -(hs.getD i 0 * (ctr hs ws (i + 1)).den) := Int.neg_mul ..
  exact add_call (M1 := 3869867000000000) (M2 := 4194304 * 184528125) (by rw [Int.mul_one]; omega) (by rw [t6]; omega) (by omega) (by rw [Int.mul_one]; omega)
theorem centres_run {d : Nat} {hs ws : List Int} {e1 e2 : Bool} (h : OkL hs ws) :
    callA E fg 1000 (d + 4) 22 [.imm (icells hs) hs.length e1, .imm (icells ws) ws.length e2] [] 0 = some (.tup [.ref 37 0 ws.length ws.length (ws.length * 2) 2 false, .int .i64 0], (19, ⟨.row, fcells (plI hs ws ws.length)⟩) :: [(37, ⟨.row, fcells (cenI hs ws ws.length)⟩)]) := by
  change bodyA E (callA E fg 1000 (d + 3)) fg 1000 22 _ _ _ = _
  have hne := h.ne
  have heq := h.eq
  have h5 := h.le
  have cl := fun (site : Nat → Nat) seen => loads_call (d := d + 2) (site := site) (seen := seen) (e1 := e1) (e2 := e2) h
  have cp := fun (site : Nat → Nat) seen => placed_call (d := d) (site := site) (seen := seen) (e1 := e1) (e2 := e2) h
  obtain ⟨g1, g2⟩ := foutV_ne (id := 37) (l := cenI hs ws ws.length) (by rw [cenI_length]; exact hne)
  rw [cenI_length] at g1
  have hloop := iter_all (f := execA E (callA E fg 1000 (d + 3)) (fg 22) 0 40 [] 1000 c22_21) (hd := headA []) (fun i => ceH hs ws e1 i (cenI hs ws i)) ws.length 1000 0
    (ceH hs ws e1 0 []) (by rfl) (by omega) (fun i _ hi => by
      have hi : i < ws.length := by omega
      obtain ⟨x, hx⟩ := at_ex (l := hs) (k := i) (by omega)
      have gx : hs.getD i 0 = x := by simp [hx]
      have ca := fun (site : Nat → Nat) seen => cen_add (d := d + 1) (site := site) (seen := seen) h hi
      rw [gx] at ca
      rw [cenI_succ]
      exact cen_round h i hi (cenI hs ws i) (cenI_length ..) hx (plI_at hs ws (by omega)) ca) (e := .exit 0) (se := ((23, .bool false) :: [(22, .int .i64 ws.length), (21, .int .i64 ws.length), (20, .imm (icells hs) ws.length e1), (8, .ref 37 0 ws.length ws.length (ws.length * 2) 2 false), (7, .ref 19 0 (ws.length + 1) (ws.length + 1) ((ws.length + 1) * 2) 2 false)], (19, ⟨.row, fcells (plI hs ws ws.length)⟩) :: [(37, ⟨.row, fcells (cenI hs ws ws.length)⟩)])) (by
      rw [Nat.zero_add]
      simp only [ceH, g1, g2]
      simp only [seqX_exit, condX_bool, run_nil, run_cons, fget_cons', fput_cons', forget_nil, forget_cons', gcM_n, stp, just, Rd.bind, Rd.run, Rd.opt, upds, aBin, aInt, Nat.reduceEqDiff, Nat.reduceLeDiff, ↓reduceIte, decide_false, putD_some, List.elem_nil, seqN, bindN, regN, Int.lt_irrefl, Bool.false_eq_true, x22_22, r22_7_l, s22_7_0, x22_25, x22_26, x22_24, x22_23, x22_21, Int.lt_irrefl, decide_false, Bool.false_eq_true]) (by simp)
  simp only [ceH, foutV, foutH, cl0] at hloop
  rw [heq] at cl cp
  simp (disch := omega) only [condX_bool, blockX_exit, bodyX_ret, run_nil, run_cons, fget_cons', fput_nil, fput_cons', forget_nil, forget_cons', hget_nil', hset_nil', frame0, gcM_n, gcM_c, stp, just, Rd.bind, Rd.run, Rd.opt, upds, resA, resL, aLen, aBuiltin, aBin, aInt, Nat.reduceBEq, Nat.reduceEqDiff, Nat.reduceLeDiff, ↓reduceIte, reduceCtorEq, Nat.zero_add, List.nil_append, List.getElem?_toArray, putD_some, aCall, snaps, List.append_nil, Option.map_some, List.elem_cons, List.elem_nil, List.getElem?_cons_zero, frz_nil, seqN, bindN, regN, snap_imm, back1_r, Nat.zero_mul, beq_self_eq_true, bne_self_eq_false, Bool.false_eq_true, T_47, x22_1, r22_0_l, s22_0_0, s22_0_1, x22_4, r22_1_l, s22_1_0, s22_1_1, s22_1_2, s22_1_3, x22_6, r22_2_l, s22_2_0, s22_2_1, x22_9, r22_3_l, s22_3_0, s22_3_1, s22_3_2, x22_10, x22_8, x22_11, x22_7, x22_5, x22_3, x22_13, r22_4_l, s22_4_0, s22_4_1, s22_4_2, s22_4_3, x22_15, r22_5_l, s22_5_0, x22_18, r22_6_l, s22_6_0, s22_6_1, s22_6_2, x22_20, x22_19, x22_17, x22_34, r22_11_l, s22_11_0, s22_11_1, s22_11_2, x22_35, x22_33, x22_16, x22_14, x22_12, x22_2, x22_0, b_22, cl, cp, hloop, heq]
theorem centres_call {d : Nat} {site : Nat → Nat} {seen : List Nat} {hs ws : List Int} {e1 e2 : Bool} (h : OkL hs ws) :
    aBack site true seen (thaw (callA E fg 1000 (d + 4)) 22 [.imm (icells hs) hs.length e1, .imm (icells ws) ws.length e2] [] 0) = back1 (site 0) seen (fun j => .tup [.ref j 0 ws.length ws.length (ws.length * 2) 2 false, .int .i64 0]) ⟨.row, fcells (cenI hs ws ws.length)⟩ := by
  have e := centres_run (d := d) (e1 := e1) (e2 := e2) h
  have hl : (fcells (cenI hs ws ws.length)).length = ws.length * 2 := by rw [fcells_length, cenI_length]
  have := aBack_refint (site := site) (seen := seen) (n := ws.length) (sz := 2) (id := 37) (k := .i64) (z := 0) (cells := fcells (cenI hs ws ws.length)) (H' := (19, ⟨.row, fcells (plI hs ws ws.length)⟩) :: [(37, ⟨.row, fcells (cenI hs ws ws.length)⟩)]) (C := callA E fg 1000 (d + 4)) (f := 22) (args := [.imm (icells hs) hs.length e1, .imm (icells ws) ws.length e2]) (by rw [hl]; exact e) (by rw [hget_cons', hget_cons']; simp)
  rw [hl] at this
  exact this
end Go.AM.Ytmhbnflnlglljaa
end

section
namespace Go.AM.Ytmhbnflnlglljaa
open Go Go.AM
set_option maxRecDepth 100000
theorem weak_iff {l : List Stone} : ∀ (m k : Nat), weakFrom l k m < 0 ↔ ∀ i, k ≤ i → i < k + m → worstSum l i 1 ≤ 0 ∧ worstSum l i (-1) ≤ 0
  | 0, k => by simp only [weakFrom]; constructor <;> intro h <;> first | (intro i; omega) | omega
  | m + 1, k => by
    have ih := weak_iff (l := l) m (k + 1)
    simp only [weakFrom, mayTip, decide_eq_true_eq]
    split
    · rename_i h
      constructor
      · intro h2; omega
      · intro h2; have := h2 k (Nat.le_refl _) (by omega); omega
    · rename_i h
      rw [ih]
      constructor
      · intro h2 i h3 h4
        by_cases e : i = k
        · subst e; omega
        · exact h2 i (by omega) (by omega)
      · intro h2 i h3 h4; exact h2 i (by omega) (by omega)
theorem weakL_iff {l : List Stone} : weakL l < 0 ↔ ∀ i, i < l.length → worstSum l i 1 ≤ 0 ∧ worstSum l i (-1) ≤ 0 := by
  unfold weakL
  rw [weak_iff]
  constructor
  · intro h i hi; exact h i (by omega) (by omega)
  · intro h i _ hi; exact h i (by omega)
theorem sumF_mono {F G : Nat → Int} {k : Nat} : ∀ m, (∀ i, k ≤ i → i < k + m → F i ≤ G i) → sumF F k m ≤ sumF G k m
  | 0, _ => by simp [sumF]
  | m + 1, h => by
    have := sumF_mono m (fun i h1 h2 => h i h1 (by omega))
    have := h (k + m) (by omega) (by omega)
    simp only [sumF]; omega
/-- The same stones, of which more is known. -/
structure Nrw (l m : List Stone) : Prop where
  len : m.length = l.length
  eq : ∀ (i : Nat) (s t : Stone), l[i]? = some s → m[i]? = some t → t.half = s.half ∧ t.pos = s.pos ∧ s.least ≤ t.least ∧ t.most ≤ s.most ∧ t.least ≤ t.most
theorem Nrw.ok {l m : List Stone} (h : Nrw l m) (ok : OkP l) : OkP m := by
  refine ⟨by rw [h.len]; exact ok.ne, by rw [h.len]; exact ok.le, fun k t ht => ?_⟩
  obtain ⟨s, hs⟩ := at_ex (l := l) (k := k) (by have := at_lt ht; have := h.len; omega)
  obtain ⟨e1, e2, e3, e4, e5⟩ := h.eq k s t hs ht
  obtain ⟨a1, a2, a3, a4, a5, a6, a7⟩ := ok.fits k s hs
  constructor <;> omega
theorem Nrw.getD {l m : List Stone} (h : Nrw l m) {i : Nat} (hi : i < l.length) : (m.getD i default).half = (l.getD i default).half ∧ (m.getD i default).pos = (l.getD i default).pos ∧ (l.getD i default).least ≤ (m.getD i default).least ∧ (m.getD i default).most ≤ (l.getD i default).most := by
  obtain ⟨s, hs⟩ := at_ex hi
  obtain ⟨t, ht⟩ := at_ex (l := m) (k := i) (by rw [h.len]; exact hi)
  obtain ⟨e1, e2, e3, e4, e5⟩ := h.eq i s t hs ht
  simp only [List.getD_eq_getElem?_getD, hs, ht, Option.getD_some]
  exact ⟨e1, e2, e3, e4⟩
theorem Nrw.edges {l m : List Stone} (h : Nrw l m) {k : Nat} (hk : k ≤ l.length) : leftE m k = leftE l k ∧ rightE m k = rightE l k := by
  cases k with
  | zero => exact ⟨rfl, rfl⟩
  | succ k =>
    obtain ⟨e1, e2, _, _⟩ := h.getD (i := k) (by omega)
    simp only [leftE, rightE, e1, e2, and_self]
theorem term_nrw {side r l : Int} {s t : Stone} (e2 : t.pos = s.pos) (e3 : s.least ≤ t.least) (e4 : t.most ≤ s.most) : term side r l t ≤ term side r l s := by
  have hf : far side r l t = far side r l s := by unfold far; rw [e2]
  unfold term wt
  rw [hf]
  split
  · rename_i h; exact Int.mul_le_mul_of_nonneg_right e4 (by omega)
  · rename_i h
    have := Int.mul_le_mul_of_nonneg_right e3 (show 0 ≤ -far side r l s by omega)
    rw [Int.mul_neg, Int.mul_neg] at this
    omega
theorem Nrw.weak {l m : List Stone} (h : Nrw l m) (hw : weakL l < 0) : weakL m < 0 := by
  rw [weakL_iff] at *
  intro i hi
  rw [h.len] at hi
  obtain ⟨e1, e2⟩ := h.edges (k := i) (by omega)
  have key : ∀ side, worstSum m i side ≤ worstSum l i side := by
    intro side
    unfold worstSum
    rw [h.len, e1, e2]
    refine sumF_mono _ fun j h1 h2 => ?_
    obtain ⟨_, f2, f3, f4⟩ := h.getD (i := j) (by omega)
    exact term_nrw f2 f3 f4
  have := hw i hi
  have := key 1
  have := key (-1)
  omega
theorem Nrw.stands {l m : List Stone} (h : Nrw l m) (ok : OkP l) (hs : standsB l = true) : standsB m = true := by
  unfold standsB at *
  rw [if_pos (check_zero.2 ok), decide_eq_true_eq] at hs
  rw [if_pos (check_zero.2 (h.ok ok)), decide_eq_true_eq]
  exact h.weak hs
theorem Nrw.drop {l m : List Stone} (h : Nrw l m) (k : Nat) : Nrw (l.drop k) (m.drop k) := by
  refine ⟨by rw [List.length_drop, List.length_drop, h.len], fun i s t hs ht => ?_⟩
  rw [List.getElem?_drop] at hs ht
  exact h.eq _ s t hs ht
theorem Nrw.truth : ∀ {l m : List Stone} {ws : List Int}, Nrw l m → InB m ws → InB l ws ∧ dotS m ws = dotS l ws ∧ totS m ws = totS l ws
  | [], [], [], _, _ => ⟨trivial, rfl, rfl⟩
  | s :: l, t :: m, w :: ws, h, ⟨⟨h1, h2⟩, h3⟩ => by
    obtain ⟨e1, e2, e3, e4, e5⟩ := h.eq 0 s t rfl rfl
    obtain ⟨a, b, c⟩ := Nrw.truth (l := l) (m := m) (ws := ws) (by simpa using h.drop 1) h3
    refine ⟨⟨⟨by omega, by omega⟩, a⟩, ?_, ?_⟩
    · simp only [dotS, b, e2]
    · simp only [totS, c]
  | [], t :: m, _, h, _ => by have := h.len; simp at this
  | s :: l, [], _, h, _ => by have := h.len; simp at this
  | _, [], _ :: _, _, h => h.elim
  | _, _ :: _, [], _, h => h.elim
end Go.AM.Ytmhbnflnlglljaa
end
