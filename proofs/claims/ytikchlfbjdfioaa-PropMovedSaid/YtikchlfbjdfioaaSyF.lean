/- Of each function the parts of its text and an equation for each of them: printed by sym.py (own work). -/
import Derived.Test.YtikchlfbjdfioaaAmSy
import Derived.Test.YtikchlfbjdfioaaEnv
import Derived.KernelRfl
import Derived.Test.YtikchlfbjdfioaaSyD

namespace Go.AM.Ytikchlfbjdfioaa
open Go Go.AM
set_option maxRecDepth 100000
variable {C : Callee} {B N : Nat} {E0 : AHeap} (φ : AFr) (H : AHeap) (s : St)

/-! ### f24: slices.Clone[[]novaculite/prop.Stone,novaculite/prop.Stone] -/
noncomputable def c24_0 : Code := kBody Proofs.Try.f24
noncomputable def c24_1 : Code := kL c24_0
noncomputable def r24_0 : Array Oper := kO c24_1
noncomputable def o24_0_0 : Oper := opN r24_0 0
theorem x24_1 : execA E C (fg 24) B 8 E0 N c24_1 s = regX (runA E C B 8 r24_0 r24_0.toList s) (fun s => gcM E0 [2] (forget s.1 [2], s.2)) := x_reg (ops := r24_0) (by rfl) (by rfl) s
theorem r24_0_l : r24_0.toList = [o24_0_0] := nrfl rfl
theorem s24_0_0 : stepA E C B 8 r24_0 o24_0_0 (φ, H) = some (fput φ 2 (.nilsl), H) := nrfl rfl
noncomputable def c24_2 : Code := kR c24_0
noncomputable def c24_3 : Code := kL c24_2
noncomputable def c24_4 : Code := kL c24_3
noncomputable def r24_1 : Array Oper := kO c24_4
noncomputable def o24_1_0 : Oper := opN r24_1 0
noncomputable def o24_1_1 : Oper := opN r24_1 1
theorem x24_4 : execA E C (fg 24) B 8 E0 N c24_4 s = regX (runA E C B 8 r24_1 r24_1.toList s) (fun s => gcM E0 [3] (forget s.1 [3], s.2)) := x_reg (ops := r24_1) (by rfl) (by rfl) s
theorem r24_1_l : r24_1.toList = [o24_1_0, o24_1_1] := nrfl rfl
theorem s24_1_0 : stepA E C B 8 r24_1 o24_1_0 (φ, H) = some (fput φ 3 (fget φ 0), H) := nrfl rfl
theorem s24_1_1 : stepA E C B 8 r24_1 o24_1_1 (φ, H) = stp (some 4) φ H (just (aBin E.T .eql 27 (fget φ 3) (.nilsl))) := nrfl rfl
noncomputable def c24_5 : Code := kR c24_3
noncomputable def c24_6 : Code := kT c24_5
noncomputable def c24_7 : Code := kL c24_6
noncomputable def r24_2 : Array Oper := kO c24_7
noncomputable def o24_2_0 : Oper := opN r24_2 0
theorem x24_7 : execA E C (fg 24) B 8 E0 N c24_7 s = regX (runA E C B 8 r24_2 r24_2.toList s) (fun s => gcM E0 [0, 4] (forget s.1 [0, 4], s.2)) := x_reg (ops := r24_2) (by rfl) (by rfl) s
theorem r24_2_l : r24_2.toList = [o24_2_0] := nrfl rfl
theorem s24_2_0 : stepA E C B 8 r24_2 o24_2_0 (φ, H) = some (fput φ 2 (.nilsl), H) := nrfl rfl
noncomputable def c24_8 : Code := kR c24_6
theorem x24_8 : execA E C (fg 24) B 8 E0 N c24_8 s = some (.ret, s) := x_ret (by rfl) s
theorem x24_6 : execA E C (fg 24) B 8 E0 N c24_6 s = seqX (execA E C (fg 24) B 8 E0 N c24_7 s) (execA E C (fg 24) B 8 E0 N c24_8) := x_seq (by rfl) s
noncomputable def c24_9 : Code := kE c24_5
theorem x24_9 : execA E C (fg 24) B 8 E0 N c24_9 s = some (.normal, s) := x_skip (by rfl) s
theorem x24_5 : execA E C (fg 24) B 8 E0 N c24_5 (φ, H) = condX (fget φ 4) (execA E C (fg 24) B 8 E0 N c24_6 (φ, H)) (execA E C (fg 24) B 8 E0 N c24_9 (φ, H)) := x_cond (by rfl) _
theorem x24_3 : execA E C (fg 24) B 8 E0 N c24_3 s = seqX (execA E C (fg 24) B 8 E0 N c24_4 s) (execA E C (fg 24) B 8 E0 N c24_5) := x_seq (by rfl) s
noncomputable def c24_10 : Code := kR c24_2
noncomputable def c24_11 : Code := kL c24_10
noncomputable def r24_3 : Array Oper := kO c24_11
noncomputable def o24_3_0 : Oper := opN r24_3 0
noncomputable def o24_3_1 : Oper := opN r24_3 1
noncomputable def o24_3_2 : Oper := opN r24_3 2
noncomputable def o24_3_3 : Oper := opN r24_3 3
theorem x24_11 : execA E C (fg 24) B 8 E0 N c24_11 s = regX (runA E C B 8 r24_3 r24_3.toList s) (fun s => gcM E0 [0, 4, 5, 6, 7] (forget s.1 [0, 4, 5, 6, 7], s.2)) := x_reg (ops := r24_3) (by rfl) (by rfl) s
theorem r24_3_l : r24_3.toList = [o24_3_0, o24_3_1, o24_3_2, o24_3_3] := nrfl rfl
theorem s24_3_0 : stepA E C B 8 r24_3 o24_3_0 (φ, H) = stp (some 5) φ H (aBuildSlice E.T (B + 5) 27 0 (evO E φ) []) := nrfl rfl
theorem s24_3_1 : stepA E C B 8 r24_3 o24_3_1 (φ, H) = some (fput φ 6 (fget φ 0), H) := nrfl rfl
theorem s24_3_2 : stepA E C B 8 r24_3 o24_3_2 (φ, H) = stp (some 7) φ H (aBuiltin E.T (B + 7) .append #[27, 27] [(fget φ 5), (fget φ 6)]) := nrfl rfl
theorem s24_3_3 : stepA E C B 8 r24_3 o24_3_3 (φ, H) = some (fput φ 2 (fget φ 7), H) := nrfl rfl
noncomputable def c24_12 : Code := kR c24_10
theorem x24_12 : execA E C (fg 24) B 8 E0 N c24_12 s = some (.ret, s) := x_ret (by rfl) s
theorem x24_10 : execA E C (fg 24) B 8 E0 N c24_10 s = seqX (execA E C (fg 24) B 8 E0 N c24_11 s) (execA E C (fg 24) B 8 E0 N c24_12) := x_seq (by rfl) s
theorem x24_2 : execA E C (fg 24) B 8 E0 N c24_2 s = seqX (execA E C (fg 24) B 8 E0 N c24_3 s) (execA E C (fg 24) B 8 E0 N c24_10) := x_seq (by rfl) s
theorem x24_0 : execA E C (fg 24) B 8 E0 N c24_0 s = seqX (execA E C (fg 24) B 8 E0 N c24_1 s) (execA E C (fg 24) B 8 E0 N c24_2) := x_seq (by rfl) s
theorem fi_24 : fInfo E 24 = some ⟨8, #[.tmp 2], c24_0⟩ := nrfl rfl
theorem b_24 (args : List AV) : bodyA E C fg N 24 args H B = bodyX E [.tmp 2] (execA E C (fg 24) B 8 H N c24_0 (frame0 args 0 [], H)) := bodyA_eq fi_24 args H
/-! ### f51: novaculite/prop.moved -/
noncomputable def c51_0 : Code := kBody Proofs.Try.f51
noncomputable def c51_1 : Code := kL c51_0
noncomputable def r51_0 : Array Oper := kO c51_1
noncomputable def o51_0_0 : Oper := opN r51_0 0
theorem x51_1 : execA E C (fg 51) B 31 E0 N c51_1 s = regX (runA E C B 31 r51_0 r51_0.toList s) (fun s => gcM E0 [6] (forget s.1 [6], s.2)) := x_reg (ops := r51_0) (by rfl) (by rfl) s
theorem r51_0_l : r51_0.toList = [o51_0_0] := nrfl rfl
theorem s51_0_0 : stepA E C B 31 r51_0 o51_0_0 (φ, H) = some (fput φ 6 (.nilsl), H) := nrfl rfl
noncomputable def c51_2 : Code := kR c51_0
noncomputable def c51_3 : Code := kL c51_2
noncomputable def r51_1 : Array Oper := kO c51_3
noncomputable def o51_1_0 : Oper := opN r51_1 0
noncomputable def o51_1_1 : Oper := opN r51_1 1
noncomputable def o51_1_2 : Oper := opN r51_1 2
theorem x51_3 : execA E C (fg 51) B 31 E0 N c51_3 s = regX (runA E C B 31 r51_1 r51_1.toList s) (fun s => gcM E0 [0, 9, 10] (forget s.1 [0, 9, 10], s.2)) := x_reg (ops := r51_1) (by rfl) (by rfl) s
theorem r51_1_l : r51_1.toList = [o51_1_0, o51_1_1, o51_1_2] := nrfl rfl
theorem s51_1_0 : stepA E C B 31 r51_1 o51_1_0 (φ, H) = some (fput φ 9 (fget φ 0), H) := nrfl rfl
theorem s51_1_1 : stepA E C B 31 r51_1 o51_1_1 (φ, H) = stp (some 10) φ H (aCall C (fun j => B + j * 31 + 10) true 24 [(fget φ 9)]) := nrfl rfl
theorem s51_1_2 : stepA E C B 31 r51_1 o51_1_2 (φ, H) = some (fput φ 7 (fget φ 10), H) := nrfl rfl
noncomputable def c51_4 : Code := kR c51_2
noncomputable def c51_5 : Code := kL c51_4
noncomputable def c51_6 : Code := kL c51_5
noncomputable def r51_2 : Array Oper := kO c51_6
noncomputable def o51_2_0 : Oper := opN r51_2 0
noncomputable def o51_2_1 : Oper := opN r51_2 1
noncomputable def o51_2_2 : Oper := opN r51_2 2
noncomputable def o51_2_3 : Oper := opN r51_2 3
noncomputable def o51_2_4 : Oper := opN r51_2 4
theorem x51_6 : execA E C (fg 51) B 31 E0 N c51_6 s = regX (runA E C B 31 r51_2 r51_2.toList s) (fun s => gcM E0 [11, 12, 13] (forget s.1 [11, 12, 13], s.2)) := x_reg (ops := r51_2) (by rfl) (by rfl) s
theorem r51_2_l : r51_2.toList = [o51_2_0, o51_2_1, o51_2_2, o51_2_3, o51_2_4] := nrfl rfl
theorem s51_2_0 : stepA E C B 31 r51_2 o51_2_0 (φ, H) = some (fput φ 11 (fget φ 7), H) := nrfl rfl
theorem s51_2_1 : stepA E C B 31 r51_2 o51_2_1 (φ, H) = some (fput φ 12 (fget φ 1), H) := nrfl rfl
theorem s51_2_2 : stepA E C B 31 r51_2 o51_2_2 (φ, H) = stp (some 13) φ H (just (aSlice E.T 27 (fget φ 11) (some (fget φ 12)) none none)) := nrfl rfl
theorem s51_2_3 : stepA E C B 31 r51_2 o51_2_3 (φ, H) = stp (some 14) φ H (aBuiltin E.T (B + 14) .len #[27] [(fget φ 13)]) := nrfl rfl
theorem s51_2_4 : stepA E C B 31 r51_2 o51_2_4 (φ, H) = some (fput φ 15 (.int .i64 0), H) := nrfl rfl
noncomputable def c51_7 : Code := kR c51_5
noncomputable def c51_8 : Code := kB c51_7
noncomputable def c51_9 : Code := kB c51_8
noncomputable def c51_10 : Code := kL c51_9
noncomputable def r51_3 : Array Oper := kO c51_10
noncomputable def o51_3_0 : Oper := opN r51_3 0
theorem x51_10 : execA E C (fg 51) B 31 E0 N c51_10 s = regX (runA E C B 31 r51_3 r51_3.toList s) (fun s => gcM E0 [] (forget s.1 [], s.2)) := x_reg (ops := r51_3) (by rfl) (by rfl) s
theorem r51_3_l : r51_3.toList = [o51_3_0] := nrfl rfl
theorem s51_3_0 : stepA E C B 31 r51_3 o51_3_0 (φ, H) = stp (some 16) φ H (just (aBin E.T .lss 3 (fget φ 15) (fget φ 14))) := nrfl rfl
noncomputable def c51_11 : Code := kR c51_9
noncomputable def c51_12 : Code := kL c51_11
noncomputable def c51_13 : Code := kT c51_12
theorem x51_13 : execA E C (fg 51) B 31 E0 N c51_13 s = some (.normal, s) := x_skip (by rfl) s
noncomputable def c51_14 : Code := kE c51_12
theorem x51_14 : execA E C (fg 51) B 31 E0 N c51_14 s = some (.exit 0, s) := x_exit (by rfl) s
theorem x51_12 : execA E C (fg 51) B 31 E0 N c51_12 (φ, H) = condX (fget φ 16) (execA E C (fg 51) B 31 E0 N c51_13 (φ, H)) (execA E C (fg 51) B 31 E0 N c51_14 (φ, H)) := x_cond (by rfl) _
noncomputable def c51_15 : Code := kR c51_11
noncomputable def c51_16 : Code := kL c51_15
noncomputable def c51_17 : Code := kB c51_16
noncomputable def c51_18 : Code := kL c51_17
noncomputable def r51_4 : Array Oper := kO c51_18
noncomputable def o51_4_0 : Oper := opN r51_4 0
noncomputable def o51_4_1 : Oper := opN r51_4 1
theorem x51_18 : execA E C (fg 51) B 31 E0 N c51_18 s = regX (runA E C B 31 r51_4 r51_4.toList s) (fun s => gcM E0 [16, 17] (forget s.1 [16, 17], s.2)) := x_reg (ops := r51_4) (by rfl) (by rfl) s
theorem r51_4_l : r51_4.toList = [o51_4_0, o51_4_1] := nrfl rfl
theorem s51_4_0 : stepA E C B 31 r51_4 o51_4_0 (φ, H) = some (fput φ 17 (fget φ 15), H) := nrfl rfl
theorem s51_4_1 : stepA E C B 31 r51_4 o51_4_1 (φ, H) = some (fput φ 8 (fget φ 17), H) := nrfl rfl
noncomputable def c51_19 : Code := kR c51_17
noncomputable def r51_5 : Array Oper := kO c51_19
noncomputable def o51_5_0 : Oper := opN r51_5 0
noncomputable def o51_5_1 : Oper := opN r51_5 1
noncomputable def o51_5_2 : Oper := opN r51_5 2
noncomputable def o51_5_3 : Oper := opN r51_5 3
noncomputable def o51_5_4 : Oper := opN r51_5 4
noncomputable def o51_5_5 : Oper := opN r51_5 5
noncomputable def o51_5_6 : Oper := opN r51_5 6
noncomputable def o51_5_7 : Oper := opN r51_5 7
noncomputable def o51_5_8 : Oper := opN r51_5 8
noncomputable def o51_5_9 : Oper := opN r51_5 9
noncomputable def o51_5_10 : Oper := opN r51_5 10
noncomputable def o51_5_11 : Oper := opN r51_5 11
theorem x51_19 : execA E C (fg 51) B 31 E0 N c51_19 s = regX (runA E C B 31 r51_5 r51_5.toList s) (fun s => gcM E0 [8, 18, 19, 20, 21, 22, 23, 24, 25, 26, 27, 28] (forget s.1 [8, 18, 19, 20, 21, 22, 23, 24, 25, 26, 27, 28], s.2)) := x_reg (ops := r51_5) (by rfl) (by rfl) s
theorem r51_5_l : r51_5.toList = [o51_5_0, o51_5_1, o51_5_2, o51_5_3, o51_5_4, o51_5_5, o51_5_6, o51_5_7, o51_5_8, o51_5_9, o51_5_10, o51_5_11] := nrfl rfl
theorem s51_5_0 : stepA E C B 31 r51_5 o51_5_0 (φ, H) = some (fput φ 18 (fget φ 7), H) := nrfl rfl
theorem s51_5_1 : stepA E C B 31 r51_5 o51_5_1 (φ, H) = some (fput φ 19 (fget φ 1), H) := nrfl rfl
theorem s51_5_2 : stepA E C B 31 r51_5 o51_5_2 (φ, H) = some (fput φ 20 (fget φ 8), H) := nrfl rfl
theorem s51_5_3 : stepA E C B 31 r51_5 o51_5_3 (φ, H) = stp (some 21) φ H (just (aBin E.T .add 3 (fget φ 19) (fget φ 20))) := nrfl rfl
theorem s51_5_4 : stepA E C B 31 r51_5 o51_5_4 (φ, H) = stp (some 22) φ H (just (aIndexAddr E.T 27 (fget φ 18) (fget φ 21))) := nrfl rfl
theorem s51_5_5 : stepA E C B 31 r51_5 o51_5_5 (φ, H) = stp (some 23) φ H (just (aFieldAddr E.T 44 (fget φ 22) 1)) := nrfl rfl
theorem s51_5_6 : stepA E C B 31 r51_5 o51_5_6 (φ, H) = stp (some 24) φ H (just (aLoad E.T 3 (fget φ 23))) := nrfl rfl
theorem s51_5_7 : stepA E C B 31 r51_5 o51_5_7 (φ, H) = some (fput φ 25 (fget φ 2), H) := nrfl rfl
theorem s51_5_8 : stepA E C B 31 r51_5 o51_5_8 (φ, H) = stp (some 26) φ H (just (aBin E.T .add 3 (fget φ 24) (fget φ 25))) := nrfl rfl
theorem s51_5_9 : stepA E C B 31 r51_5 o51_5_9 (φ, H) = stp (some 27) φ H (just (aIndexAddr E.T 27 (fget φ 18) (fget φ 21))) := nrfl rfl
theorem s51_5_10 : stepA E C B 31 r51_5 o51_5_10 (φ, H) = stp (some 28) φ H (just (aFieldAddr E.T 44 (fget φ 27) 1)) := nrfl rfl
theorem s51_5_11 : stepA E C B 31 r51_5 o51_5_11 (φ, H) = stp none φ H (opStore E.T 3 (fget φ 28) (fget φ 26)) := nrfl rfl
theorem x51_17 : execA E C (fg 51) B 31 E0 N c51_17 s = seqX (execA E C (fg 51) B 31 E0 N c51_18 s) (execA E C (fg 51) B 31 E0 N c51_19) := x_seq (by rfl) s
theorem x51_16 : execA E C (fg 51) B 31 E0 N c51_16 s = blockX 1 (fun s => (forget s.1 [], s.2)) (execA E C (fg 51) B 31 E0 N c51_17 s) := x_block (by rfl) (by rfl) s
noncomputable def c51_20 : Code := kR c51_15
noncomputable def r51_6 : Array Oper := kO c51_20
noncomputable def o51_6_0 : Oper := opN r51_6 0
noncomputable def o51_6_1 : Oper := opN r51_6 1
theorem x51_20 : execA E C (fg 51) B 31 E0 N c51_20 s = regX (runA E C B 31 r51_6 r51_6.toList s) (fun s => gcM E0 [29] (forget s.1 [29], s.2)) := x_reg (ops := r51_6) (by rfl) (by rfl) s
theorem r51_6_l : r51_6.toList = [o51_6_0, o51_6_1] := nrfl rfl
theorem s51_6_0 : stepA E C B 31 r51_6 o51_6_0 (φ, H) = stp (some 29) φ H (just (aBin E.T .add 3 (fget φ 15) (.int .i64 1))) := nrfl rfl
theorem s51_6_1 : stepA E C B 31 r51_6 o51_6_1 (φ, H) = some (fput φ 15 (fget φ 29), H) := nrfl rfl
theorem x51_15 : execA E C (fg 51) B 31 E0 N c51_15 s = seqX (execA E C (fg 51) B 31 E0 N c51_16 s) (execA E C (fg 51) B 31 E0 N c51_20) := x_seq (by rfl) s
theorem x51_11 : execA E C (fg 51) B 31 E0 N c51_11 s = seqX (execA E C (fg 51) B 31 E0 N c51_12 s) (execA E C (fg 51) B 31 E0 N c51_15) := x_seq (by rfl) s
theorem x51_9 : execA E C (fg 51) B 31 E0 N c51_9 s = seqX (execA E C (fg 51) B 31 E0 N c51_10 s) (execA E C (fg 51) B 31 E0 N c51_11) := x_seq (by rfl) s
-- a loop of f51: x51_8; body c51_9; slots [15, 14, 7, 2, 1]
theorem x51_8 : execA E C (fg 51) B 31 E0 N c51_8 s = iterA (execA E C (fg 51) B 31 E0 N c51_9) (headA E0) N s := x_loop (by rfl) s
theorem x51_7 : execA E C (fg 51) B 31 E0 N c51_7 s = blockX 0 (fun s => (forget s.1 [1, 2, 14, 15, 16], s.2)) (execA E C (fg 51) B 31 E0 N c51_8 s) := x_block (by rfl) (by rfl) s
theorem x51_5 : execA E C (fg 51) B 31 E0 N c51_5 s = seqX (execA E C (fg 51) B 31 E0 N c51_6 s) (execA E C (fg 51) B 31 E0 N c51_7) := x_seq (by rfl) s
noncomputable def c51_21 : Code := kR c51_4
noncomputable def c51_22 : Code := kL c51_21
noncomputable def r51_7 : Array Oper := kO c51_22
noncomputable def o51_7_0 : Oper := opN r51_7 0
noncomputable def o51_7_1 : Oper := opN r51_7 1
theorem x51_22 : execA E C (fg 51) B 31 E0 N c51_22 s = regX (runA E C B 31 r51_7 r51_7.toList s) (fun s => gcM E0 [7, 30] (forget s.1 [7, 30], s.2)) := x_reg (ops := r51_7) (by rfl) (by rfl) s
theorem r51_7_l : r51_7.toList = [o51_7_0, o51_7_1] := nrfl rfl
theorem s51_7_0 : stepA E C B 31 r51_7 o51_7_0 (φ, H) = some (fput φ 30 (fget φ 7), H) := nrfl rfl
theorem s51_7_1 : stepA E C B 31 r51_7 o51_7_1 (φ, H) = some (fput φ 6 (fget φ 30), H) := nrfl rfl
noncomputable def c51_23 : Code := kR c51_21
theorem x51_23 : execA E C (fg 51) B 31 E0 N c51_23 s = some (.ret, s) := x_ret (by rfl) s
theorem x51_21 : execA E C (fg 51) B 31 E0 N c51_21 s = seqX (execA E C (fg 51) B 31 E0 N c51_22 s) (execA E C (fg 51) B 31 E0 N c51_23) := x_seq (by rfl) s
theorem x51_4 : execA E C (fg 51) B 31 E0 N c51_4 s = seqX (execA E C (fg 51) B 31 E0 N c51_5 s) (execA E C (fg 51) B 31 E0 N c51_21) := x_seq (by rfl) s
theorem x51_2 : execA E C (fg 51) B 31 E0 N c51_2 s = seqX (execA E C (fg 51) B 31 E0 N c51_3 s) (execA E C (fg 51) B 31 E0 N c51_4) := x_seq (by rfl) s
theorem x51_0 : execA E C (fg 51) B 31 E0 N c51_0 s = seqX (execA E C (fg 51) B 31 E0 N c51_1 s) (execA E C (fg 51) B 31 E0 N c51_2) := x_seq (by rfl) s
theorem fi_51 : fInfo E 51 = some ⟨31, #[.tmp 6], c51_0⟩ := nrfl rfl
theorem b_51 (args : List AV) : bodyA E C fg N 51 args H B = bodyX E [.tmp 6] (execA E C (fg 51) B 31 H N c51_0 (frame0 args 0 [], H)) := bodyA_eq fi_51 args H
/-! ### f21: novaculite/prop.Lay -/
noncomputable def c21_0 : Code := kBody Proofs.Try.f21
noncomputable def c21_1 : Code := kL c21_0
noncomputable def r21_0 : Array Oper := kO c21_1
noncomputable def o21_0_0 : Oper := opN r21_0 0
noncomputable def o21_0_1 : Oper := opN r21_0 1
theorem x21_1 : execA E C (fg 21) B 25 E0 N c21_1 s = regX (runA E C B 25 r21_0 r21_0.toList s) (fun s => gcM E0 [2, 3] (forget s.1 [2, 3], s.2)) := x_reg (ops := r21_0) (by rfl) (by rfl) s
theorem r21_0_l : r21_0.toList = [o21_0_0, o21_0_1] := nrfl rfl
theorem s21_0_0 : stepA E C B 25 r21_0 o21_0_0 (φ, H) = some (fput φ 2 (.int .i64 0), H) := nrfl rfl
theorem s21_0_1 : stepA E C B 25 r21_0 o21_0_1 (φ, H) = some (fput φ 3 (.int .i64 0), H) := nrfl rfl
noncomputable def c21_2 : Code := kR c21_0
noncomputable def c21_3 : Code := kL c21_2
noncomputable def c21_4 : Code := kL c21_3
noncomputable def r21_1 : Array Oper := kO c21_4
noncomputable def o21_1_0 : Oper := opN r21_1 0
noncomputable def o21_1_1 : Oper := opN r21_1 1
noncomputable def o21_1_2 : Oper := opN r21_1 2
theorem x21_4 : execA E C (fg 21) B 25 E0 N c21_4 s = regX (runA E C B 25 r21_1 r21_1.toList s) (fun s => gcM E0 [6, 7] (forget s.1 [6, 7], s.2)) := x_reg (ops := r21_1) (by rfl) (by rfl) s
theorem r21_1_l : r21_1.toList = [o21_1_0, o21_1_1, o21_1_2] := nrfl rfl
theorem s21_1_0 : stepA E C B 25 r21_1 o21_1_0 (φ, H) = some (fput φ 6 (fget φ 0), H) := nrfl rfl
theorem s21_1_1 : stepA E C B 25 r21_1 o21_1_1 (φ, H) = stp (some 7) φ H (aCall C (fun j => B + j * 25 + 7) true 11 [(fget φ 6)]) := nrfl rfl
theorem s21_1_2 : stepA E C B 25 r21_1 o21_1_2 (φ, H) = some (fput φ 4 (fget φ 7), H) := nrfl rfl
noncomputable def c21_5 : Code := kR c21_3
noncomputable def c21_6 : Code := kL c21_5
noncomputable def r21_2 : Array Oper := kO c21_6
noncomputable def o21_2_0 : Oper := opN r21_2 0
noncomputable def o21_2_1 : Oper := opN r21_2 1
theorem x21_6 : execA E C (fg 21) B 25 E0 N c21_6 s = regX (runA E C B 25 r21_2 r21_2.toList s) (fun s => gcM E0 [8] (forget s.1 [8], s.2)) := x_reg (ops := r21_2) (by rfl) (by rfl) s
theorem r21_2_l : r21_2.toList = [o21_2_0, o21_2_1] := nrfl rfl
theorem s21_2_0 : stepA E C B 25 r21_2 o21_2_0 (φ, H) = some (fput φ 8 (fget φ 4), H) := nrfl rfl
theorem s21_2_1 : stepA E C B 25 r21_2 o21_2_1 (φ, H) = stp (some 9) φ H (just (aBin E.T .neq 30 (fget φ 8) (.int .i64 0))) := nrfl rfl
noncomputable def c21_7 : Code := kR c21_5
noncomputable def c21_8 : Code := kT c21_7
noncomputable def c21_9 : Code := kL c21_8
noncomputable def r21_3 : Array Oper := kO c21_9
noncomputable def o21_3_0 : Oper := opN r21_3 0
noncomputable def o21_3_1 : Oper := opN r21_3 1
noncomputable def o21_3_2 : Oper := opN r21_3 2
theorem x21_9 : execA E C (fg 21) B 25 E0 N c21_9 s = regX (runA E C B 25 r21_3 r21_3.toList s) (fun s => gcM E0 [0, 4, 9, 10] (forget s.1 [0, 4, 9, 10], s.2)) := x_reg (ops := r21_3) (by rfl) (by rfl) s
theorem r21_3_l : r21_3.toList = [o21_3_0, o21_3_1, o21_3_2] := nrfl rfl
theorem s21_3_0 : stepA E C B 25 r21_3 o21_3_0 (φ, H) = some (fput φ 10 (fget φ 4), H) := nrfl rfl
theorem s21_3_1 : stepA E C B 25 r21_3 o21_3_1 (φ, H) = some (fput φ 2 (.int .i64 0), H) := nrfl rfl
theorem s21_3_2 : stepA E C B 25 r21_3 o21_3_2 (φ, H) = some (fput φ 3 (fget φ 10), H) := nrfl rfl
noncomputable def c21_10 : Code := kR c21_8
theorem x21_10 : execA E C (fg 21) B 25 E0 N c21_10 s = some (.ret, s) := x_ret (by rfl) s
theorem x21_8 : execA E C (fg 21) B 25 E0 N c21_8 s = seqX (execA E C (fg 21) B 25 E0 N c21_9 s) (execA E C (fg 21) B 25 E0 N c21_10) := x_seq (by rfl) s
noncomputable def c21_11 : Code := kE c21_7
theorem x21_11 : execA E C (fg 21) B 25 E0 N c21_11 s = some (.normal, s) := x_skip (by rfl) s
theorem x21_7 : execA E C (fg 21) B 25 E0 N c21_7 (φ, H) = condX (fget φ 9) (execA E C (fg 21) B 25 E0 N c21_8 (φ, H)) (execA E C (fg 21) B 25 E0 N c21_11 (φ, H)) := x_cond (by rfl) _
theorem x21_5 : execA E C (fg 21) B 25 E0 N c21_5 s = seqX (execA E C (fg 21) B 25 E0 N c21_6 s) (execA E C (fg 21) B 25 E0 N c21_7) := x_seq (by rfl) s
theorem x21_3 : execA E C (fg 21) B 25 E0 N c21_3 s = seqX (execA E C (fg 21) B 25 E0 N c21_4 s) (execA E C (fg 21) B 25 E0 N c21_5) := x_seq (by rfl) s
noncomputable def c21_12 : Code := kR c21_2
noncomputable def c21_13 : Code := kL c21_12
noncomputable def c21_14 : Code := kL c21_13
noncomputable def r21_4 : Array Oper := kO c21_14
noncomputable def o21_4_0 : Oper := opN r21_4 0
noncomputable def o21_4_1 : Oper := opN r21_4 1
noncomputable def o21_4_2 : Oper := opN r21_4 2
theorem x21_14 : execA E C (fg 21) B 25 E0 N c21_14 s = regX (runA E C B 25 r21_4 r21_4.toList s) (fun s => gcM E0 [4, 9, 11] (forget s.1 [4, 9, 11], s.2)) := x_reg (ops := r21_4) (by rfl) (by rfl) s
theorem r21_4_l : r21_4.toList = [o21_4_0, o21_4_1, o21_4_2] := nrfl rfl
theorem s21_4_0 : stepA E C B 25 r21_4 o21_4_0 (φ, H) = some (fput φ 11 (fget φ 0), H) := nrfl rfl
theorem s21_4_1 : stepA E C B 25 r21_4 o21_4_1 (φ, H) = stp (some 12) φ H (aBuiltin E.T (B + 12) .len #[27] [(fget φ 11)]) := nrfl rfl
theorem s21_4_2 : stepA E C B 25 r21_4 o21_4_2 (φ, H) = some (fput φ 13 (.int .i64 0), H) := nrfl rfl
noncomputable def c21_15 : Code := kR c21_13
noncomputable def c21_16 : Code := kB c21_15
noncomputable def c21_17 : Code := kB c21_16
noncomputable def c21_18 : Code := kL c21_17
noncomputable def r21_5 : Array Oper := kO c21_18
noncomputable def o21_5_0 : Oper := opN r21_5 0
theorem x21_18 : execA E C (fg 21) B 25 E0 N c21_18 s = regX (runA E C B 25 r21_5 r21_5.toList s) (fun s => gcM E0 [] (forget s.1 [], s.2)) := x_reg (ops := r21_5) (by rfl) (by rfl) s
theorem r21_5_l : r21_5.toList = [o21_5_0] := nrfl rfl
theorem s21_5_0 : stepA E C B 25 r21_5 o21_5_0 (φ, H) = stp (some 14) φ H (just (aBin E.T .lss 3 (fget φ 13) (fget φ 12))) := nrfl rfl
noncomputable def c21_19 : Code := kR c21_17
noncomputable def c21_20 : Code := kL c21_19
noncomputable def c21_21 : Code := kT c21_20
theorem x21_21 : execA E C (fg 21) B 25 E0 N c21_21 s = some (.normal, s) := x_skip (by rfl) s
noncomputable def c21_22 : Code := kE c21_20
theorem x21_22 : execA E C (fg 21) B 25 E0 N c21_22 s = some (.exit 0, s) := x_exit (by rfl) s
theorem x21_20 : execA E C (fg 21) B 25 E0 N c21_20 (φ, H) = condX (fget φ 14) (execA E C (fg 21) B 25 E0 N c21_21 (φ, H)) (execA E C (fg 21) B 25 E0 N c21_22 (φ, H)) := x_cond (by rfl) _
noncomputable def c21_23 : Code := kR c21_19
noncomputable def c21_24 : Code := kL c21_23
noncomputable def c21_25 : Code := kB c21_24
noncomputable def c21_26 : Code := kL c21_25
noncomputable def r21_6 : Array Oper := kO c21_26
noncomputable def o21_6_0 : Oper := opN r21_6 0
noncomputable def o21_6_1 : Oper := opN r21_6 1
theorem x21_26 : execA E C (fg 21) B 25 E0 N c21_26 s = regX (runA E C B 25 r21_6 r21_6.toList s) (fun s => gcM E0 [14, 15] (forget s.1 [14, 15], s.2)) := x_reg (ops := r21_6) (by rfl) (by rfl) s
theorem r21_6_l : r21_6.toList = [o21_6_0, o21_6_1] := nrfl rfl
theorem s21_6_0 : stepA E C B 25 r21_6 o21_6_0 (φ, H) = some (fput φ 15 (fget φ 13), H) := nrfl rfl
theorem s21_6_1 : stepA E C B 25 r21_6 o21_6_1 (φ, H) = some (fput φ 5 (fget φ 15), H) := nrfl rfl
noncomputable def c21_27 : Code := kR c21_25
noncomputable def c21_28 : Code := kL c21_27
noncomputable def r21_7 : Array Oper := kO c21_28
noncomputable def o21_7_0 : Oper := opN r21_7 0
noncomputable def o21_7_1 : Oper := opN r21_7 1
noncomputable def o21_7_2 : Oper := opN r21_7 2
noncomputable def o21_7_3 : Oper := opN r21_7 3
noncomputable def o21_7_4 : Oper := opN r21_7 4
noncomputable def o21_7_5 : Oper := opN r21_7 5
theorem x21_28 : execA E C (fg 21) B 25 E0 N c21_28 s = regX (runA E C B 25 r21_7 r21_7.toList s) (fun s => gcM E0 [16, 17, 18, 19, 20] (forget s.1 [16, 17, 18, 19, 20], s.2)) := x_reg (ops := r21_7) (by rfl) (by rfl) s
theorem r21_7_l : r21_7.toList = [o21_7_0, o21_7_1, o21_7_2, o21_7_3, o21_7_4, o21_7_5] := nrfl rfl
theorem s21_7_0 : stepA E C B 25 r21_7 o21_7_0 (φ, H) = some (fput φ 16 (fget φ 0), H) := nrfl rfl
theorem s21_7_1 : stepA E C B 25 r21_7 o21_7_1 (φ, H) = some (fput φ 17 (fget φ 5), H) := nrfl rfl
theorem s21_7_2 : stepA E C B 25 r21_7 o21_7_2 (φ, H) = stp (some 18) φ H (just (aBin E.T .add 3 (fget φ 17) (.int .i64 1))) := nrfl rfl
theorem s21_7_3 : stepA E C B 25 r21_7 o21_7_3 (φ, H) = stp (some 19) φ H (just (aSlice E.T 27 (fget φ 16) none (some (fget φ 18)) none)) := nrfl rfl
theorem s21_7_4 : stepA E C B 25 r21_7 o21_7_4 (φ, H) = stp (some 20) φ H (aCall C (fun j => B + j * 25 + 20) true 33 [(fget φ 19)]) := nrfl rfl
theorem s21_7_5 : stepA E C B 25 r21_7 o21_7_5 (φ, H) = stp (some 21) φ H (just (aBin E.T .geq 3 (fget φ 20) (.int .i64 0))) := nrfl rfl
noncomputable def c21_29 : Code := kR c21_27
noncomputable def c21_30 : Code := kT c21_29
noncomputable def c21_31 : Code := kL c21_30
noncomputable def r21_8 : Array Oper := kO c21_31
noncomputable def o21_8_0 : Oper := opN r21_8 0
noncomputable def o21_8_1 : Oper := opN r21_8 1
noncomputable def o21_8_2 : Oper := opN r21_8 2
noncomputable def o21_8_3 : Oper := opN r21_8 3
theorem x21_31 : execA E C (fg 21) B 25 E0 N c21_31 s = regX (runA E C B 25 r21_8 r21_8.toList s) (fun s => gcM E0 [0, 5, 12, 13, 21, 22, 23] (forget s.1 [0, 5, 12, 13, 21, 22, 23], s.2)) := x_reg (ops := r21_8) (by rfl) (by rfl) s
theorem r21_8_l : r21_8.toList = [o21_8_0, o21_8_1, o21_8_2, o21_8_3] := nrfl rfl
theorem s21_8_0 : stepA E C B 25 r21_8 o21_8_0 (φ, H) = some (fput φ 22 (fget φ 5), H) := nrfl rfl
theorem s21_8_1 : stepA E C B 25 r21_8 o21_8_1 (φ, H) = stp (some 23) φ H (just (aBin E.T .add 3 (fget φ 22) (.int .i64 1))) := nrfl rfl
theorem s21_8_2 : stepA E C B 25 r21_8 o21_8_2 (φ, H) = some (fput φ 2 (fget φ 23), H) := nrfl rfl
theorem s21_8_3 : stepA E C B 25 r21_8 o21_8_3 (φ, H) = some (fput φ 3 (.int .i64 0), H) := nrfl rfl
noncomputable def c21_32 : Code := kR c21_30
theorem x21_32 : execA E C (fg 21) B 25 E0 N c21_32 s = some (.ret, s) := x_ret (by rfl) s
theorem x21_30 : execA E C (fg 21) B 25 E0 N c21_30 s = seqX (execA E C (fg 21) B 25 E0 N c21_31 s) (execA E C (fg 21) B 25 E0 N c21_32) := x_seq (by rfl) s
noncomputable def c21_33 : Code := kE c21_29
theorem x21_33 : execA E C (fg 21) B 25 E0 N c21_33 s = some (.normal, s) := x_skip (by rfl) s
theorem x21_29 : execA E C (fg 21) B 25 E0 N c21_29 (φ, H) = condX (fget φ 21) (execA E C (fg 21) B 25 E0 N c21_30 (φ, H)) (execA E C (fg 21) B 25 E0 N c21_33 (φ, H)) := x_cond (by rfl) _
theorem x21_27 : execA E C (fg 21) B 25 E0 N c21_27 s = seqX (execA E C (fg 21) B 25 E0 N c21_28 s) (execA E C (fg 21) B 25 E0 N c21_29) := x_seq (by rfl) s
theorem x21_25 : execA E C (fg 21) B 25 E0 N c21_25 s = seqX (execA E C (fg 21) B 25 E0 N c21_26 s) (execA E C (fg 21) B 25 E0 N c21_27) := x_seq (by rfl) s
theorem x21_24 : execA E C (fg 21) B 25 E0 N c21_24 s = blockX 1 (fun s => (forget s.1 [5, 21], s.2)) (execA E C (fg 21) B 25 E0 N c21_25 s) := x_block (by rfl) (by rfl) s
noncomputable def c21_34 : Code := kR c21_23
noncomputable def r21_9 : Array Oper := kO c21_34
noncomputable def o21_9_0 : Oper := opN r21_9 0
noncomputable def o21_9_1 : Oper := opN r21_9 1
theorem x21_34 : execA E C (fg 21) B 25 E0 N c21_34 s = regX (runA E C B 25 r21_9 r21_9.toList s) (fun s => gcM E0 [24] (forget s.1 [24], s.2)) := x_reg (ops := r21_9) (by rfl) (by rfl) s
theorem r21_9_l : r21_9.toList = [o21_9_0, o21_9_1] := nrfl rfl
theorem s21_9_0 : stepA E C B 25 r21_9 o21_9_0 (φ, H) = stp (some 24) φ H (just (aBin E.T .add 3 (fget φ 13) (.int .i64 1))) := nrfl rfl
theorem s21_9_1 : stepA E C B 25 r21_9 o21_9_1 (φ, H) = some (fput φ 13 (fget φ 24), H) := nrfl rfl
theorem x21_23 : execA E C (fg 21) B 25 E0 N c21_23 s = seqX (execA E C (fg 21) B 25 E0 N c21_24 s) (execA E C (fg 21) B 25 E0 N c21_34) := x_seq (by rfl) s
theorem x21_19 : execA E C (fg 21) B 25 E0 N c21_19 s = seqX (execA E C (fg 21) B 25 E0 N c21_20 s) (execA E C (fg 21) B 25 E0 N c21_23) := x_seq (by rfl) s
theorem x21_17 : execA E C (fg 21) B 25 E0 N c21_17 s = seqX (execA E C (fg 21) B 25 E0 N c21_18 s) (execA E C (fg 21) B 25 E0 N c21_19) := x_seq (by rfl) s
-- a loop of f21: x21_16; body c21_17; slots [13, 12, 0]
theorem x21_16 : execA E C (fg 21) B 25 E0 N c21_16 s = iterA (execA E C (fg 21) B 25 E0 N c21_17) (headA E0) N s := x_loop (by rfl) s
theorem x21_15 : execA E C (fg 21) B 25 E0 N c21_15 s = blockX 0 (fun s => (forget s.1 [0, 12, 13, 14], s.2)) (execA E C (fg 21) B 25 E0 N c21_16 s) := x_block (by rfl) (by rfl) s
theorem x21_13 : execA E C (fg 21) B 25 E0 N c21_13 s = seqX (execA E C (fg 21) B 25 E0 N c21_14 s) (execA E C (fg 21) B 25 E0 N c21_15) := x_seq (by rfl) s
noncomputable def c21_35 : Code := kR c21_12
noncomputable def c21_36 : Code := kL c21_35
noncomputable def r21_10 : Array Oper := kO c21_36
noncomputable def o21_10_0 : Oper := opN r21_10 0
noncomputable def o21_10_1 : Oper := opN r21_10 1
theorem x21_36 : execA E C (fg 21) B 25 E0 N c21_36 s = regX (runA E C B 25 r21_10 r21_10.toList s) (fun s => gcM E0 [] (forget s.1 [], s.2)) := x_reg (ops := r21_10) (by rfl) (by rfl) s
theorem r21_10_l : r21_10.toList = [o21_10_0, o21_10_1] := nrfl rfl
theorem s21_10_0 : stepA E C B 25 r21_10 o21_10_0 (φ, H) = some (fput φ 2 (.int .i64 0), H) := nrfl rfl
theorem s21_10_1 : stepA E C B 25 r21_10 o21_10_1 (φ, H) = some (fput φ 3 (.int .i64 13), H) := nrfl rfl
noncomputable def c21_37 : Code := kR c21_35
theorem x21_37 : execA E C (fg 21) B 25 E0 N c21_37 s = some (.ret, s) := x_ret (by rfl) s
theorem x21_35 : execA E C (fg 21) B 25 E0 N c21_35 s = seqX (execA E C (fg 21) B 25 E0 N c21_36 s) (execA E C (fg 21) B 25 E0 N c21_37) := x_seq (by rfl) s
theorem x21_12 : execA E C (fg 21) B 25 E0 N c21_12 s = seqX (execA E C (fg 21) B 25 E0 N c21_13 s) (execA E C (fg 21) B 25 E0 N c21_35) := x_seq (by rfl) s
theorem x21_2 : execA E C (fg 21) B 25 E0 N c21_2 s = seqX (execA E C (fg 21) B 25 E0 N c21_3 s) (execA E C (fg 21) B 25 E0 N c21_12) := x_seq (by rfl) s
theorem x21_0 : execA E C (fg 21) B 25 E0 N c21_0 s = seqX (execA E C (fg 21) B 25 E0 N c21_1 s) (execA E C (fg 21) B 25 E0 N c21_2) := x_seq (by rfl) s
theorem fi_21 : fInfo E 21 = some ⟨25, #[.tmp 2, .tmp 3], c21_0⟩ := nrfl rfl
theorem b_21 (args : List AV) : bodyA E C fg N 21 args H B = bodyX E [.tmp 2, .tmp 3] (execA E C (fg 21) B 25 H N c21_0 (frame0 args 0 [], H)) := bodyA_eq fi_21 args H
/-! ### f22: novaculite/prop.Slack -/
noncomputable def c22_0 : Code := kBody Proofs.Try.f22
noncomputable def c22_1 : Code := kL c22_0
noncomputable def r22_0 : Array Oper := kO c22_1
noncomputable def o22_0_0 : Oper := opN r22_0 0
noncomputable def o22_0_1 : Oper := opN r22_0 1
theorem x22_1 : execA E C (fg 22) B 39 E0 N c22_1 s = regX (runA E C B 39 r22_0 r22_0.toList s) (fun s => gcM E0 [4, 5] (forget s.1 [4, 5], s.2)) := x_reg (ops := r22_0) (by rfl) (by rfl) s
theorem r22_0_l : r22_0.toList = [o22_0_0, o22_0_1] := nrfl rfl
theorem s22_0_0 : stepA E C B 39 r22_0 o22_0_0 (φ, H) = some (fput φ 4 (.int .i64 0), H) := nrfl rfl
theorem s22_0_1 : stepA E C B 39 r22_0 o22_0_1 (φ, H) = some (fput φ 5 (.int .i64 0), H) := nrfl rfl
noncomputable def c22_2 : Code := kR c22_0
noncomputable def c22_3 : Code := kL c22_2
noncomputable def r22_1 : Array Oper := kO c22_3
noncomputable def o22_1_0 : Oper := opN r22_1 0
noncomputable def o22_1_1 : Oper := opN r22_1 1
noncomputable def o22_1_2 : Oper := opN r22_1 2
noncomputable def o22_1_3 : Oper := opN r22_1 3
theorem x22_3 : execA E C (fg 22) B 39 E0 N c22_3 s = regX (runA E C B 39 r22_1 r22_1.toList s) (fun s => gcM E0 [10, 11, 12] (forget s.1 [10, 11, 12], s.2)) := x_reg (ops := r22_1) (by rfl) (by rfl) s
theorem r22_1_l : r22_1.toList = [o22_1_0, o22_1_1, o22_1_2, o22_1_3] := nrfl rfl
theorem s22_1_0 : stepA E C B 39 r22_1 o22_1_0 (φ, H) = some (fput φ 10 (fget φ 0), H) := nrfl rfl
theorem s22_1_1 : stepA E C B 39 r22_1 o22_1_1 (φ, H) = some (fput φ 11 (fget φ 1), H) := nrfl rfl
theorem s22_1_2 : stepA E C B 39 r22_1 o22_1_2 (φ, H) = stp (some 12) φ H (aCall C (fun j => B + j * 39 + 12) true 40 [(fget φ 10), (fget φ 11)]) := nrfl rfl
theorem s22_1_3 : stepA E C B 39 r22_1 o22_1_3 (φ, H) = some (fput φ 6 (fget φ 12), H) := nrfl rfl
noncomputable def c22_4 : Code := kR c22_2
noncomputable def c22_5 : Code := kL c22_4
noncomputable def c22_6 : Code := kB c22_5
noncomputable def c22_7 : Code := kL c22_6
noncomputable def r22_2 : Array Oper := kO c22_7
noncomputable def o22_2_0 : Oper := opN r22_2 0
noncomputable def o22_2_1 : Oper := opN r22_2 1
noncomputable def o22_2_2 : Oper := opN r22_2 2
theorem x22_7 : execA E C (fg 22) B 39 E0 N c22_7 s = regX (runA E C B 39 r22_2 r22_2.toList s) (fun s => gcM E0 [14, 15] (forget s.1 [14, 15], s.2)) := x_reg (ops := r22_2) (by rfl) (by rfl) s
theorem r22_2_l : r22_2.toList = [o22_2_0, o22_2_1, o22_2_2] := nrfl rfl
theorem s22_2_0 : stepA E C B 39 r22_2 o22_2_0 (φ, H) = some (fput φ 14 (fget φ 6), H) := nrfl rfl
theorem s22_2_1 : stepA E C B 39 r22_2 o22_2_1 (φ, H) = stp (some 15) φ H (just (aBin E.T .neq 30 (fget φ 14) (.int .i64 0))) := nrfl rfl
theorem s22_2_2 : stepA E C B 39 r22_2 o22_2_2 (φ, H) = some (fput φ 13 (fget φ 15), H) := nrfl rfl
noncomputable def c22_8 : Code := kR c22_6
noncomputable def c22_9 : Code := kT c22_8
noncomputable def c22_10 : Code := kL c22_9
noncomputable def r22_3 : Array Oper := kO c22_10
noncomputable def o22_3_0 : Oper := opN r22_3 0
noncomputable def o22_3_1 : Oper := opN r22_3 1
noncomputable def o22_3_2 : Oper := opN r22_3 2
theorem x22_10 : execA E C (fg 22) B 39 E0 N c22_10 s = regX (runA E C B 39 r22_3 r22_3.toList s) (fun s => gcM E0 [0, 1, 6, 13, 16] (forget s.1 [0, 1, 6, 13, 16], s.2)) := x_reg (ops := r22_3) (by rfl) (by rfl) s
theorem r22_3_l : r22_3.toList = [o22_3_0, o22_3_1, o22_3_2] := nrfl rfl
theorem s22_3_0 : stepA E C B 39 r22_3 o22_3_0 (φ, H) = some (fput φ 16 (fget φ 6), H) := nrfl rfl
theorem s22_3_1 : stepA E C B 39 r22_3 o22_3_1 (φ, H) = some (fput φ 4 (.int .i64 0), H) := nrfl rfl
theorem s22_3_2 : stepA E C B 39 r22_3 o22_3_2 (φ, H) = some (fput φ 5 (fget φ 16), H) := nrfl rfl
noncomputable def c22_11 : Code := kR c22_9
theorem x22_11 : execA E C (fg 22) B 39 E0 N c22_11 s = some (.ret, s) := x_ret (by rfl) s
theorem x22_9 : execA E C (fg 22) B 39 E0 N c22_9 s = seqX (execA E C (fg 22) B 39 E0 N c22_10 s) (execA E C (fg 22) B 39 E0 N c22_11) := x_seq (by rfl) s
noncomputable def c22_12 : Code := kE c22_8
noncomputable def c22_13 : Code := kL c22_12
noncomputable def r22_4 : Array Oper := kO c22_13
noncomputable def o22_4_0 : Oper := opN r22_4 0
noncomputable def o22_4_1 : Oper := opN r22_4 1
noncomputable def o22_4_2 : Oper := opN r22_4 2
noncomputable def o22_4_3 : Oper := opN r22_4 3
theorem x22_13 : execA E C (fg 22) B 39 E0 N c22_13 s = regX (runA E C B 39 r22_4 r22_4.toList s) (fun s => gcM E0 [6, 13, 18, 19, 20] (forget s.1 [6, 13, 18, 19, 20], s.2)) := x_reg (ops := r22_4) (by rfl) (by rfl) s
theorem r22_4_l : r22_4.toList = [o22_4_0, o22_4_1, o22_4_2, o22_4_3] := nrfl rfl
theorem s22_4_0 : stepA E C B 39 r22_4 o22_4_0 (φ, H) = some (fput φ 18 (fget φ 0), H) := nrfl rfl
theorem s22_4_1 : stepA E C B 39 r22_4 o22_4_1 (φ, H) = stp (some 19) φ H (aCall C (fun j => B + j * 39 + 19) true 33 [(fget φ 18)]) := nrfl rfl
theorem s22_4_2 : stepA E C B 39 r22_4 o22_4_2 (φ, H) = stp (some 20) φ H (just (aBin E.T .geq 3 (fget φ 19) (.int .i64 0))) := nrfl rfl
theorem s22_4_3 : stepA E C B 39 r22_4 o22_4_3 (φ, H) = some (fput φ 17 (fget φ 20), H) := nrfl rfl
noncomputable def c22_14 : Code := kR c22_12
noncomputable def c22_15 : Code := kT c22_14
noncomputable def c22_16 : Code := kL c22_15
noncomputable def r22_5 : Array Oper := kO c22_16
noncomputable def o22_5_0 : Oper := opN r22_5 0
noncomputable def o22_5_1 : Oper := opN r22_5 1
theorem x22_16 : execA E C (fg 22) B 39 E0 N c22_16 s = regX (runA E C B 39 r22_5 r22_5.toList s) (fun s => gcM E0 [0, 1, 17] (forget s.1 [0, 1, 17], s.2)) := x_reg (ops := r22_5) (by rfl) (by rfl) s
theorem r22_5_l : r22_5.toList = [o22_5_0, o22_5_1] := nrfl rfl
theorem s22_5_0 : stepA E C B 39 r22_5 o22_5_0 (φ, H) = some (fput φ 4 (.int .i64 0), H) := nrfl rfl
theorem s22_5_1 : stepA E C B 39 r22_5 o22_5_1 (φ, H) = some (fput φ 5 (.int .i64 12), H) := nrfl rfl
noncomputable def c22_17 : Code := kR c22_15
theorem x22_17 : execA E C (fg 22) B 39 E0 N c22_17 s = some (.ret, s) := x_ret (by rfl) s
theorem x22_15 : execA E C (fg 22) B 39 E0 N c22_15 s = seqX (execA E C (fg 22) B 39 E0 N c22_16 s) (execA E C (fg 22) B 39 E0 N c22_17) := x_seq (by rfl) s
noncomputable def c22_18 : Code := kE c22_14
theorem x22_18 : execA E C (fg 22) B 39 E0 N c22_18 s = some (.normal, s) := x_skip (by rfl) s
theorem x22_14 : execA E C (fg 22) B 39 E0 N c22_14 (φ, H) = condX (fget φ 17) (execA E C (fg 22) B 39 E0 N c22_15 (φ, H)) (execA E C (fg 22) B 39 E0 N c22_18 (φ, H)) := x_cond (by rfl) _
theorem x22_12 : execA E C (fg 22) B 39 E0 N c22_12 s = seqX (execA E C (fg 22) B 39 E0 N c22_13 s) (execA E C (fg 22) B 39 E0 N c22_14) := x_seq (by rfl) s
theorem x22_8 : execA E C (fg 22) B 39 E0 N c22_8 (φ, H) = condX (fget φ 13) (execA E C (fg 22) B 39 E0 N c22_9 (φ, H)) (execA E C (fg 22) B 39 E0 N c22_12 (φ, H)) := x_cond (by rfl) _
theorem x22_6 : execA E C (fg 22) B 39 E0 N c22_6 s = seqX (execA E C (fg 22) B 39 E0 N c22_7 s) (execA E C (fg 22) B 39 E0 N c22_8) := x_seq (by rfl) s
theorem x22_5 : execA E C (fg 22) B 39 E0 N c22_5 s = blockX 0 (fun s => (forget s.1 [17], s.2)) (execA E C (fg 22) B 39 E0 N c22_6 s) := x_block (by rfl) (by rfl) s
noncomputable def c22_19 : Code := kR c22_4
noncomputable def c22_20 : Code := kL c22_19
noncomputable def r22_6 : Array Oper := kO c22_20
noncomputable def o22_6_0 : Oper := opN r22_6 0
noncomputable def o22_6_1 : Oper := opN r22_6 1
theorem x22_20 : execA E C (fg 22) B 39 E0 N c22_20 s = regX (runA E C B 39 r22_6 r22_6.toList s) (fun s => gcM E0 [] (forget s.1 [], s.2)) := x_reg (ops := r22_6) (by rfl) (by rfl) s
theorem r22_6_l : r22_6.toList = [o22_6_0, o22_6_1] := nrfl rfl
theorem s22_6_0 : stepA E C B 39 r22_6 o22_6_0 (φ, H) = some (fput φ 7 (.int .i64 0), H) := nrfl rfl
theorem s22_6_1 : stepA E C B 39 r22_6 o22_6_1 (φ, H) = some (fput φ 8 (.int .i64 134217728), H) := nrfl rfl
noncomputable def c22_21 : Code := kR c22_19
noncomputable def c22_22 : Code := kL c22_21
noncomputable def c22_23 : Code := kB c22_22
noncomputable def c22_24 : Code := kB c22_23
noncomputable def c22_25 : Code := kL c22_24
noncomputable def c22_26 : Code := kL c22_25
noncomputable def r22_7 : Array Oper := kO c22_26
noncomputable def o22_7_0 : Oper := opN r22_7 0
noncomputable def o22_7_1 : Oper := opN r22_7 1
noncomputable def o22_7_2 : Oper := opN r22_7 2
theorem x22_26 : execA E C (fg 22) B 39 E0 N c22_26 s = regX (runA E C B 39 r22_7 r22_7.toList s) (fun s => gcM E0 [21, 22] (forget s.1 [21, 22], s.2)) := x_reg (ops := r22_7) (by rfl) (by rfl) s
theorem r22_7_l : r22_7.toList = [o22_7_0, o22_7_1, o22_7_2] := nrfl rfl
theorem s22_7_0 : stepA E C B 39 r22_7 o22_7_0 (φ, H) = some (fput φ 21 (fget φ 7), H) := nrfl rfl
theorem s22_7_1 : stepA E C B 39 r22_7 o22_7_1 (φ, H) = some (fput φ 22 (fget φ 8), H) := nrfl rfl
theorem s22_7_2 : stepA E C B 39 r22_7 o22_7_2 (φ, H) = stp (some 23) φ H (just (aBin E.T .lss 3 (fget φ 21) (fget φ 22))) := nrfl rfl
noncomputable def c22_27 : Code := kR c22_25
noncomputable def c22_28 : Code := kT c22_27
theorem x22_28 : execA E C (fg 22) B 39 E0 N c22_28 s = some (.normal, s) := x_skip (by rfl) s
noncomputable def c22_29 : Code := kE c22_27
theorem x22_29 : execA E C (fg 22) B 39 E0 N c22_29 s = some (.exit 1, s) := x_exit (by rfl) s
theorem x22_27 : execA E C (fg 22) B 39 E0 N c22_27 (φ, H) = condX (fget φ 23) (execA E C (fg 22) B 39 E0 N c22_28 (φ, H)) (execA E C (fg 22) B 39 E0 N c22_29 (φ, H)) := x_cond (by rfl) _
theorem x22_25 : execA E C (fg 22) B 39 E0 N c22_25 s = seqX (execA E C (fg 22) B 39 E0 N c22_26 s) (execA E C (fg 22) B 39 E0 N c22_27) := x_seq (by rfl) s
noncomputable def c22_30 : Code := kR c22_24
noncomputable def c22_31 : Code := kB c22_30
noncomputable def c22_32 : Code := kL c22_31
noncomputable def r22_8 : Array Oper := kO c22_32
noncomputable def o22_8_0 : Oper := opN r22_8 0
noncomputable def o22_8_1 : Oper := opN r22_8 1
noncomputable def o22_8_2 : Oper := opN r22_8 2
noncomputable def o22_8_3 : Oper := opN r22_8 3
noncomputable def o22_8_4 : Oper := opN r22_8 4
noncomputable def o22_8_5 : Oper := opN r22_8 5
theorem x22_32 : execA E C (fg 22) B 39 E0 N c22_32 s = regX (runA E C B 39 r22_8 r22_8.toList s) (fun s => gcM E0 [23, 24, 25, 26, 27, 28] (forget s.1 [23, 24, 25, 26, 27, 28], s.2)) := x_reg (ops := r22_8) (by rfl) (by rfl) s
theorem r22_8_l : r22_8.toList = [o22_8_0, o22_8_1, o22_8_2, o22_8_3, o22_8_4, o22_8_5] := nrfl rfl
theorem s22_8_0 : stepA E C B 39 r22_8 o22_8_0 (φ, H) = some (fput φ 24 (fget φ 7), H) := nrfl rfl
theorem s22_8_1 : stepA E C B 39 r22_8 o22_8_1 (φ, H) = some (fput φ 25 (fget φ 8), H) := nrfl rfl
theorem s22_8_2 : stepA E C B 39 r22_8 o22_8_2 (φ, H) = stp (some 26) φ H (just (aBin E.T .add 3 (fget φ 24) (fget φ 25))) := nrfl rfl
theorem s22_8_3 : stepA E C B 39 r22_8 o22_8_3 (φ, H) = stp (some 27) φ H (just (aBin E.T .add 3 (fget φ 26) (.int .i64 1))) := nrfl rfl
theorem s22_8_4 : stepA E C B 39 r22_8 o22_8_4 (φ, H) = stp (some 28) φ H (just (aBin E.T .quo 3 (fget φ 27) (.int .i64 2))) := nrfl rfl
theorem s22_8_5 : stepA E C B 39 r22_8 o22_8_5 (φ, H) = some (fput φ 9 (fget φ 28), H) := nrfl rfl
noncomputable def c22_33 : Code := kR c22_31
noncomputable def c22_34 : Code := kL c22_33
noncomputable def r22_9 : Array Oper := kO c22_34
noncomputable def o22_9_0 : Oper := opN r22_9 0
noncomputable def o22_9_1 : Oper := opN r22_9 1
noncomputable def o22_9_2 : Oper := opN r22_9 2
noncomputable def o22_9_3 : Oper := opN r22_9 3
noncomputable def o22_9_4 : Oper := opN r22_9 4
noncomputable def o22_9_5 : Oper := opN r22_9 5
theorem x22_34 : execA E C (fg 22) B 39 E0 N c22_34 s = regX (runA E C B 39 r22_9 r22_9.toList s) (fun s => gcM E0 [29, 30, 31, 32, 33] (forget s.1 [29, 30, 31, 32, 33], s.2)) := x_reg (ops := r22_9) (by rfl) (by rfl) s
theorem r22_9_l : r22_9.toList = [o22_9_0, o22_9_1, o22_9_2, o22_9_3, o22_9_4, o22_9_5] := nrfl rfl
theorem s22_9_0 : stepA E C B 39 r22_9 o22_9_0 (φ, H) = some (fput φ 29 (fget φ 0), H) := nrfl rfl
theorem s22_9_1 : stepA E C B 39 r22_9 o22_9_1 (φ, H) = some (fput φ 30 (fget φ 1), H) := nrfl rfl
theorem s22_9_2 : stepA E C B 39 r22_9 o22_9_2 (φ, H) = some (fput φ 31 (fget φ 9), H) := nrfl rfl
theorem s22_9_3 : stepA E C B 39 r22_9 o22_9_3 (φ, H) = stp (some 32) φ H (aCall C (fun j => B + j * 39 + 32) true 51 [(fget φ 29), (fget φ 30), (fget φ 31)]) := nrfl rfl
theorem s22_9_4 : stepA E C B 39 r22_9 o22_9_4 (φ, H) = stp (some 33) φ H (aCall C (fun j => B + j * 39 + 33) true 33 [(fget φ 32)]) := nrfl rfl
theorem s22_9_5 : stepA E C B 39 r22_9 o22_9_5 (φ, H) = stp (some 34) φ H (just (aBin E.T .lss 3 (fget φ 33) (.int .i64 0))) := nrfl rfl
noncomputable def c22_35 : Code := kR c22_33
noncomputable def c22_36 : Code := kT c22_35
noncomputable def r22_10 : Array Oper := kO c22_36
noncomputable def o22_10_0 : Oper := opN r22_10 0
noncomputable def o22_10_1 : Oper := opN r22_10 1
theorem x22_36 : execA E C (fg 22) B 39 E0 N c22_36 s = regX (runA E C B 39 r22_10 r22_10.toList s) (fun s => gcM E0 [9, 34, 35] (forget s.1 [9, 34, 35], s.2)) := x_reg (ops := r22_10) (by rfl) (by rfl) s
theorem r22_10_l : r22_10.toList = [o22_10_0, o22_10_1] := nrfl rfl
theorem s22_10_0 : stepA E C B 39 r22_10 o22_10_0 (φ, H) = some (fput φ 35 (fget φ 9), H) := nrfl rfl
theorem s22_10_1 : stepA E C B 39 r22_10 o22_10_1 (φ, H) = some (fput φ 7 (fget φ 35), H) := nrfl rfl
noncomputable def c22_37 : Code := kE c22_35
noncomputable def r22_11 : Array Oper := kO c22_37
noncomputable def o22_11_0 : Oper := opN r22_11 0
noncomputable def o22_11_1 : Oper := opN r22_11 1
noncomputable def o22_11_2 : Oper := opN r22_11 2
theorem x22_37 : execA E C (fg 22) B 39 E0 N c22_37 s = regX (runA E C B 39 r22_11 r22_11.toList s) (fun s => gcM E0 [9, 34, 36, 37] (forget s.1 [9, 34, 36, 37], s.2)) := x_reg (ops := r22_11) (by rfl) (by rfl) s
theorem r22_11_l : r22_11.toList = [o22_11_0, o22_11_1, o22_11_2] := nrfl rfl
theorem s22_11_0 : stepA E C B 39 r22_11 o22_11_0 (φ, H) = some (fput φ 36 (fget φ 9), H) := nrfl rfl
theorem s22_11_1 : stepA E C B 39 r22_11 o22_11_1 (φ, H) = stp (some 37) φ H (just (aBin E.T .sub 3 (fget φ 36) (.int .i64 1))) := nrfl rfl
theorem s22_11_2 : stepA E C B 39 r22_11 o22_11_2 (φ, H) = some (fput φ 8 (fget φ 37), H) := nrfl rfl
theorem x22_35 : execA E C (fg 22) B 39 E0 N c22_35 (φ, H) = condX (fget φ 34) (execA E C (fg 22) B 39 E0 N c22_36 (φ, H)) (execA E C (fg 22) B 39 E0 N c22_37 (φ, H)) := x_cond (by rfl) _
theorem x22_33 : execA E C (fg 22) B 39 E0 N c22_33 s = seqX (execA E C (fg 22) B 39 E0 N c22_34 s) (execA E C (fg 22) B 39 E0 N c22_35) := x_seq (by rfl) s
theorem x22_31 : execA E C (fg 22) B 39 E0 N c22_31 s = seqX (execA E C (fg 22) B 39 E0 N c22_32 s) (execA E C (fg 22) B 39 E0 N c22_33) := x_seq (by rfl) s
theorem x22_30 : execA E C (fg 22) B 39 E0 N c22_30 s = blockX 2 (fun s => (forget s.1 [], s.2)) (execA E C (fg 22) B 39 E0 N c22_31 s) := x_block (by rfl) (by rfl) s
theorem x22_24 : execA E C (fg 22) B 39 E0 N c22_24 s = seqX (execA E C (fg 22) B 39 E0 N c22_25 s) (execA E C (fg 22) B 39 E0 N c22_30) := x_seq (by rfl) s
-- a loop of f22: x22_23; body c22_24; slots [8, 7, 1, 0]
theorem x22_23 : execA E C (fg 22) B 39 E0 N c22_23 s = iterA (execA E C (fg 22) B 39 E0 N c22_24) (headA E0) N s := x_loop (by rfl) s
theorem x22_22 : execA E C (fg 22) B 39 E0 N c22_22 s = blockX 1 (fun s => (forget s.1 [0, 1, 8, 23], s.2)) (execA E C (fg 22) B 39 E0 N c22_23 s) := x_block (by rfl) (by rfl) s
noncomputable def c22_38 : Code := kR c22_21
noncomputable def c22_39 : Code := kL c22_38
noncomputable def r22_12 : Array Oper := kO c22_39
noncomputable def o22_12_0 : Oper := opN r22_12 0
noncomputable def o22_12_1 : Oper := opN r22_12 1
noncomputable def o22_12_2 : Oper := opN r22_12 2
theorem x22_39 : execA E C (fg 22) B 39 E0 N c22_39 s = regX (runA E C B 39 r22_12 r22_12.toList s) (fun s => gcM E0 [7, 38] (forget s.1 [7, 38], s.2)) := x_reg (ops := r22_12) (by rfl) (by rfl) s
theorem r22_12_l : r22_12.toList = [o22_12_0, o22_12_1, o22_12_2] := nrfl rfl
theorem s22_12_0 : stepA E C B 39 r22_12 o22_12_0 (φ, H) = some (fput φ 38 (fget φ 7), H) := nrfl rfl
theorem s22_12_1 : stepA E C B 39 r22_12 o22_12_1 (φ, H) = some (fput φ 4 (fget φ 38), H) := nrfl rfl
theorem s22_12_2 : stepA E C B 39 r22_12 o22_12_2 (φ, H) = some (fput φ 5 (.int .i64 0), H) := nrfl rfl
noncomputable def c22_40 : Code := kR c22_38
theorem x22_40 : execA E C (fg 22) B 39 E0 N c22_40 s = some (.ret, s) := x_ret (by rfl) s
theorem x22_38 : execA E C (fg 22) B 39 E0 N c22_38 s = seqX (execA E C (fg 22) B 39 E0 N c22_39 s) (execA E C (fg 22) B 39 E0 N c22_40) := x_seq (by rfl) s
theorem x22_21 : execA E C (fg 22) B 39 E0 N c22_21 s = seqX (execA E C (fg 22) B 39 E0 N c22_22 s) (execA E C (fg 22) B 39 E0 N c22_38) := x_seq (by rfl) s
theorem x22_19 : execA E C (fg 22) B 39 E0 N c22_19 s = seqX (execA E C (fg 22) B 39 E0 N c22_20 s) (execA E C (fg 22) B 39 E0 N c22_21) := x_seq (by rfl) s
theorem x22_4 : execA E C (fg 22) B 39 E0 N c22_4 s = seqX (execA E C (fg 22) B 39 E0 N c22_5 s) (execA E C (fg 22) B 39 E0 N c22_19) := x_seq (by rfl) s
theorem x22_2 : execA E C (fg 22) B 39 E0 N c22_2 s = seqX (execA E C (fg 22) B 39 E0 N c22_3 s) (execA E C (fg 22) B 39 E0 N c22_4) := x_seq (by rfl) s
theorem x22_0 : execA E C (fg 22) B 39 E0 N c22_0 s = seqX (execA E C (fg 22) B 39 E0 N c22_1 s) (execA E C (fg 22) B 39 E0 N c22_2) := x_seq (by rfl) s
theorem fi_22 : fInfo E 22 = some ⟨39, #[.tmp 4, .tmp 5], c22_0⟩ := nrfl rfl
theorem b_22 (args : List AV) : bodyA E C fg N 22 args H B = bodyX E [.tmp 4, .tmp 5] (execA E C (fg 22) B 39 H N c22_0 (frame0 args 0 [], H)) := bodyA_eq fi_22 args H
/-! ### f4: novaculite/novaculitelaw07.PropMoved -/
noncomputable def c4_0 : Code := kBody Proofs.Try.f4
noncomputable def c4_1 : Code := kL c4_0
noncomputable def r4_0 : Array Oper := kO c4_1
noncomputable def o4_0_0 : Oper := opN r4_0 0
noncomputable def o4_0_1 : Oper := opN r4_0 1
theorem x4_1 : execA E C (fg 4) B 105 E0 N c4_1 s = regX (runA E C B 105 r4_0 r4_0.toList s) (fun s => gcM E0 [0, 4] (forget s.1 [0, 4], s.2)) := x_reg (ops := r4_0) (by rfl) (by rfl) s
theorem r4_0_l : r4_0.toList = [o4_0_0, o4_0_1] := nrfl rfl
theorem s4_0_0 : stepA E C B 105 r4_0 o4_0_0 (φ, H) = stp (some 2) φ H (opBox (B + 2) (acells (fget φ 0))) := nrfl rfl
theorem s4_0_1 : stepA E C B 105 r4_0 o4_0_1 (φ, H) = some (fput φ 4 (.bool false), H) := nrfl rfl
noncomputable def c4_2 : Code := kR c4_0
noncomputable def c4_3 : Code := kL c4_2
noncomputable def r4_1 : Array Oper := kO c4_3
noncomputable def o4_1_0 : Oper := opN r4_1 0
noncomputable def o4_1_1 : Oper := opN r4_1 1
noncomputable def o4_1_2 : Oper := opN r4_1 2
noncomputable def o4_1_3 : Oper := opN r4_1 3
theorem x4_3 : execA E C (fg 4) B 105 E0 N c4_3 s = regX (runA E C B 105 r4_1 r4_1.toList s) (fun s => gcM E0 [2, 13, 14] (forget s.1 [2, 13, 14], s.2)) := x_reg (ops := r4_1) (by rfl) (by rfl) s
theorem r4_1_l : r4_1.toList = [o4_1_0, o4_1_1, o4_1_2, o4_1_3] := nrfl rfl
theorem s4_1_0 : stepA E C B 105 r4_1 o4_1_0 (φ, H) = stp (some 13) φ H (just (aLoad E.T 25 (fget φ 2))) := nrfl rfl
theorem s4_1_1 : stepA E C B 105 r4_1 o4_1_1 (φ, H) = stp (some 14) φ H (aCall C (fun j => B + j * 105 + 14) true 7 [(fget φ 13), (.int .i64 5)]) := nrfl rfl
theorem s4_1_2 : stepA E C B 105 r4_1 o4_1_2 (φ, H) = stp (some 5) φ H (opBox (B + 5) (zeroCells E.T 27)) := nrfl rfl
theorem s4_1_3 : stepA E C B 105 r4_1 o4_1_3 (φ, H) = stp none φ H (opStore E.T 27 (fget φ 5) (fget φ 14)) := nrfl rfl
noncomputable def c4_4 : Code := kR c4_2
noncomputable def c4_5 : Code := kL c4_4
noncomputable def r4_2 : Array Oper := kO c4_5
noncomputable def o4_2_0 : Oper := opN r4_2 0
noncomputable def o4_2_1 : Oper := opN r4_2 1
noncomputable def o4_2_2 : Oper := opN r4_2 2
noncomputable def o4_2_3 : Oper := opN r4_2 3
noncomputable def o4_2_4 : Oper := opN r4_2 4
noncomputable def o4_2_5 : Oper := opN r4_2 5
noncomputable def o4_2_6 : Oper := opN r4_2 6
theorem x4_5 : execA E C (fg 4) B 105 E0 N c4_5 s = regX (runA E C B 105 r4_2 r4_2.toList s) (fun s => gcM E0 [1, 15, 16, 17, 18, 19] (forget s.1 [1, 15, 16, 17, 18, 19], s.2)) := x_reg (ops := r4_2) (by rfl) (by rfl) s
theorem r4_2_l : r4_2.toList = [o4_2_0, o4_2_1, o4_2_2, o4_2_3, o4_2_4, o4_2_5, o4_2_6] := nrfl rfl
theorem s4_2_0 : stepA E C B 105 r4_2 o4_2_0 (φ, H) = some (fput φ 15 (fget φ 1), H) := nrfl rfl
theorem s4_2_1 : stepA E C B 105 r4_2 o4_2_1 (φ, H) = stp (some 16) φ H (justO (aConv E.T 5 3 (fget φ 15))) := nrfl rfl
theorem s4_2_2 : stepA E C B 105 r4_2 o4_2_2 (φ, H) = stp (some 17) φ H (just (aLoad E.T 27 (fget φ 5))) := nrfl rfl
theorem s4_2_3 : stepA E C B 105 r4_2 o4_2_3 (φ, H) = stp (some 18) φ H (aBuiltin E.T (B + 18) .len #[27] [(fget φ 17)]) := nrfl rfl
theorem s4_2_4 : stepA E C B 105 r4_2 o4_2_4 (φ, H) = stp (some 19) φ H (just (aBin E.T .rem 3 (fget φ 16) (fget φ 18))) := nrfl rfl
theorem s4_2_5 : stepA E C B 105 r4_2 o4_2_5 (φ, H) = stp (some 6) φ H (opBox (B + 6) (zeroCells E.T 3)) := nrfl rfl
theorem s4_2_6 : stepA E C B 105 r4_2 o4_2_6 (φ, H) = stp none φ H (opStore E.T 3 (fget φ 6) (fget φ 19)) := nrfl rfl
noncomputable def c4_6 : Code := kR c4_4
noncomputable def c4_7 : Code := kL c4_6
noncomputable def r4_3 : Array Oper := kO c4_7
noncomputable def o4_3_0 : Oper := opN r4_3 0
noncomputable def o4_3_1 : Oper := opN r4_3 1
noncomputable def o4_3_2 : Oper := opN r4_3 2
noncomputable def o4_3_3 : Oper := opN r4_3 3
noncomputable def o4_3_4 : Oper := opN r4_3 4
noncomputable def o4_3_5 : Oper := opN r4_3 5
noncomputable def o4_3_6 : Oper := opN r4_3 6
theorem x4_7 : execA E C (fg 4) B 105 E0 N c4_7 s = regX (runA E C B 105 r4_3 r4_3.toList s) (fun s => gcM E0 [20, 21, 22, 23, 24] (forget s.1 [20, 21, 22, 23, 24], s.2)) := x_reg (ops := r4_3) (by rfl) (by rfl) s
theorem r4_3_l : r4_3.toList = [o4_3_0, o4_3_1, o4_3_2, o4_3_3, o4_3_4, o4_3_5, o4_3_6] := nrfl rfl
theorem s4_3_0 : stepA E C B 105 r4_3 o4_3_0 (φ, H) = stp (some 21) φ H (just (aLoad E.T 27 (fget φ 5))) := nrfl rfl
theorem s4_3_1 : stepA E C B 105 r4_3 o4_3_1 (φ, H) = stp (some 22) φ H (aCall C (fun j => B + j * 105 + 22) true 21 [(fget φ 21)]) := nrfl rfl
theorem s4_3_2 : stepA E C B 105 r4_3 o4_3_2 (φ, H) = some (fput φ 20 (fget φ 22), H) := nrfl rfl
theorem s4_3_3 : stepA E C B 105 r4_3 o4_3_3 (φ, H) = stp (some 23) φ H (opExtract (fget φ 20) 0) := nrfl rfl
theorem s4_3_4 : stepA E C B 105 r4_3 o4_3_4 (φ, H) = stp (some 24) φ H (opExtract (fget φ 20) 1) := nrfl rfl
theorem s4_3_5 : stepA E C B 105 r4_3 o4_3_5 (φ, H) = some (fput φ 7 (fget φ 23), H) := nrfl rfl
theorem s4_3_6 : stepA E C B 105 r4_3 o4_3_6 (φ, H) = some (fput φ 8 (fget φ 24), H) := nrfl rfl
noncomputable def c4_8 : Code := kR c4_6
noncomputable def c4_9 : Code := kL c4_8
noncomputable def r4_4 : Array Oper := kO c4_9
noncomputable def o4_4_0 : Oper := opN r4_4 0
theorem x4_9 : execA E C (fg 4) B 105 E0 N c4_9 s = regX (runA E C B 105 r4_4 r4_4.toList s) (fun s => gcM E0 [] (forget s.1 [], s.2)) := x_reg (ops := r4_4) (by rfl) (by rfl) s
theorem r4_4_l : r4_4.toList = [o4_4_0] := nrfl rfl
theorem s4_4_0 : stepA E C B 105 r4_4 o4_4_0 (φ, H) = some (fput φ 9 (.int .i64 0), H) := nrfl rfl
noncomputable def c4_10 : Code := kR c4_8
noncomputable def c4_11 : Code := kL c4_10
noncomputable def c4_12 : Code := kL c4_11
noncomputable def r4_5 : Array Oper := kO c4_12
noncomputable def o4_5_0 : Oper := opN r4_5 0
noncomputable def o4_5_1 : Oper := opN r4_5 1
noncomputable def o4_5_2 : Oper := opN r4_5 2
theorem x4_12 : execA E C (fg 4) B 105 E0 N c4_12 s = regX (runA E C B 105 r4_5 r4_5.toList s) (fun s => gcM E0 [25, 26] (forget s.1 [25, 26], s.2)) := x_reg (ops := r4_5) (by rfl) (by rfl) s
theorem r4_5_l : r4_5.toList = [o4_5_0, o4_5_1, o4_5_2] := nrfl rfl
theorem s4_5_0 : stepA E C B 105 r4_5 o4_5_0 (φ, H) = stp (some 25) φ H (just (aLoad E.T 27 (fget φ 5))) := nrfl rfl
theorem s4_5_1 : stepA E C B 105 r4_5 o4_5_1 (φ, H) = stp (some 26) φ H (aBuiltin E.T (B + 26) .len #[27] [(fget φ 25)]) := nrfl rfl
theorem s4_5_2 : stepA E C B 105 r4_5 o4_5_2 (φ, H) = some (fput φ 10 (fget φ 26), H) := nrfl rfl
noncomputable def c4_13 : Code := kR c4_11
noncomputable def c4_14 : Code := kB c4_13
noncomputable def c4_15 : Code := kB c4_14
noncomputable def c4_16 : Code := kL c4_15
noncomputable def c4_17 : Code := kL c4_16
noncomputable def r4_6 : Array Oper := kO c4_17
noncomputable def o4_6_0 : Oper := opN r4_6 0
noncomputable def o4_6_1 : Oper := opN r4_6 1
theorem x4_17 : execA E C (fg 4) B 105 E0 N c4_17 s = regX (runA E C B 105 r4_6 r4_6.toList s) (fun s => gcM E0 [27] (forget s.1 [27], s.2)) := x_reg (ops := r4_6) (by rfl) (by rfl) s
theorem r4_6_l : r4_6.toList = [o4_6_0, o4_6_1] := nrfl rfl
theorem s4_6_0 : stepA E C B 105 r4_6 o4_6_0 (φ, H) = some (fput φ 27 (fget φ 10), H) := nrfl rfl
theorem s4_6_1 : stepA E C B 105 r4_6 o4_6_1 (φ, H) = stp (some 28) φ H (just (aBin E.T .gtr 3 (fget φ 27) (.int .i64 0))) := nrfl rfl
noncomputable def c4_18 : Code := kR c4_16
noncomputable def c4_19 : Code := kT c4_18
theorem x4_19 : execA E C (fg 4) B 105 E0 N c4_19 s = some (.normal, s) := x_skip (by rfl) s
noncomputable def c4_20 : Code := kE c4_18
theorem x4_20 : execA E C (fg 4) B 105 E0 N c4_20 s = some (.exit 0, s) := x_exit (by rfl) s
theorem x4_18 : execA E C (fg 4) B 105 E0 N c4_18 (φ, H) = condX (fget φ 28) (execA E C (fg 4) B 105 E0 N c4_19 (φ, H)) (execA E C (fg 4) B 105 E0 N c4_20 (φ, H)) := x_cond (by rfl) _
theorem x4_16 : execA E C (fg 4) B 105 E0 N c4_16 s = seqX (execA E C (fg 4) B 105 E0 N c4_17 s) (execA E C (fg 4) B 105 E0 N c4_18) := x_seq (by rfl) s
noncomputable def c4_21 : Code := kR c4_15
noncomputable def c4_22 : Code := kL c4_21
noncomputable def c4_23 : Code := kB c4_22
noncomputable def c4_24 : Code := kL c4_23
noncomputable def r4_8 : Array Oper := kO c4_24
noncomputable def o4_8_0 : Oper := opN r4_8 0
noncomputable def o4_8_1 : Oper := opN r4_8 1
noncomputable def o4_8_2 : Oper := opN r4_8 2
noncomputable def o4_8_3 : Oper := opN r4_8 3
noncomputable def o4_8_4 : Oper := opN r4_8 4
theorem x4_24 : execA E C (fg 4) B 105 E0 N c4_24 s = regX (runA E C B 105 r4_8 r4_8.toList s) (fun s => gcM E0 [28, 31, 32, 33, 34] (forget s.1 [28, 31, 32, 33, 34], s.2)) := x_reg (ops := r4_8) (by rfl) (by rfl) s
theorem r4_8_l : r4_8.toList = [o4_8_0, o4_8_1, o4_8_2, o4_8_3, o4_8_4] := nrfl rfl
theorem s4_8_0 : stepA E C B 105 r4_8 o4_8_0 (φ, H) = stp (some 31) φ H (just (aLoad E.T 27 (fget φ 5))) := nrfl rfl
theorem s4_8_1 : stepA E C B 105 r4_8 o4_8_1 (φ, H) = some (fput φ 32 (fget φ 10), H) := nrfl rfl
theorem s4_8_2 : stepA E C B 105 r4_8 o4_8_2 (φ, H) = stp (some 33) φ H (just (aSlice E.T 27 (fget φ 31) none (some (fget φ 32)) none)) := nrfl rfl
theorem s4_8_3 : stepA E C B 105 r4_8 o4_8_3 (φ, H) = stp (some 34) φ H (aCall C (fun j => B + j * 105 + 34) true 8 [(fget φ 33)]) := nrfl rfl
theorem s4_8_4 : stepA E C B 105 r4_8 o4_8_4 (φ, H) = stp (some 35) φ H (just (aBin E.T .geq 3 (fget φ 34) (.int .i64 0))) := nrfl rfl
noncomputable def c4_25 : Code := kR c4_23
noncomputable def c4_26 : Code := kT c4_25
noncomputable def r4_9 : Array Oper := kO c4_26
noncomputable def o4_9_0 : Oper := opN r4_9 0
noncomputable def o4_9_1 : Oper := opN r4_9 1
theorem x4_26 : execA E C (fg 4) B 105 E0 N c4_26 s = regX (runA E C B 105 r4_9 r4_9.toList s) (fun s => gcM E0 [35, 36] (forget s.1 [35, 36], s.2)) := x_reg (ops := r4_9) (by rfl) (by rfl) s
theorem r4_9_l : r4_9.toList = [o4_9_0, o4_9_1] := nrfl rfl
theorem s4_9_0 : stepA E C B 105 r4_9 o4_9_0 (φ, H) = some (fput φ 36 (fget φ 10), H) := nrfl rfl
theorem s4_9_1 : stepA E C B 105 r4_9 o4_9_1 (φ, H) = some (fput φ 9 (fget φ 36), H) := nrfl rfl
noncomputable def c4_27 : Code := kE c4_25
theorem x4_27 : execA E C (fg 4) B 105 E0 N c4_27 s = some (.normal, s) := x_skip (by rfl) s
theorem x4_25 : execA E C (fg 4) B 105 E0 N c4_25 (φ, H) = condX (fget φ 35) (execA E C (fg 4) B 105 E0 N c4_26 (φ, H)) (execA E C (fg 4) B 105 E0 N c4_27 (φ, H)) := x_cond (by rfl) _
theorem x4_23 : execA E C (fg 4) B 105 E0 N c4_23 s = seqX (execA E C (fg 4) B 105 E0 N c4_24 s) (execA E C (fg 4) B 105 E0 N c4_25) := x_seq (by rfl) s
theorem x4_22 : execA E C (fg 4) B 105 E0 N c4_22 s = blockX 1 (fun s => (forget s.1 [35], s.2)) (execA E C (fg 4) B 105 E0 N c4_23 s) := x_block (by rfl) (by rfl) s
noncomputable def c4_28 : Code := kR c4_21
noncomputable def r4_7 : Array Oper := kO c4_28
noncomputable def o4_7_0 : Oper := opN r4_7 0
noncomputable def o4_7_1 : Oper := opN r4_7 1
noncomputable def o4_7_2 : Oper := opN r4_7 2
theorem x4_28 : execA E C (fg 4) B 105 E0 N c4_28 s = regX (runA E C B 105 r4_7 r4_7.toList s) (fun s => gcM E0 [29, 30] (forget s.1 [29, 30], s.2)) := x_reg (ops := r4_7) (by rfl) (by rfl) s
theorem r4_7_l : r4_7.toList = [o4_7_0, o4_7_1, o4_7_2] := nrfl rfl
theorem s4_7_0 : stepA E C B 105 r4_7 o4_7_0 (φ, H) = some (fput φ 29 (fget φ 10), H) := nrfl rfl
theorem s4_7_1 : stepA E C B 105 r4_7 o4_7_1 (φ, H) = stp (some 30) φ H (just (aBin E.T .sub 3 (fget φ 29) (.int .i64 1))) := nrfl rfl
theorem s4_7_2 : stepA E C B 105 r4_7 o4_7_2 (φ, H) = some (fput φ 10 (fget φ 30), H) := nrfl rfl
theorem x4_21 : execA E C (fg 4) B 105 E0 N c4_21 s = seqX (execA E C (fg 4) B 105 E0 N c4_22 s) (execA E C (fg 4) B 105 E0 N c4_28) := x_seq (by rfl) s
theorem x4_15 : execA E C (fg 4) B 105 E0 N c4_15 s = seqX (execA E C (fg 4) B 105 E0 N c4_16 s) (execA E C (fg 4) B 105 E0 N c4_21) := x_seq (by rfl) s
-- a loop of f4: x4_14; body c4_15; slots [10, 9, 8, 7, 6, 5]
theorem x4_14 : execA E C (fg 4) B 105 E0 N c4_14 s = iterA (execA E C (fg 4) B 105 E0 N c4_15) (headA E0) N s := x_loop (by rfl) s
theorem x4_13 : execA E C (fg 4) B 105 E0 N c4_13 s = blockX 0 (fun s => (forget s.1 [10, 28], s.2)) (execA E C (fg 4) B 105 E0 N c4_14 s) := x_block (by rfl) (by rfl) s
theorem x4_11 : execA E C (fg 4) B 105 E0 N c4_11 s = seqX (execA E C (fg 4) B 105 E0 N c4_12 s) (execA E C (fg 4) B 105 E0 N c4_13) := x_seq (by rfl) s
noncomputable def c4_29 : Code := kR c4_10
noncomputable def c4_30 : Code := kL c4_29
noncomputable def c4_31 : Code := kL c4_30
noncomputable def r4_10 : Array Oper := kO c4_31
noncomputable def o4_10_0 : Oper := opN r4_10 0
noncomputable def o4_10_1 : Oper := opN r4_10 1
noncomputable def o4_10_2 : Oper := opN r4_10 2
noncomputable def o4_10_3 : Oper := opN r4_10 3
noncomputable def o4_10_4 : Oper := opN r4_10 4
noncomputable def o4_10_5 : Oper := opN r4_10 5
noncomputable def o4_10_6 : Oper := opN r4_10 6
noncomputable def o4_10_7 : Oper := opN r4_10 7
noncomputable def o4_10_8 : Oper := opN r4_10 8
noncomputable def o4_10_9 : Oper := opN r4_10 9
noncomputable def o4_10_10 : Oper := opN r4_10 10
noncomputable def o4_10_11 : Oper := opN r4_10 11
noncomputable def o4_10_12 : Oper := opN r4_10 12
noncomputable def o4_10_13 : Oper := opN r4_10 13
noncomputable def o4_10_14 : Oper := opN r4_10 14
noncomputable def o4_10_15 : Oper := opN r4_10 15
noncomputable def o4_10_16 : Oper := opN r4_10 16
noncomputable def o4_10_17 : Oper := opN r4_10 17
noncomputable def o4_10_18 : Oper := opN r4_10 18
noncomputable def o4_10_19 : Oper := opN r4_10 19
noncomputable def o4_10_20 : Oper := opN r4_10 20
noncomputable def o4_10_21 : Oper := opN r4_10 21
noncomputable def o4_10_22 : Oper := opN r4_10 22
theorem x4_31 : execA E C (fg 4) B 105 E0 N c4_31 s = regX (runA E C B 105 r4_10 r4_10.toList s) (fun s => gcM E0 [7, 8, 9, 37, 38, 39, 40, 41, 42, 43, 44, 45, 46, 47, 48, 49, 50, 51, 52, 53, 54, 55, 56, 57, 58] (forget s.1 [7, 8, 9, 37, 38, 39, 40, 41, 42, 43, 44, 45, 46, 47, 48, 49, 50, 51, 52, 53, 54, 55, 56, 57, 58], s.2)) := x_reg (ops := r4_10) (by rfl) (by rfl) s
theorem r4_10_l : r4_10.toList = [o4_10_0, o4_10_1, o4_10_2, o4_10_3, o4_10_4, o4_10_5, o4_10_6, o4_10_7, o4_10_8, o4_10_9, o4_10_10, o4_10_11, o4_10_12, o4_10_13, o4_10_14, o4_10_15, o4_10_16, o4_10_17, o4_10_18, o4_10_19, o4_10_20, o4_10_21, o4_10_22] := nrfl rfl
theorem s4_10_0 : stepA E C B 105 r4_10 o4_10_0 (φ, H) = some (fput φ 37 (fget φ 9), H) := nrfl rfl
theorem s4_10_1 : stepA E C B 105 r4_10 o4_10_1 (φ, H) = stp (some 38) φ H (just (aBin E.T .eql 3 (fget φ 37) (.int .i64 0))) := nrfl rfl
theorem s4_10_2 : stepA E C B 105 r4_10 o4_10_2 (φ, H) = some (fput φ 39 (fget φ 38), H) := nrfl rfl
theorem s4_10_3 : stepA E C B 105 r4_10 o4_10_3 (φ, H) = gd φ 39 true (fun φ => some (fput φ 40 (.tup []), H)) (fun φ => some (fput φ 40 (fget φ 8), H)) := s_gd (j := 2) (oj := o4_10_2) rfl rfl rfl (fun _ => rfl) (fun _ => rfl)
theorem s4_10_4 : stepA E C B 105 r4_10 o4_10_4 (φ, H) = gd φ 39 true (fun φ => some (fput φ 41 (.tup []), H)) (fun φ => stp (some 41) φ H (just (aBin E.T .neq 30 (fget φ 40) (.int .i64 13)))) := s_gd (j := 2) (oj := o4_10_2) rfl rfl rfl (fun _ => rfl) (fun _ => rfl)
theorem s4_10_5 : stepA E C B 105 r4_10 o4_10_5 (φ, H) = gd φ 39 true (fun φ => some (fput φ 42 (.tup []), H)) (fun φ => some (fput φ 42 (fget φ 41), H)) := s_gd (j := 2) (oj := o4_10_2) rfl rfl rfl (fun _ => rfl) (fun _ => rfl)
theorem s4_10_6 : stepA E C B 105 r4_10 o4_10_6 (φ, H) = gd φ 42 false (fun φ => some (fput φ 43 (.tup []), H)) (fun φ => some (fput φ 43 (fget φ 7), H)) := s_gd (j := 5) (oj := o4_10_5) rfl rfl rfl (fun _ => rfl) (fun _ => rfl)
theorem s4_10_7 : stepA E C B 105 r4_10 o4_10_7 (φ, H) = gd φ 42 false (fun φ => some (fput φ 44 (.tup []), H)) (fun φ => stp (some 44) φ H (just (aBin E.T .neq 3 (fget φ 43) (.int .i64 0)))) := s_gd (j := 5) (oj := o4_10_5) rfl rfl rfl (fun _ => rfl) (fun _ => rfl)
theorem s4_10_8 : stepA E C B 105 r4_10 o4_10_8 (φ, H) = gd φ 39 true (fun φ => some (fput φ 45 (.tup []), H)) (fun φ => stp (some 45) φ H (opPick (fget φ 42) (.bool true) (fget φ 44))) := s_gd (j := 2) (oj := o4_10_2) rfl rfl rfl (fun _ => rfl) (fun _ => rfl)
theorem s4_10_9 : stepA E C B 105 r4_10 o4_10_9 (φ, H) = stp (some 46) φ H (opPick (fget φ 39) (fget φ 45) (.bool false)) := nrfl rfl
theorem s4_10_10 : stepA E C B 105 r4_10 o4_10_10 (φ, H) = some (fput φ 47 (fget φ 46), H) := nrfl rfl
theorem s4_10_11 : stepA E C B 105 r4_10 o4_10_11 (φ, H) = gd φ 47 false (fun φ => some (fput φ 48 (.tup []), H)) (fun φ => some (fput φ 48 (fget φ 9), H)) := s_gd (j := 10) (oj := o4_10_10) rfl rfl rfl (fun _ => rfl) (fun _ => rfl)
theorem s4_10_12 : stepA E C B 105 r4_10 o4_10_12 (φ, H) = gd φ 47 false (fun φ => some (fput φ 49 (.tup []), H)) (fun φ => stp (some 49) φ H (just (aBin E.T .gtr 3 (fget φ 48) (.int .i64 0)))) := s_gd (j := 10) (oj := o4_10_10) rfl rfl rfl (fun _ => rfl) (fun _ => rfl)
theorem s4_10_13 : stepA E C B 105 r4_10 o4_10_13 (φ, H) = gd φ 47 false (fun φ => some (fput φ 50 (.tup []), H)) (fun φ => some (fput φ 50 (fget φ 49), H)) := s_gd (j := 10) (oj := o4_10_10) rfl rfl rfl (fun _ => rfl) (fun _ => rfl)
theorem s4_10_14 : stepA E C B 105 r4_10 o4_10_14 (φ, H) = gd φ 50 true (fun φ => some (fput φ 51 (.tup []), H)) (fun φ => some (fput φ 51 (fget φ 8), H)) := s_gd (j := 13) (oj := o4_10_13) rfl rfl rfl (fun _ => rfl) (fun _ => rfl)
theorem s4_10_15 : stepA E C B 105 r4_10 o4_10_15 (φ, H) = gd φ 50 true (fun φ => some (fput φ 52 (.tup []), H)) (fun φ => stp (some 52) φ H (just (aBin E.T .neq 30 (fget φ 51) (.int .i64 0)))) := s_gd (j := 13) (oj := o4_10_13) rfl rfl rfl (fun _ => rfl) (fun _ => rfl)
theorem s4_10_16 : stepA E C B 105 r4_10 o4_10_16 (φ, H) = gd φ 50 true (fun φ => some (fput φ 53 (.tup []), H)) (fun φ => some (fput φ 53 (fget φ 52), H)) := s_gd (j := 13) (oj := o4_10_13) rfl rfl rfl (fun _ => rfl) (fun _ => rfl)
theorem s4_10_17 : stepA E C B 105 r4_10 o4_10_17 (φ, H) = gd φ 53 false (fun φ => some (fput φ 54 (.tup []), H)) (fun φ => some (fput φ 54 (fget φ 7), H)) := s_gd (j := 16) (oj := o4_10_16) rfl rfl rfl (fun _ => rfl) (fun _ => rfl)
theorem s4_10_18 : stepA E C B 105 r4_10 o4_10_18 (φ, H) = gd φ 53 false (fun φ => some (fput φ 55 (.tup []), H)) (fun φ => some (fput φ 55 (fget φ 9), H)) := s_gd (j := 16) (oj := o4_10_16) rfl rfl rfl (fun _ => rfl) (fun _ => rfl)
theorem s4_10_19 : stepA E C B 105 r4_10 o4_10_19 (φ, H) = gd φ 53 false (fun φ => some (fput φ 56 (.tup []), H)) (fun φ => stp (some 56) φ H (just (aBin E.T .neq 3 (fget φ 54) (fget φ 55)))) := s_gd (j := 16) (oj := o4_10_16) rfl rfl rfl (fun _ => rfl) (fun _ => rfl)
theorem s4_10_20 : stepA E C B 105 r4_10 o4_10_20 (φ, H) = gd φ 50 true (fun φ => some (fput φ 57 (.tup []), H)) (fun φ => stp (some 57) φ H (opPick (fget φ 53) (.bool true) (fget φ 56))) := s_gd (j := 13) (oj := o4_10_13) rfl rfl rfl (fun _ => rfl) (fun _ => rfl)
theorem s4_10_21 : stepA E C B 105 r4_10 o4_10_21 (φ, H) = gd φ 47 false (fun φ => some (fput φ 58 (.tup []), H)) (fun φ => stp (some 58) φ H (opPick (fget φ 50) (fget φ 57) (.bool false))) := s_gd (j := 10) (oj := o4_10_10) rfl rfl rfl (fun _ => rfl) (fun _ => rfl)
theorem s4_10_22 : stepA E C B 105 r4_10 o4_10_22 (φ, H) = stp (some 59) φ H (opPick (fget φ 47) (.bool true) (fget φ 58)) := nrfl rfl
noncomputable def c4_32 : Code := kR c4_30
noncomputable def c4_33 : Code := kT c4_32
noncomputable def c4_34 : Code := kL c4_33
noncomputable def r4_11 : Array Oper := kO c4_34
noncomputable def o4_11_0 : Oper := opN r4_11 0
theorem x4_34 : execA E C (fg 4) B 105 E0 N c4_34 s = regX (runA E C B 105 r4_11 r4_11.toList s) (fun s => gcM E0 [5, 6, 59] (forget s.1 [5, 6, 59], s.2)) := x_reg (ops := r4_11) (by rfl) (by rfl) s
theorem r4_11_l : r4_11.toList = [o4_11_0] := nrfl rfl
theorem s4_11_0 : stepA E C B 105 r4_11 o4_11_0 (φ, H) = some (fput φ 4 (.bool false), H) := nrfl rfl
noncomputable def c4_35 : Code := kR c4_33
theorem x4_35 : execA E C (fg 4) B 105 E0 N c4_35 s = some (.ret, s) := x_ret (by rfl) s
theorem x4_33 : execA E C (fg 4) B 105 E0 N c4_33 s = seqX (execA E C (fg 4) B 105 E0 N c4_34 s) (execA E C (fg 4) B 105 E0 N c4_35) := x_seq (by rfl) s
noncomputable def c4_36 : Code := kE c4_32
theorem x4_36 : execA E C (fg 4) B 105 E0 N c4_36 s = some (.normal, s) := x_skip (by rfl) s
theorem x4_32 : execA E C (fg 4) B 105 E0 N c4_32 (φ, H) = condX (fget φ 59) (execA E C (fg 4) B 105 E0 N c4_33 (φ, H)) (execA E C (fg 4) B 105 E0 N c4_36 (φ, H)) := x_cond (by rfl) _
theorem x4_30 : execA E C (fg 4) B 105 E0 N c4_30 s = seqX (execA E C (fg 4) B 105 E0 N c4_31 s) (execA E C (fg 4) B 105 E0 N c4_32) := x_seq (by rfl) s
noncomputable def c4_37 : Code := kR c4_29
noncomputable def c4_38 : Code := kL c4_37
noncomputable def r4_12 : Array Oper := kO c4_38
noncomputable def o4_12_0 : Oper := opN r4_12 0
noncomputable def o4_12_1 : Oper := opN r4_12 1
noncomputable def o4_12_2 : Oper := opN r4_12 2
noncomputable def o4_12_3 : Oper := opN r4_12 3
noncomputable def o4_12_4 : Oper := opN r4_12 4
noncomputable def o4_12_5 : Oper := opN r4_12 5
noncomputable def o4_12_6 : Oper := opN r4_12 6
noncomputable def o4_12_7 : Oper := opN r4_12 7
theorem x4_38 : execA E C (fg 4) B 105 E0 N c4_38 s = regX (runA E C B 105 r4_12 r4_12.toList s) (fun s => gcM E0 [59, 60, 61, 62, 63, 64, 65] (forget s.1 [59, 60, 61, 62, 63, 64, 65], s.2)) := x_reg (ops := r4_12) (by rfl) (by rfl) s
theorem r4_12_l : r4_12.toList = [o4_12_0, o4_12_1, o4_12_2, o4_12_3, o4_12_4, o4_12_5, o4_12_6, o4_12_7] := nrfl rfl
theorem s4_12_0 : stepA E C B 105 r4_12 o4_12_0 (φ, H) = stp (some 61) φ H (just (aLoad E.T 27 (fget φ 5))) := nrfl rfl
theorem s4_12_1 : stepA E C B 105 r4_12 o4_12_1 (φ, H) = stp (some 62) φ H (just (aLoad E.T 3 (fget φ 6))) := nrfl rfl
theorem s4_12_2 : stepA E C B 105 r4_12 o4_12_2 (φ, H) = stp (some 63) φ H (aCall C (fun j => B + j * 105 + 63) true 22 [(fget φ 61), (fget φ 62)]) := nrfl rfl
theorem s4_12_3 : stepA E C B 105 r4_12 o4_12_3 (φ, H) = some (fput φ 60 (fget φ 63), H) := nrfl rfl
theorem s4_12_4 : stepA E C B 105 r4_12 o4_12_4 (φ, H) = stp (some 64) φ H (opExtract (fget φ 60) 0) := nrfl rfl
theorem s4_12_5 : stepA E C B 105 r4_12 o4_12_5 (φ, H) = stp (some 65) φ H (opExtract (fget φ 60) 1) := nrfl rfl
theorem s4_12_6 : stepA E C B 105 r4_12 o4_12_6 (φ, H) = some (fput φ 11 (fget φ 64), H) := nrfl rfl
theorem s4_12_7 : stepA E C B 105 r4_12 o4_12_7 (φ, H) = some (fput φ 8 (fget φ 65), H) := nrfl rfl
noncomputable def c4_39 : Code := kR c4_37
noncomputable def c4_40 : Code := kL c4_39
noncomputable def c4_41 : Code := kL c4_40
noncomputable def r4_13 : Array Oper := kO c4_41
noncomputable def o4_13_0 : Oper := opN r4_13 0
noncomputable def o4_13_1 : Oper := opN r4_13 1
noncomputable def o4_13_2 : Oper := opN r4_13 2
theorem x4_41 : execA E C (fg 4) B 105 E0 N c4_41 s = regX (runA E C B 105 r4_13 r4_13.toList s) (fun s => gcM E0 [66, 67] (forget s.1 [66, 67], s.2)) := x_reg (ops := r4_13) (by rfl) (by rfl) s
theorem r4_13_l : r4_13.toList = [o4_13_0, o4_13_1, o4_13_2] := nrfl rfl
theorem s4_13_0 : stepA E C B 105 r4_13 o4_13_0 (φ, H) = stp (some 66) φ H (just (aLoad E.T 27 (fget φ 5))) := nrfl rfl
theorem s4_13_1 : stepA E C B 105 r4_13 o4_13_1 (φ, H) = stp (some 67) φ H (aCall C (fun j => B + j * 105 + 67) true 8 [(fget φ 66)]) := nrfl rfl
theorem s4_13_2 : stepA E C B 105 r4_13 o4_13_2 (φ, H) = stp (some 68) φ H (just (aBin E.T .geq 3 (fget φ 67) (.int .i64 0))) := nrfl rfl
noncomputable def c4_42 : Code := kR c4_40
noncomputable def c4_43 : Code := kT c4_42
noncomputable def c4_44 : Code := kL c4_43
noncomputable def r4_14 : Array Oper := kO c4_44
noncomputable def o4_14_0 : Oper := opN r4_14 0
noncomputable def o4_14_1 : Oper := opN r4_14 1
noncomputable def o4_14_2 : Oper := opN r4_14 2
noncomputable def o4_14_3 : Oper := opN r4_14 3
noncomputable def o4_14_4 : Oper := opN r4_14 4
noncomputable def o4_14_5 : Oper := opN r4_14 5
noncomputable def o4_14_6 : Oper := opN r4_14 6
noncomputable def o4_14_7 : Oper := opN r4_14 7
noncomputable def o4_14_8 : Oper := opN r4_14 8
noncomputable def o4_14_9 : Oper := opN r4_14 9
theorem x4_44 : execA E C (fg 4) B 105 E0 N c4_44 s = regX (runA E C B 105 r4_14 r4_14.toList s) (fun s => gcM E0 [5, 6, 8, 11, 68, 69, 70, 71, 72, 73, 74, 75, 76, 77] (forget s.1 [5, 6, 8, 11, 68, 69, 70, 71, 72, 73, 74, 75, 76, 77], s.2)) := x_reg (ops := r4_14) (by rfl) (by rfl) s
theorem r4_14_l : r4_14.toList = [o4_14_0, o4_14_1, o4_14_2, o4_14_3, o4_14_4, o4_14_5, o4_14_6, o4_14_7, o4_14_8, o4_14_9] := nrfl rfl
theorem s4_14_0 : stepA E C B 105 r4_14 o4_14_0 (φ, H) = some (fput φ 69 (fget φ 8), H) := nrfl rfl
theorem s4_14_1 : stepA E C B 105 r4_14 o4_14_1 (φ, H) = stp (some 70) φ H (just (aBin E.T .eql 30 (fget φ 69) (.int .i64 12))) := nrfl rfl
theorem s4_14_2 : stepA E C B 105 r4_14 o4_14_2 (φ, H) = some (fput φ 71 (fget φ 70), H) := nrfl rfl
theorem s4_14_3 : stepA E C B 105 r4_14 o4_14_3 (φ, H) = gd φ 71 true (fun φ => some (fput φ 72 (.tup []), H)) (fun φ => some (fput φ 72 (fget φ 11), H)) := s_gd (j := 2) (oj := o4_14_2) rfl rfl rfl (fun _ => rfl) (fun _ => rfl)
theorem s4_14_4 : stepA E C B 105 r4_14 o4_14_4 (φ, H) = gd φ 71 true (fun φ => some (fput φ 73 (.tup []), H)) (fun φ => stp (some 73) φ H (just (aBin E.T .eql 3 (fget φ 72) (.int .i64 0)))) := s_gd (j := 2) (oj := o4_14_2) rfl rfl rfl (fun _ => rfl) (fun _ => rfl)
theorem s4_14_5 : stepA E C B 105 r4_14 o4_14_5 (φ, H) = stp (some 74) φ H (opPick (fget φ 71) (fget φ 73) (.bool false)) := nrfl rfl
theorem s4_14_6 : stepA E C B 105 r4_14 o4_14_6 (φ, H) = some (fput φ 75 (fget φ 74), H) := nrfl rfl
theorem s4_14_7 : stepA E C B 105 r4_14 o4_14_7 (φ, H) = gd φ 75 true (fun φ => some (fput φ 76 (.tup []), H)) (fun φ => stp (some 76) φ H (aCall C (fun j => B + j * 105 + 76) true 20 [])) := s_gd (j := 6) (oj := o4_14_6) rfl rfl rfl (fun _ => rfl) (fun _ => rfl)
theorem s4_14_8 : stepA E C B 105 r4_14 o4_14_8 (φ, H) = stp (some 77) φ H (opPick (fget φ 75) (fget φ 76) (.bool false)) := nrfl rfl
theorem s4_14_9 : stepA E C B 105 r4_14 o4_14_9 (φ, H) = some (fput φ 4 (fget φ 77), H) := nrfl rfl
noncomputable def c4_45 : Code := kR c4_43
theorem x4_45 : execA E C (fg 4) B 105 E0 N c4_45 s = some (.ret, s) := x_ret (by rfl) s
theorem x4_43 : execA E C (fg 4) B 105 E0 N c4_43 s = seqX (execA E C (fg 4) B 105 E0 N c4_44 s) (execA E C (fg 4) B 105 E0 N c4_45) := x_seq (by rfl) s
noncomputable def c4_46 : Code := kE c4_42
theorem x4_46 : execA E C (fg 4) B 105 E0 N c4_46 s = some (.normal, s) := x_skip (by rfl) s
theorem x4_42 : execA E C (fg 4) B 105 E0 N c4_42 (φ, H) = condX (fget φ 68) (execA E C (fg 4) B 105 E0 N c4_43 (φ, H)) (execA E C (fg 4) B 105 E0 N c4_46 (φ, H)) := x_cond (by rfl) _
theorem x4_40 : execA E C (fg 4) B 105 E0 N c4_40 s = seqX (execA E C (fg 4) B 105 E0 N c4_41 s) (execA E C (fg 4) B 105 E0 N c4_42) := x_seq (by rfl) s
noncomputable def c4_47 : Code := kR c4_39
noncomputable def c4_48 : Code := kL c4_47
noncomputable def c4_49 : Code := kL c4_48
noncomputable def r4_15 : Array Oper := kO c4_49
noncomputable def o4_15_0 : Oper := opN r4_15 0
noncomputable def o4_15_1 : Oper := opN r4_15 1
noncomputable def o4_15_2 : Oper := opN r4_15 2
noncomputable def o4_15_3 : Oper := opN r4_15 3
noncomputable def o4_15_4 : Oper := opN r4_15 4
noncomputable def o4_15_5 : Oper := opN r4_15 5
noncomputable def o4_15_6 : Oper := opN r4_15 6
noncomputable def o4_15_7 : Oper := opN r4_15 7
noncomputable def o4_15_8 : Oper := opN r4_15 8
noncomputable def o4_15_9 : Oper := opN r4_15 9
theorem x4_49 : execA E C (fg 4) B 105 E0 N c4_49 s = regX (runA E C B 105 r4_15 r4_15.toList s) (fun s => gcM E0 [8, 68, 78, 79, 80, 81, 82, 83, 84, 85, 86] (forget s.1 [8, 68, 78, 79, 80, 81, 82, 83, 84, 85, 86], s.2)) := x_reg (ops := r4_15) (by rfl) (by rfl) s
theorem r4_15_l : r4_15.toList = [o4_15_0, o4_15_1, o4_15_2, o4_15_3, o4_15_4, o4_15_5, o4_15_6, o4_15_7, o4_15_8, o4_15_9] := nrfl rfl
theorem s4_15_0 : stepA E C B 105 r4_15 o4_15_0 (φ, H) = some (fput φ 78 (fget φ 8), H) := nrfl rfl
theorem s4_15_1 : stepA E C B 105 r4_15 o4_15_1 (φ, H) = stp (some 79) φ H (just (aBin E.T .neq 30 (fget φ 78) (.int .i64 0))) := nrfl rfl
theorem s4_15_2 : stepA E C B 105 r4_15 o4_15_2 (φ, H) = some (fput φ 80 (fget φ 79), H) := nrfl rfl
theorem s4_15_3 : stepA E C B 105 r4_15 o4_15_3 (φ, H) = gd φ 80 false (fun φ => some (fput φ 81 (.tup []), H)) (fun φ => some (fput φ 81 (fget φ 11), H)) := s_gd (j := 2) (oj := o4_15_2) rfl rfl rfl (fun _ => rfl) (fun _ => rfl)
theorem s4_15_4 : stepA E C B 105 r4_15 o4_15_4 (φ, H) = gd φ 80 false (fun φ => some (fput φ 82 (.tup []), H)) (fun φ => stp (some 82) φ H (just (aBin E.T .lss 3 (fget φ 81) (.int .i64 0)))) := s_gd (j := 2) (oj := o4_15_2) rfl rfl rfl (fun _ => rfl) (fun _ => rfl)
theorem s4_15_5 : stepA E C B 105 r4_15 o4_15_5 (φ, H) = stp (some 83) φ H (opPick (fget φ 80) (.bool true) (fget φ 82)) := nrfl rfl
theorem s4_15_6 : stepA E C B 105 r4_15 o4_15_6 (φ, H) = some (fput φ 84 (fget φ 83), H) := nrfl rfl
theorem s4_15_7 : stepA E C B 105 r4_15 o4_15_7 (φ, H) = gd φ 84 false (fun φ => some (fput φ 85 (.tup []), H)) (fun φ => some (fput φ 85 (fget φ 11), H)) := s_gd (j := 6) (oj := o4_15_6) rfl rfl rfl (fun _ => rfl) (fun _ => rfl)
theorem s4_15_8 : stepA E C B 105 r4_15 o4_15_8 (φ, H) = gd φ 84 false (fun φ => some (fput φ 86 (.tup []), H)) (fun φ => stp (some 86) φ H (just (aBin E.T .gtr 3 (fget φ 85) (.int .i64 1048576)))) := s_gd (j := 6) (oj := o4_15_6) rfl rfl rfl (fun _ => rfl) (fun _ => rfl)
theorem s4_15_9 : stepA E C B 105 r4_15 o4_15_9 (φ, H) = stp (some 87) φ H (opPick (fget φ 84) (.bool true) (fget φ 86)) := nrfl rfl
noncomputable def c4_50 : Code := kR c4_48
noncomputable def c4_51 : Code := kT c4_50
noncomputable def c4_52 : Code := kL c4_51
noncomputable def r4_16 : Array Oper := kO c4_52
noncomputable def o4_16_0 : Oper := opN r4_16 0
theorem x4_52 : execA E C (fg 4) B 105 E0 N c4_52 s = regX (runA E C B 105 r4_16 r4_16.toList s) (fun s => gcM E0 [5, 6, 11, 87] (forget s.1 [5, 6, 11, 87], s.2)) := x_reg (ops := r4_16) (by rfl) (by rfl) s
theorem r4_16_l : r4_16.toList = [o4_16_0] := nrfl rfl
theorem s4_16_0 : stepA E C B 105 r4_16 o4_16_0 (φ, H) = some (fput φ 4 (.bool false), H) := nrfl rfl
noncomputable def c4_53 : Code := kR c4_51
theorem x4_53 : execA E C (fg 4) B 105 E0 N c4_53 s = some (.ret, s) := x_ret (by rfl) s
theorem x4_51 : execA E C (fg 4) B 105 E0 N c4_51 s = seqX (execA E C (fg 4) B 105 E0 N c4_52 s) (execA E C (fg 4) B 105 E0 N c4_53) := x_seq (by rfl) s
noncomputable def c4_54 : Code := kE c4_50
theorem x4_54 : execA E C (fg 4) B 105 E0 N c4_54 s = some (.normal, s) := x_skip (by rfl) s
theorem x4_50 : execA E C (fg 4) B 105 E0 N c4_50 (φ, H) = condX (fget φ 87) (execA E C (fg 4) B 105 E0 N c4_51 (φ, H)) (execA E C (fg 4) B 105 E0 N c4_54 (φ, H)) := x_cond (by rfl) _
theorem x4_48 : execA E C (fg 4) B 105 E0 N c4_48 s = seqX (execA E C (fg 4) B 105 E0 N c4_49 s) (execA E C (fg 4) B 105 E0 N c4_50) := x_seq (by rfl) s
noncomputable def c4_55 : Code := kR c4_47
noncomputable def c4_56 : Code := kL c4_55
noncomputable def r4_17 : Array Oper := kO c4_56
noncomputable def o4_17_0 : Oper := opN r4_17 0
noncomputable def o4_17_1 : Oper := opN r4_17 1
theorem x4_56 : execA E C (fg 4) B 105 E0 N c4_56 s = regX (runA E C B 105 r4_17 r4_17.toList s) (fun s => gcM E0 [5, 6, 87, 88] (forget s.1 [5, 6, 87, 88], s.2)) := x_reg (ops := r4_17) (by rfl) (by rfl) s
theorem r4_17_l : r4_17.toList = [o4_17_0, o4_17_1] := nrfl rfl
theorem s4_17_0 : stepA E C B 105 r4_17 o4_17_0 (φ, H) = stp (some 88) φ H (.pure (.clo 23 [(fget φ 5), (fget φ 6)], [])) := nrfl rfl
theorem s4_17_1 : stepA E C B 105 r4_17 o4_17_1 (φ, H) = some (fput φ 12 (fget φ 88), H) := nrfl rfl
noncomputable def c4_57 : Code := kR c4_55
noncomputable def c4_58 : Code := kL c4_57
noncomputable def r4_18 : Array Oper := kO c4_58
noncomputable def o4_18_0 : Oper := opN r4_18 0
noncomputable def o4_18_1 : Oper := opN r4_18 1
noncomputable def o4_18_2 : Oper := opN r4_18 2
noncomputable def o4_18_3 : Oper := opN r4_18 3
noncomputable def o4_18_4 : Oper := opN r4_18 4
noncomputable def o4_18_5 : Oper := opN r4_18 5
noncomputable def o4_18_6 : Oper := opN r4_18 6
noncomputable def o4_18_7 : Oper := opN r4_18 7
noncomputable def o4_18_8 : Oper := opN r4_18 8
noncomputable def o4_18_9 : Oper := opN r4_18 9
noncomputable def o4_18_10 : Oper := opN r4_18 10
noncomputable def o4_18_11 : Oper := opN r4_18 11
noncomputable def o4_18_12 : Oper := opN r4_18 12
noncomputable def o4_18_13 : Oper := opN r4_18 13
noncomputable def o4_18_14 : Oper := opN r4_18 14
noncomputable def o4_18_15 : Oper := opN r4_18 15
noncomputable def o4_18_16 : Oper := opN r4_18 16
theorem x4_58 : execA E C (fg 4) B 105 E0 N c4_58 s = regX (runA E C B 105 r4_18 r4_18.toList s) (fun s => gcM E0 [11, 12, 89, 90, 91, 92, 93, 94, 95, 96, 97, 98, 99, 100, 101, 102, 103, 104] (forget s.1 [11, 12, 89, 90, 91, 92, 93, 94, 95, 96, 97, 98, 99, 100, 101, 102, 103, 104], s.2)) := x_reg (ops := r4_18) (by rfl) (by rfl) s
theorem r4_18_l : r4_18.toList = [o4_18_0, o4_18_1, o4_18_2, o4_18_3, o4_18_4, o4_18_5, o4_18_6, o4_18_7, o4_18_8, o4_18_9, o4_18_10, o4_18_11, o4_18_12, o4_18_13, o4_18_14, o4_18_15, o4_18_16] := nrfl rfl
theorem s4_18_0 : stepA E C B 105 r4_18 o4_18_0 (φ, H) = some (fput φ 89 (fget φ 12), H) := nrfl rfl
theorem s4_18_1 : stepA E C B 105 r4_18 o4_18_1 (φ, H) = some (fput φ 90 (fget φ 11), H) := nrfl rfl
theorem s4_18_2 : stepA E C B 105 r4_18 o4_18_2 (φ, H) = callV E C (B + 105 * 8) (some 91) (fun j => B + j * 105 + 91) φ H (fget φ 89) [(fget φ 90)] true := nrfl rfl
theorem s4_18_3 : stepA E C B 105 r4_18 o4_18_3 (φ, H) = stp (some 92) φ H (aCall C (fun j => B + j * 105 + 92) true 8 [(fget φ 91)]) := nrfl rfl
theorem s4_18_4 : stepA E C B 105 r4_18 o4_18_4 (φ, H) = stp (some 93) φ H (just (aBin E.T .lss 3 (fget φ 92) (.int .i64 0))) := nrfl rfl
theorem s4_18_5 : stepA E C B 105 r4_18 o4_18_5 (φ, H) = some (fput φ 94 (fget φ 93), H) := nrfl rfl
theorem s4_18_6 : stepA E C B 105 r4_18 o4_18_6 (φ, H) = gd φ 94 true (fun φ => some (fput φ 95 (.tup []), H)) (fun φ => some (fput φ 95 (fget φ 12), H)) := s_gd (j := 5) (oj := o4_18_5) rfl rfl rfl (fun _ => rfl) (fun _ => rfl)
theorem s4_18_7 : stepA E C B 105 r4_18 o4_18_7 (φ, H) = gd φ 94 true (fun φ => some (fput φ 96 (.tup []), H)) (fun φ => some (fput φ 96 (fget φ 11), H)) := s_gd (j := 5) (oj := o4_18_5) rfl rfl rfl (fun _ => rfl) (fun _ => rfl)
theorem s4_18_8 : stepA E C B 105 r4_18 o4_18_8 (φ, H) = gd φ 94 true (fun φ => some (fput φ 97 (.tup []), H)) (fun φ => stp (some 97) φ H (just (aBin E.T .add 3 (fget φ 96) (.int .i64 1)))) := s_gd (j := 5) (oj := o4_18_5) rfl rfl rfl (fun _ => rfl) (fun _ => rfl)
theorem s4_18_9 : stepA E C B 105 r4_18 o4_18_9 (φ, H) = gd φ 94 true (fun φ => some (fput φ 98 (.tup []), H)) (fun φ => callV E C (B + 105 * 8) (some 98) (fun j => B + j * 105 + 98) φ H (fget φ 95) [(fget φ 97)] true) := s_gd (j := 5) (oj := o4_18_5) rfl rfl rfl (fun _ => rfl) (fun _ => rfl)
theorem s4_18_10 : stepA E C B 105 r4_18 o4_18_10 (φ, H) = gd φ 94 true (fun φ => some (fput φ 99 (.tup []), H)) (fun φ => stp (some 99) φ H (aCall C (fun j => B + j * 105 + 99) true 8 [(fget φ 98)])) := s_gd (j := 5) (oj := o4_18_5) rfl rfl rfl (fun _ => rfl) (fun _ => rfl)
theorem s4_18_11 : stepA E C B 105 r4_18 o4_18_11 (φ, H) = gd φ 94 true (fun φ => some (fput φ 100 (.tup []), H)) (fun φ => stp (some 100) φ H (just (aBin E.T .geq 3 (fget φ 99) (.int .i64 0)))) := s_gd (j := 5) (oj := o4_18_5) rfl rfl rfl (fun _ => rfl) (fun _ => rfl)
theorem s4_18_12 : stepA E C B 105 r4_18 o4_18_12 (φ, H) = stp (some 101) φ H (opPick (fget φ 94) (fget φ 100) (.bool false)) := nrfl rfl
theorem s4_18_13 : stepA E C B 105 r4_18 o4_18_13 (φ, H) = some (fput φ 102 (fget φ 101), H) := nrfl rfl
theorem s4_18_14 : stepA E C B 105 r4_18 o4_18_14 (φ, H) = gd φ 102 true (fun φ => some (fput φ 103 (.tup []), H)) (fun φ => stp (some 103) φ H (aCall C (fun j => B + j * 105 + 103) true 20 [])) := s_gd (j := 13) (oj := o4_18_13) rfl rfl rfl (fun _ => rfl) (fun _ => rfl)
theorem s4_18_15 : stepA E C B 105 r4_18 o4_18_15 (φ, H) = stp (some 104) φ H (opPick (fget φ 102) (fget φ 103) (.bool false)) := nrfl rfl
theorem s4_18_16 : stepA E C B 105 r4_18 o4_18_16 (φ, H) = some (fput φ 4 (fget φ 104), H) := nrfl rfl
noncomputable def c4_59 : Code := kR c4_57
theorem x4_59 : execA E C (fg 4) B 105 E0 N c4_59 s = some (.ret, s) := x_ret (by rfl) s
theorem x4_57 : execA E C (fg 4) B 105 E0 N c4_57 s = seqX (execA E C (fg 4) B 105 E0 N c4_58 s) (execA E C (fg 4) B 105 E0 N c4_59) := x_seq (by rfl) s
theorem x4_55 : execA E C (fg 4) B 105 E0 N c4_55 s = seqX (execA E C (fg 4) B 105 E0 N c4_56 s) (execA E C (fg 4) B 105 E0 N c4_57) := x_seq (by rfl) s
theorem x4_47 : execA E C (fg 4) B 105 E0 N c4_47 s = seqX (execA E C (fg 4) B 105 E0 N c4_48 s) (execA E C (fg 4) B 105 E0 N c4_55) := x_seq (by rfl) s
theorem x4_39 : execA E C (fg 4) B 105 E0 N c4_39 s = seqX (execA E C (fg 4) B 105 E0 N c4_40 s) (execA E C (fg 4) B 105 E0 N c4_47) := x_seq (by rfl) s
theorem x4_37 : execA E C (fg 4) B 105 E0 N c4_37 s = seqX (execA E C (fg 4) B 105 E0 N c4_38 s) (execA E C (fg 4) B 105 E0 N c4_39) := x_seq (by rfl) s
theorem x4_29 : execA E C (fg 4) B 105 E0 N c4_29 s = seqX (execA E C (fg 4) B 105 E0 N c4_30 s) (execA E C (fg 4) B 105 E0 N c4_37) := x_seq (by rfl) s
theorem x4_10 : execA E C (fg 4) B 105 E0 N c4_10 s = seqX (execA E C (fg 4) B 105 E0 N c4_11 s) (execA E C (fg 4) B 105 E0 N c4_29) := x_seq (by rfl) s
theorem x4_8 : execA E C (fg 4) B 105 E0 N c4_8 s = seqX (execA E C (fg 4) B 105 E0 N c4_9 s) (execA E C (fg 4) B 105 E0 N c4_10) := x_seq (by rfl) s
theorem x4_6 : execA E C (fg 4) B 105 E0 N c4_6 s = seqX (execA E C (fg 4) B 105 E0 N c4_7 s) (execA E C (fg 4) B 105 E0 N c4_8) := x_seq (by rfl) s
theorem x4_4 : execA E C (fg 4) B 105 E0 N c4_4 s = seqX (execA E C (fg 4) B 105 E0 N c4_5 s) (execA E C (fg 4) B 105 E0 N c4_6) := x_seq (by rfl) s
theorem x4_2 : execA E C (fg 4) B 105 E0 N c4_2 s = seqX (execA E C (fg 4) B 105 E0 N c4_3 s) (execA E C (fg 4) B 105 E0 N c4_4) := x_seq (by rfl) s
theorem x4_0 : execA E C (fg 4) B 105 E0 N c4_0 s = seqX (execA E C (fg 4) B 105 E0 N c4_1 s) (execA E C (fg 4) B 105 E0 N c4_2) := x_seq (by rfl) s
theorem fi_4 : fInfo E 4 = some ⟨105, #[.tmp 4], c4_0⟩ := nrfl rfl
theorem b_4 (args : List AV) : bodyA E C fg N 4 args H B = bodyX E [.tmp 4] (execA E C (fg 4) B 105 H N c4_0 (frame0 args 0 [], H)) := bodyA_eq fi_4 args H
/-! ### f23: novaculite/novaculitelaw07.PropMoved$1 -/
noncomputable def c23_0 : Code := kBody Proofs.Try.f23
noncomputable def c23_1 : Code := kL c23_0
noncomputable def r23_0 : Array Oper := kO c23_1
noncomputable def o23_0_0 : Oper := opN r23_0 0
theorem x23_1 : execA E C (fg 23) B 26 E0 N c23_1 s = regX (runA E C B 26 r23_0 r23_0.toList s) (fun s => gcM E0 [4] (forget s.1 [4], s.2)) := x_reg (ops := r23_0) (by rfl) (by rfl) s
theorem r23_0_l : r23_0.toList = [o23_0_0] := nrfl rfl
theorem s23_0_0 : stepA E C B 26 r23_0 o23_0_0 (φ, H) = some (fput φ 4 (.nilsl), H) := nrfl rfl
noncomputable def c23_2 : Code := kR c23_0
noncomputable def c23_3 : Code := kL c23_2
noncomputable def r23_1 : Array Oper := kO c23_3
noncomputable def o23_1_0 : Oper := opN r23_1 0
noncomputable def o23_1_1 : Oper := opN r23_1 1
noncomputable def o23_1_2 : Oper := opN r23_1 2
theorem x23_3 : execA E C (fg 23) B 26 E0 N c23_3 s = regX (runA E C B 26 r23_1 r23_1.toList s) (fun s => gcM E0 [1, 7, 8] (forget s.1 [1, 7, 8], s.2)) := x_reg (ops := r23_1) (by rfl) (by rfl) s
theorem r23_1_l : r23_1.toList = [o23_1_0, o23_1_1, o23_1_2] := nrfl rfl
theorem s23_1_0 : stepA E C B 26 r23_1 o23_1_0 (φ, H) = stp (some 7) φ H (just (aLoad E.T 27 (fget φ 1))) := nrfl rfl
theorem s23_1_1 : stepA E C B 26 r23_1 o23_1_1 (φ, H) = stp (some 8) φ H (aCall C (fun j => B + j * 26 + 8) true 24 [(fget φ 7)]) := nrfl rfl
theorem s23_1_2 : stepA E C B 26 r23_1 o23_1_2 (φ, H) = some (fput φ 5 (fget φ 8), H) := nrfl rfl
noncomputable def c23_4 : Code := kR c23_2
noncomputable def c23_5 : Code := kL c23_4
noncomputable def c23_6 : Code := kL c23_5
noncomputable def r23_2 : Array Oper := kO c23_6
noncomputable def o23_2_0 : Oper := opN r23_2 0
noncomputable def o23_2_1 : Oper := opN r23_2 1
theorem x23_6 : execA E C (fg 23) B 26 E0 N c23_6 s = regX (runA E C B 26 r23_2 r23_2.toList s) (fun s => gcM E0 [2, 9] (forget s.1 [2, 9], s.2)) := x_reg (ops := r23_2) (by rfl) (by rfl) s
theorem r23_2_l : r23_2.toList = [o23_2_0, o23_2_1] := nrfl rfl
theorem s23_2_0 : stepA E C B 26 r23_2 o23_2_0 (φ, H) = stp (some 9) φ H (just (aLoad E.T 3 (fget φ 2))) := nrfl rfl
theorem s23_2_1 : stepA E C B 26 r23_2 o23_2_1 (φ, H) = some (fput φ 6 (fget φ 9), H) := nrfl rfl
noncomputable def c23_7 : Code := kR c23_5
noncomputable def c23_8 : Code := kB c23_7
noncomputable def c23_9 : Code := kB c23_8
noncomputable def c23_10 : Code := kL c23_9
noncomputable def c23_11 : Code := kL c23_10
noncomputable def r23_3 : Array Oper := kO c23_11
noncomputable def o23_3_0 : Oper := opN r23_3 0
noncomputable def o23_3_1 : Oper := opN r23_3 1
noncomputable def o23_3_2 : Oper := opN r23_3 2
noncomputable def o23_3_3 : Oper := opN r23_3 3
theorem x23_11 : execA E C (fg 23) B 26 E0 N c23_11 s = regX (runA E C B 26 r23_3 r23_3.toList s) (fun s => gcM E0 [10, 11, 12] (forget s.1 [10, 11, 12], s.2)) := x_reg (ops := r23_3) (by rfl) (by rfl) s
theorem r23_3_l : r23_3.toList = [o23_3_0, o23_3_1, o23_3_2, o23_3_3] := nrfl rfl
theorem s23_3_0 : stepA E C B 26 r23_3 o23_3_0 (φ, H) = some (fput φ 10 (fget φ 6), H) := nrfl rfl
theorem s23_3_1 : stepA E C B 26 r23_3 o23_3_1 (φ, H) = some (fput φ 11 (fget φ 5), H) := nrfl rfl
theorem s23_3_2 : stepA E C B 26 r23_3 o23_3_2 (φ, H) = stp (some 12) φ H (aBuiltin E.T (B + 12) .len #[27] [(fget φ 11)]) := nrfl rfl
theorem s23_3_3 : stepA E C B 26 r23_3 o23_3_3 (φ, H) = stp (some 13) φ H (just (aBin E.T .lss 3 (fget φ 10) (fget φ 12))) := nrfl rfl
noncomputable def c23_12 : Code := kR c23_10
noncomputable def c23_13 : Code := kT c23_12
theorem x23_13 : execA E C (fg 23) B 26 E0 N c23_13 s = some (.normal, s) := x_skip (by rfl) s
noncomputable def c23_14 : Code := kE c23_12
theorem x23_14 : execA E C (fg 23) B 26 E0 N c23_14 s = some (.exit 0, s) := x_exit (by rfl) s
theorem x23_12 : execA E C (fg 23) B 26 E0 N c23_12 (φ, H) = condX (fget φ 13) (execA E C (fg 23) B 26 E0 N c23_13 (φ, H)) (execA E C (fg 23) B 26 E0 N c23_14 (φ, H)) := x_cond (by rfl) _
theorem x23_10 : execA E C (fg 23) B 26 E0 N c23_10 s = seqX (execA E C (fg 23) B 26 E0 N c23_11 s) (execA E C (fg 23) B 26 E0 N c23_12) := x_seq (by rfl) s
noncomputable def c23_15 : Code := kR c23_9
noncomputable def c23_16 : Code := kL c23_15
noncomputable def c23_17 : Code := kB c23_16
noncomputable def r23_5 : Array Oper := kO c23_17
noncomputable def o23_5_0 : Oper := opN r23_5 0
noncomputable def o23_5_1 : Oper := opN r23_5 1
noncomputable def o23_5_2 : Oper := opN r23_5 2
noncomputable def o23_5_3 : Oper := opN r23_5 3
noncomputable def o23_5_4 : Oper := opN r23_5 4
noncomputable def o23_5_5 : Oper := opN r23_5 5
noncomputable def o23_5_6 : Oper := opN r23_5 6
noncomputable def o23_5_7 : Oper := opN r23_5 7
noncomputable def o23_5_8 : Oper := opN r23_5 8
noncomputable def o23_5_9 : Oper := opN r23_5 9
theorem x23_17 : execA E C (fg 23) B 26 E0 N c23_17 s = regX (runA E C B 26 r23_5 r23_5.toList s) (fun s => gcM E0 [13, 16, 17, 18, 19, 20, 21, 22, 23, 24] (forget s.1 [13, 16, 17, 18, 19, 20, 21, 22, 23, 24], s.2)) := x_reg (ops := r23_5) (by rfl) (by rfl) s
theorem r23_5_l : r23_5.toList = [o23_5_0, o23_5_1, o23_5_2, o23_5_3, o23_5_4, o23_5_5, o23_5_6, o23_5_7, o23_5_8, o23_5_9] := nrfl rfl
theorem s23_5_0 : stepA E C B 26 r23_5 o23_5_0 (φ, H) = some (fput φ 16 (fget φ 5), H) := nrfl rfl
theorem s23_5_1 : stepA E C B 26 r23_5 o23_5_1 (φ, H) = some (fput φ 17 (fget φ 6), H) := nrfl rfl
theorem s23_5_2 : stepA E C B 26 r23_5 o23_5_2 (φ, H) = stp (some 18) φ H (just (aIndexAddr E.T 27 (fget φ 16) (fget φ 17))) := nrfl rfl
theorem s23_5_3 : stepA E C B 26 r23_5 o23_5_3 (φ, H) = stp (some 19) φ H (just (aFieldAddr E.T 44 (fget φ 18) 1)) := nrfl rfl
theorem s23_5_4 : stepA E C B 26 r23_5 o23_5_4 (φ, H) = stp (some 20) φ H (just (aLoad E.T 3 (fget φ 19))) := nrfl rfl
theorem s23_5_5 : stepA E C B 26 r23_5 o23_5_5 (φ, H) = some (fput φ 21 (fget φ 0), H) := nrfl rfl
theorem s23_5_6 : stepA E C B 26 r23_5 o23_5_6 (φ, H) = stp (some 22) φ H (just (aBin E.T .add 3 (fget φ 20) (fget φ 21))) := nrfl rfl
theorem s23_5_7 : stepA E C B 26 r23_5 o23_5_7 (φ, H) = stp (some 23) φ H (just (aIndexAddr E.T 27 (fget φ 16) (fget φ 17))) := nrfl rfl
theorem s23_5_8 : stepA E C B 26 r23_5 o23_5_8 (φ, H) = stp (some 24) φ H (just (aFieldAddr E.T 44 (fget φ 23) 1)) := nrfl rfl
theorem s23_5_9 : stepA E C B 26 r23_5 o23_5_9 (φ, H) = stp none φ H (opStore E.T 3 (fget φ 24) (fget φ 22)) := nrfl rfl
theorem x23_16 : execA E C (fg 23) B 26 E0 N c23_16 s = blockX 1 (fun s => (forget s.1 [], s.2)) (execA E C (fg 23) B 26 E0 N c23_17 s) := x_block (by rfl) (by rfl) s
noncomputable def c23_18 : Code := kR c23_15
noncomputable def r23_4 : Array Oper := kO c23_18
noncomputable def o23_4_0 : Oper := opN r23_4 0
noncomputable def o23_4_1 : Oper := opN r23_4 1
noncomputable def o23_4_2 : Oper := opN r23_4 2
theorem x23_18 : execA E C (fg 23) B 26 E0 N c23_18 s = regX (runA E C B 26 r23_4 r23_4.toList s) (fun s => gcM E0 [14, 15] (forget s.1 [14, 15], s.2)) := x_reg (ops := r23_4) (by rfl) (by rfl) s
theorem r23_4_l : r23_4.toList = [o23_4_0, o23_4_1, o23_4_2] := nrfl rfl
theorem s23_4_0 : stepA E C B 26 r23_4 o23_4_0 (φ, H) = some (fput φ 14 (fget φ 6), H) := nrfl rfl
theorem s23_4_1 : stepA E C B 26 r23_4 o23_4_1 (φ, H) = stp (some 15) φ H (just (aBin E.T .add 3 (fget φ 14) (.int .i64 1))) := nrfl rfl
theorem s23_4_2 : stepA E C B 26 r23_4 o23_4_2 (φ, H) = some (fput φ 6 (fget φ 15), H) := nrfl rfl
theorem x23_15 : execA E C (fg 23) B 26 E0 N c23_15 s = seqX (execA E C (fg 23) B 26 E0 N c23_16 s) (execA E C (fg 23) B 26 E0 N c23_18) := x_seq (by rfl) s
theorem x23_9 : execA E C (fg 23) B 26 E0 N c23_9 s = seqX (execA E C (fg 23) B 26 E0 N c23_10 s) (execA E C (fg 23) B 26 E0 N c23_15) := x_seq (by rfl) s
-- a loop of f23: x23_8; body c23_9; slots [6, 5, 0]
theorem x23_8 : execA E C (fg 23) B 26 E0 N c23_8 s = iterA (execA E C (fg 23) B 26 E0 N c23_9) (headA E0) N s := x_loop (by rfl) s
theorem x23_7 : execA E C (fg 23) B 26 E0 N c23_7 s = blockX 0 (fun s => (forget s.1 [0, 6, 13], s.2)) (execA E C (fg 23) B 26 E0 N c23_8 s) := x_block (by rfl) (by rfl) s
theorem x23_5 : execA E C (fg 23) B 26 E0 N c23_5 s = seqX (execA E C (fg 23) B 26 E0 N c23_6 s) (execA E C (fg 23) B 26 E0 N c23_7) := x_seq (by rfl) s
noncomputable def c23_19 : Code := kR c23_4
noncomputable def c23_20 : Code := kL c23_19
noncomputable def r23_6 : Array Oper := kO c23_20
noncomputable def o23_6_0 : Oper := opN r23_6 0
noncomputable def o23_6_1 : Oper := opN r23_6 1
theorem x23_20 : execA E C (fg 23) B 26 E0 N c23_20 s = regX (runA E C B 26 r23_6 r23_6.toList s) (fun s => gcM E0 [5, 25] (forget s.1 [5, 25], s.2)) := x_reg (ops := r23_6) (by rfl) (by rfl) s
theorem r23_6_l : r23_6.toList = [o23_6_0, o23_6_1] := nrfl rfl
theorem s23_6_0 : stepA E C B 26 r23_6 o23_6_0 (φ, H) = some (fput φ 25 (fget φ 5), H) := nrfl rfl
theorem s23_6_1 : stepA E C B 26 r23_6 o23_6_1 (φ, H) = some (fput φ 4 (fget φ 25), H) := nrfl rfl
noncomputable def c23_21 : Code := kR c23_19
theorem x23_21 : execA E C (fg 23) B 26 E0 N c23_21 s = some (.ret, s) := x_ret (by rfl) s
theorem x23_19 : execA E C (fg 23) B 26 E0 N c23_19 s = seqX (execA E C (fg 23) B 26 E0 N c23_20 s) (execA E C (fg 23) B 26 E0 N c23_21) := x_seq (by rfl) s
theorem x23_4 : execA E C (fg 23) B 26 E0 N c23_4 s = seqX (execA E C (fg 23) B 26 E0 N c23_5 s) (execA E C (fg 23) B 26 E0 N c23_19) := x_seq (by rfl) s
theorem x23_2 : execA E C (fg 23) B 26 E0 N c23_2 s = seqX (execA E C (fg 23) B 26 E0 N c23_3 s) (execA E C (fg 23) B 26 E0 N c23_4) := x_seq (by rfl) s
theorem x23_0 : execA E C (fg 23) B 26 E0 N c23_0 s = seqX (execA E C (fg 23) B 26 E0 N c23_1 s) (execA E C (fg 23) B 26 E0 N c23_2) := x_seq (by rfl) s
theorem fi_23 : fInfo E 23 = some ⟨26, #[.tmp 4], c23_0⟩ := nrfl rfl
theorem b_23 (args : List AV) : bodyA E C fg N 23 args H B = bodyX E [.tmp 4] (execA E C (fg 23) B 26 H N c23_0 (frame0 args 0 [], H)) := bodyA_eq fi_23 args H
end Go.AM.Ytikchlfbjdfioaa
