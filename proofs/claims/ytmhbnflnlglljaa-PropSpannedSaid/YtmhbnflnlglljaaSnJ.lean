/- A part of the proof of propSpanned_holds: SyH, SpA, SpB, SpL, SpC, SyG. Own work of this project; texts printed by own programs among it. -/
import Derived.KernelRfl
import Derived.Test.YtmhbnflnlglljaaSnI
section
namespace Go.AM.Ytmhbnflnlglljaa
open Go Go.AM
set_option maxRecDepth 100000
variable {C : Callee} {B N : Nat} {E0 : AHeap} (φ : AFr) (H : AHeap) (s : St)
noncomputable def c12_0 : Code := kBody Proofs.Try.f12
noncomputable def c12_1 : Code := kL c12_0
noncomputable def r12_0 : Array Oper := kO c12_1
noncomputable def o12_0_0 : Oper := opN r12_0 0
noncomputable def o12_0_1 : Oper := opN r12_0 1
noncomputable def o12_0_2 : Oper := opN r12_0 2
noncomputable def o12_0_3 : Oper := opN r12_0 3
noncomputable def o12_0_4 : Oper := opN r12_0 4
theorem x12_1 : execA E C (fg 12) B 22 E0 N c12_1 s = regX (runA E C B 22 r12_0 r12_0.toList s) (fun s => gcM E0 [0, 1, 6] (forget s.1 [0, 1, 6], s.2)) := x_reg (ops := r12_0) (by rfl) (by rfl) s
theorem r12_0_l : r12_0.toList = [o12_0_0, o12_0_1, o12_0_2, o12_0_3, o12_0_4] := nrfl rfl
theorem s12_0_0 : stepA E C B 22 r12_0 o12_0_0 (φ, H) = stp (some 2) φ H (opBox (B + 2) (acells (fget φ 0))) := nrfl rfl
theorem s12_0_1 : stepA E C B 22 r12_0 o12_0_1 (φ, H) = stp (some 3) φ H (opBox (B + 3) (acells (fget φ 1))) := nrfl rfl
theorem s12_0_2 : stepA E C B 22 r12_0 o12_0_2 (φ, H) = stp (some 4) φ H (opBox (B + 4) (zeroCells E.T 27)) := nrfl rfl
theorem s12_0_3 : stepA E C B 22 r12_0 o12_0_3 (φ, H) = stp (some 5) φ H (opBox (B + 5) (zeroCells E.T 27)) := nrfl rfl
theorem s12_0_4 : stepA E C B 22 r12_0 o12_0_4 (φ, H) = some (fput φ 6 (.int .i64 0), H) := nrfl rfl
noncomputable def c12_2 : Code := kR c12_0
noncomputable def c12_3 : Code := kL c12_2
noncomputable def c12_4 : Code := kL c12_3
noncomputable def r12_1 : Array Oper := kO c12_4
noncomputable def o12_1_0 : Oper := opN r12_1 0
noncomputable def o12_1_1 : Oper := opN r12_1 1
noncomputable def o12_1_2 : Oper := opN r12_1 2
noncomputable def o12_1_3 : Oper := opN r12_1 3
theorem x12_4 : execA E C (fg 12) B 22 E0 N c12_4 s = regX (runA E C B 22 r12_1 r12_1.toList s) (fun s => gcM E0 [9, 10, 11] (forget s.1 [9, 10, 11], s.2)) := x_reg (ops := r12_1) (by rfl) (by rfl) s
theorem r12_1_l : r12_1.toList = [o12_1_0, o12_1_1, o12_1_2, o12_1_3] := nrfl rfl
theorem s12_1_0 : stepA E C B 22 r12_1 o12_1_0 (φ, H) = stp (some 9) φ H (just (aLoad E.T 22 (fget φ 2))) := nrfl rfl
theorem s12_1_1 : stepA E C B 22 r12_1 o12_1_1 (φ, H) = stp (some 10) φ H (just (aLoad E.T 3 (fget φ 3))) := nrfl rfl
theorem s12_1_2 : stepA E C B 22 r12_1 o12_1_2 (φ, H) = stp (some 11) φ H (aCall C (fun j => B + j * 22 + 11) true 57 [(fget φ 9), (fget φ 10)]) := nrfl rfl
theorem s12_1_3 : stepA E C B 22 r12_1 o12_1_3 (φ, H) = some (fput φ 7 (fget φ 11), H) := nrfl rfl
noncomputable def c12_5 : Code := kR c12_3
noncomputable def c12_6 : Code := kL c12_5
noncomputable def r12_2 : Array Oper := kO c12_6
noncomputable def o12_2_0 : Oper := opN r12_2 0
noncomputable def o12_2_1 : Oper := opN r12_2 1
theorem x12_6 : execA E C (fg 12) B 22 E0 N c12_6 s = regX (runA E C B 22 r12_2 r12_2.toList s) (fun s => gcM E0 [12] (forget s.1 [12], s.2)) := x_reg (ops := r12_2) (by rfl) (by rfl) s
theorem r12_2_l : r12_2.toList = [o12_2_0, o12_2_1] := nrfl rfl
theorem s12_2_0 : stepA E C B 22 r12_2 o12_2_0 (φ, H) = some (fput φ 12 (fget φ 7), H) := nrfl rfl
theorem s12_2_1 : stepA E C B 22 r12_2 o12_2_1 (φ, H) = stp (some 13) φ H (just (aBin E.T .neq 28 (fget φ 12) (.int .i64 0))) := nrfl rfl
noncomputable def c12_7 : Code := kR c12_5
noncomputable def c12_8 : Code := kT c12_7
noncomputable def c12_9 : Code := kL c12_8
noncomputable def r12_3 : Array Oper := kO c12_9
noncomputable def o12_3_0 : Oper := opN r12_3 0
noncomputable def o12_3_1 : Oper := opN r12_3 1
noncomputable def o12_3_2 : Oper := opN r12_3 2
noncomputable def o12_3_3 : Oper := opN r12_3 3
noncomputable def o12_3_4 : Oper := opN r12_3 4
noncomputable def o12_3_5 : Oper := opN r12_3 5
theorem x12_9 : execA E C (fg 12) B 22 E0 N c12_9 s = regX (runA E C B 22 r12_3 r12_3.toList s) (fun s => gcM E0 [2, 3, 7, 13, 14, 15, 16] (forget s.1 [2, 3, 7, 13, 14, 15, 16], s.2)) := x_reg (ops := r12_3) (by rfl) (by rfl) s
theorem r12_3_l : r12_3.toList = [o12_3_0, o12_3_1, o12_3_2, o12_3_3, o12_3_4, o12_3_5] := nrfl rfl
theorem s12_3_0 : stepA E C B 22 r12_3 o12_3_0 (φ, H) = stp (some 14) φ H (justO (aBuild E.T 27 (evO E φ) [])) := nrfl rfl
theorem s12_3_1 : stepA E C B 22 r12_3 o12_3_1 (φ, H) = stp (some 15) φ H (justO (aBuild E.T 27 (evO E φ) [])) := nrfl rfl
theorem s12_3_2 : stepA E C B 22 r12_3 o12_3_2 (φ, H) = some (fput φ 16 (fget φ 7), H) := nrfl rfl
theorem s12_3_3 : stepA E C B 22 r12_3 o12_3_3 (φ, H) = stp none φ H (opStore E.T 27 (fget φ 4) (fget φ 14)) := nrfl rfl
theorem s12_3_4 : stepA E C B 22 r12_3 o12_3_4 (φ, H) = stp none φ H (opStore E.T 27 (fget φ 5) (fget φ 15)) := nrfl rfl
theorem s12_3_5 : stepA E C B 22 r12_3 o12_3_5 (φ, H) = some (fput φ 6 (fget φ 16), H) := nrfl rfl
noncomputable def c12_10 : Code := kR c12_8
theorem x12_10 : execA E C (fg 12) B 22 E0 N c12_10 s = some (.ret, s) := x_ret (by rfl) s
theorem x12_8 : execA E C (fg 12) B 22 E0 N c12_8 s = seqX (execA E C (fg 12) B 22 E0 N c12_9 s) (execA E C (fg 12) B 22 E0 N c12_10) := x_seq (by rfl) s
noncomputable def c12_11 : Code := kE c12_7
theorem x12_11 : execA E C (fg 12) B 22 E0 N c12_11 s = some (.normal, s) := x_skip (by rfl) s
theorem x12_7 : execA E C (fg 12) B 22 E0 N c12_7 (φ, H) = condX (fget φ 13) (execA E C (fg 12) B 22 E0 N c12_8 (φ, H)) (execA E C (fg 12) B 22 E0 N c12_11 (φ, H)) := x_cond (by rfl) _
theorem x12_5 : execA E C (fg 12) B 22 E0 N c12_5 s = seqX (execA E C (fg 12) B 22 E0 N c12_6 s) (execA E C (fg 12) B 22 E0 N c12_7) := x_seq (by rfl) s
theorem x12_3 : execA E C (fg 12) B 22 E0 N c12_3 s = seqX (execA E C (fg 12) B 22 E0 N c12_4 s) (execA E C (fg 12) B 22 E0 N c12_5) := x_seq (by rfl) s
noncomputable def c12_12 : Code := kR c12_2
noncomputable def c12_13 : Code := kL c12_12
noncomputable def r12_4 : Array Oper := kO c12_13
noncomputable def o12_4_0 : Oper := opN r12_4 0
noncomputable def o12_4_1 : Oper := opN r12_4 1
theorem x12_13 : execA E C (fg 12) B 22 E0 N c12_13 s = regX (runA E C B 22 r12_4 r12_4.toList s) (fun s => gcM E0 [2, 3, 7, 13, 17] (forget s.1 [2, 3, 7, 13, 17], s.2)) := x_reg (ops := r12_4) (by rfl) (by rfl) s
theorem r12_4_l : r12_4.toList = [o12_4_0, o12_4_1] := nrfl rfl
theorem s12_4_0 : stepA E C B 22 r12_4 o12_4_0 (φ, H) = stp (some 17) φ H (.pure (.clo 58 [(fget φ 2), (fget φ 3)], [])) := nrfl rfl
theorem s12_4_1 : stepA E C B 22 r12_4 o12_4_1 (φ, H) = some (fput φ 8 (fget φ 17), H) := nrfl rfl
noncomputable def c12_14 : Code := kR c12_12
noncomputable def c12_15 : Code := kL c12_14
noncomputable def r12_5 : Array Oper := kO c12_15
noncomputable def o12_5_0 : Oper := opN r12_5 0
noncomputable def o12_5_1 : Oper := opN r12_5 1
noncomputable def o12_5_2 : Oper := opN r12_5 2
noncomputable def o12_5_3 : Oper := opN r12_5 3
noncomputable def o12_5_4 : Oper := opN r12_5 4
noncomputable def o12_5_5 : Oper := opN r12_5 5
noncomputable def o12_5_6 : Oper := opN r12_5 6
theorem x12_15 : execA E C (fg 12) B 22 E0 N c12_15 s = regX (runA E C B 22 r12_5 r12_5.toList s) (fun s => gcM E0 [8, 18, 19, 20, 21] (forget s.1 [8, 18, 19, 20, 21], s.2)) := x_reg (ops := r12_5) (by rfl) (by rfl) s
theorem r12_5_l : r12_5.toList = [o12_5_0, o12_5_1, o12_5_2, o12_5_3, o12_5_4, o12_5_5, o12_5_6] := nrfl rfl
theorem s12_5_0 : stepA E C B 22 r12_5 o12_5_0 (φ, H) = some (fput φ 18 (fget φ 8), H) := nrfl rfl
theorem s12_5_1 : stepA E C B 22 r12_5 o12_5_1 (φ, H) = callV E C (B + 22 * 8) (some 19) (fun j => B + j * 22 + 19) φ H (fget φ 18) [(.int .i64 (-1))] true := nrfl rfl
theorem s12_5_2 : stepA E C B 22 r12_5 o12_5_2 (φ, H) = some (fput φ 20 (fget φ 8), H) := nrfl rfl
theorem s12_5_3 : stepA E C B 22 r12_5 o12_5_3 (φ, H) = callV E C (B + 22 * 8) (some 21) (fun j => B + j * 22 + 21) φ H (fget φ 20) [(.int .i64 1)] true := nrfl rfl
theorem s12_5_4 : stepA E C B 22 r12_5 o12_5_4 (φ, H) = stp none φ H (opStore E.T 27 (fget φ 4) (fget φ 19)) := nrfl rfl
theorem s12_5_5 : stepA E C B 22 r12_5 o12_5_5 (φ, H) = stp none φ H (opStore E.T 27 (fget φ 5) (fget φ 21)) := nrfl rfl
theorem s12_5_6 : stepA E C B 22 r12_5 o12_5_6 (φ, H) = some (fput φ 6 (.int .i64 0), H) := nrfl rfl
noncomputable def c12_16 : Code := kR c12_14
theorem x12_16 : execA E C (fg 12) B 22 E0 N c12_16 s = some (.ret, s) := x_ret (by rfl) s
theorem x12_14 : execA E C (fg 12) B 22 E0 N c12_14 s = seqX (execA E C (fg 12) B 22 E0 N c12_15 s) (execA E C (fg 12) B 22 E0 N c12_16) := x_seq (by rfl) s
theorem x12_12 : execA E C (fg 12) B 22 E0 N c12_12 s = seqX (execA E C (fg 12) B 22 E0 N c12_13 s) (execA E C (fg 12) B 22 E0 N c12_14) := x_seq (by rfl) s
theorem x12_2 : execA E C (fg 12) B 22 E0 N c12_2 s = seqX (execA E C (fg 12) B 22 E0 N c12_3 s) (execA E C (fg 12) B 22 E0 N c12_12) := x_seq (by rfl) s
theorem x12_0 : execA E C (fg 12) B 22 E0 N c12_0 s = seqX (execA E C (fg 12) B 22 E0 N c12_1 s) (execA E C (fg 12) B 22 E0 N c12_2) := x_seq (by rfl) s
theorem fi_12 : fInfo E 12 = some ⟨22, #[.cell 4 27, .cell 5 27, .tmp 6], c12_0⟩ := nrfl rfl
theorem b_12 (args : List AV) : bodyA E C fg N 12 args H B = bodyX E [.cell 4 27, .cell 5 27, .tmp 6] (execA E C (fg 12) B 22 H N c12_0 (frame0 args 0 [], H)) := bodyA_eq fi_12 args H
noncomputable def c58_0 : Code := kBody Proofs.Try.f58
noncomputable def c58_1 : Code := kL c58_0
noncomputable def r58_0 : Array Oper := kO c58_1
noncomputable def o58_0_0 : Oper := opN r58_0 0
noncomputable def o58_0_1 : Oper := opN r58_0 1
theorem x58_1 : execA E C (fg 58) B 73 E0 N c58_1 s = regX (runA E C B 73 r58_0 r58_0.toList s) (fun s => gcM E0 [0] (forget s.1 [0], s.2)) := x_reg (ops := r58_0) (by rfl) (by rfl) s
theorem r58_0_l : r58_0.toList = [o58_0_0, o58_0_1] := nrfl rfl
theorem s58_0_0 : stepA E C B 73 r58_0 o58_0_0 (φ, H) = stp (some 3) φ H (opBox (B + 3) (acells (fget φ 0))) := nrfl rfl
theorem s58_0_1 : stepA E C B 73 r58_0 o58_0_1 (φ, H) = stp (some 4) φ H (opBox (B + 4) (zeroCells E.T 27)) := nrfl rfl
noncomputable def c58_2 : Code := kR c58_0
noncomputable def c58_3 : Code := kL c58_2
noncomputable def r58_1 : Array Oper := kO c58_3
noncomputable def o58_1_0 : Oper := opN r58_1 0
noncomputable def o58_1_1 : Oper := opN r58_1 1
noncomputable def o58_1_2 : Oper := opN r58_1 2
noncomputable def o58_1_3 : Oper := opN r58_1 3
noncomputable def o58_1_4 : Oper := opN r58_1 4
theorem x58_3 : execA E C (fg 58) B 73 E0 N c58_3 s = regX (runA E C B 73 r58_1 r58_1.toList s) (fun s => gcM E0 [1, 2, 12, 13, 14, 15] (forget s.1 [1, 2, 12, 13, 14, 15], s.2)) := x_reg (ops := r58_1) (by rfl) (by rfl) s
theorem r58_1_l : r58_1.toList = [o58_1_0, o58_1_1, o58_1_2, o58_1_3, o58_1_4] := nrfl rfl
theorem s58_1_0 : stepA E C B 73 r58_1 o58_1_0 (φ, H) = stp (some 12) φ H (just (aLoad E.T 22 (fget φ 1))) := nrfl rfl
theorem s58_1_1 : stepA E C B 73 r58_1 o58_1_1 (φ, H) = stp (some 13) φ H (just (aLoad E.T 3 (fget φ 2))) := nrfl rfl
theorem s58_1_2 : stepA E C B 73 r58_1 o58_1_2 (φ, H) = stp (some 14) φ H (just (aSlice E.T 22 (fget φ 12) (some (fget φ 13)) none none)) := nrfl rfl
theorem s58_1_3 : stepA E C B 73 r58_1 o58_1_3 (φ, H) = stp (some 15) φ H (aCall C (fun j => B + j * 73 + 15) true 41 [(fget φ 14)]) := nrfl rfl
theorem s58_1_4 : stepA E C B 73 r58_1 o58_1_4 (φ, H) = some (fput φ 5 (fget φ 15), H) := nrfl rfl
noncomputable def c58_4 : Code := kR c58_2
noncomputable def c58_5 : Code := kL c58_4
noncomputable def r58_2 : Array Oper := kO c58_5
noncomputable def o58_2_0 : Oper := opN r58_2 0
noncomputable def o58_2_1 : Oper := opN r58_2 1
noncomputable def o58_2_2 : Oper := opN r58_2 2
theorem x58_5 : execA E C (fg 58) B 73 E0 N c58_5 s = regX (runA E C B 73 r58_2 r58_2.toList s) (fun s => gcM E0 [16, 17, 18] (forget s.1 [16, 17, 18], s.2)) := x_reg (ops := r58_2) (by rfl) (by rfl) s
theorem r58_2_l : r58_2.toList = [o58_2_0, o58_2_1, o58_2_2] := nrfl rfl
theorem s58_2_0 : stepA E C B 73 r58_2 o58_2_0 (φ, H) = some (fput φ 16 (fget φ 5), H) := nrfl rfl
theorem s58_2_1 : stepA E C B 73 r58_2 o58_2_1 (φ, H) = stp (some 17) φ H (.pure (.clo 60 [(fget φ 3)], [])) := nrfl rfl
theorem s58_2_2 : stepA E C B 73 r58_2 o58_2_2 (φ, H) = mutX (some 18) φ (C 59 [(fget φ 16), (fget φ 17)] H (B + 73 * 8)) := nrfl rfl
noncomputable def c58_6 : Code := kR c58_4
noncomputable def c58_7 : Code := kL c58_6
noncomputable def r58_3 : Array Oper := kO c58_7
noncomputable def o58_3_0 : Oper := opN r58_3 0
noncomputable def o58_3_1 : Oper := opN r58_3 1
theorem x58_7 : execA E C (fg 58) B 73 E0 N c58_7 s = regX (runA E C B 73 r58_3 r58_3.toList s) (fun s => gcM E0 [] (forget s.1 [], s.2)) := x_reg (ops := r58_3) (by rfl) (by rfl) s
theorem r58_3_l : r58_3.toList = [o58_3_0, o58_3_1] := nrfl rfl
theorem s58_3_0 : stepA E C B 73 r58_3 o58_3_0 (φ, H) = some (fput φ 6 (.int .i64 0), H) := nrfl rfl
theorem s58_3_1 : stepA E C B 73 r58_3 o58_3_1 (φ, H) = some (fput φ 7 (.int .i64 0), H) := nrfl rfl
noncomputable def c58_8 : Code := kR c58_6
noncomputable def c58_9 : Code := kL c58_8
noncomputable def c58_10 : Code := kL c58_9
noncomputable def r58_4 : Array Oper := kO c58_10
noncomputable def o58_4_0 : Oper := opN r58_4 0
noncomputable def o58_4_1 : Oper := opN r58_4 1
noncomputable def o58_4_2 : Oper := opN r58_4 2
theorem x58_10 : execA E C (fg 58) B 73 E0 N c58_10 s = regX (runA E C B 73 r58_4 r58_4.toList s) (fun s => gcM E0 [] (forget s.1 [], s.2)) := x_reg (ops := r58_4) (by rfl) (by rfl) s
theorem r58_4_l : r58_4.toList = [o58_4_0, o58_4_1, o58_4_2] := nrfl rfl
theorem s58_4_0 : stepA E C B 73 r58_4 o58_4_0 (φ, H) = some (fput φ 19 (fget φ 5), H) := nrfl rfl
theorem s58_4_1 : stepA E C B 73 r58_4 o58_4_1 (φ, H) = stp (some 20) φ H (aBuiltin E.T (B + 20) .len #[22] [(fget φ 19)]) := nrfl rfl
theorem s58_4_2 : stepA E C B 73 r58_4 o58_4_2 (φ, H) = some (fput φ 21 (.int .i64 0), H) := nrfl rfl
noncomputable def c58_11 : Code := kR c58_9
noncomputable def c58_12 : Code := kB c58_11
noncomputable def c58_13 : Code := kB c58_12
noncomputable def c58_14 : Code := kL c58_13
noncomputable def r58_5 : Array Oper := kO c58_14
noncomputable def o58_5_0 : Oper := opN r58_5 0
theorem x58_14 : execA E C (fg 58) B 73 E0 N c58_14 s = regX (runA E C B 73 r58_5 r58_5.toList s) (fun s => gcM E0 [] (forget s.1 [], s.2)) := x_reg (ops := r58_5) (by rfl) (by rfl) s
theorem r58_5_l : r58_5.toList = [o58_5_0] := nrfl rfl
theorem s58_5_0 : stepA E C B 73 r58_5 o58_5_0 (φ, H) = stp (some 22) φ H (just (aBin E.T .lss 3 (fget φ 21) (fget φ 20))) := nrfl rfl
noncomputable def c58_15 : Code := kR c58_13
noncomputable def c58_16 : Code := kL c58_15
noncomputable def c58_17 : Code := kT c58_16
theorem x58_17 : execA E C (fg 58) B 73 E0 N c58_17 s = some (.normal, s) := x_skip (by rfl) s
noncomputable def c58_18 : Code := kE c58_16
theorem x58_18 : execA E C (fg 58) B 73 E0 N c58_18 s = some (.exit 0, s) := x_exit (by rfl) s
theorem x58_16 : execA E C (fg 58) B 73 E0 N c58_16 (φ, H) = condX (fget φ 22) (execA E C (fg 58) B 73 E0 N c58_17 (φ, H)) (execA E C (fg 58) B 73 E0 N c58_18 (φ, H)) := x_cond (by rfl) _
noncomputable def c58_19 : Code := kR c58_15
noncomputable def c58_20 : Code := kL c58_19
noncomputable def c58_21 : Code := kB c58_20
noncomputable def c58_22 : Code := kL c58_21
noncomputable def r58_6 : Array Oper := kO c58_22
noncomputable def o58_6_0 : Oper := opN r58_6 0
noncomputable def o58_6_1 : Oper := opN r58_6 1
noncomputable def o58_6_2 : Oper := opN r58_6 2
noncomputable def o58_6_3 : Oper := opN r58_6 3
theorem x58_22 : execA E C (fg 58) B 73 E0 N c58_22 s = regX (runA E C B 73 r58_6 r58_6.toList s) (fun s => gcM E0 [22, 23, 24] (forget s.1 [22, 23, 24], s.2)) := x_reg (ops := r58_6) (by rfl) (by rfl) s
theorem r58_6_l : r58_6.toList = [o58_6_0, o58_6_1, o58_6_2, o58_6_3] := nrfl rfl
theorem s58_6_0 : stepA E C B 73 r58_6 o58_6_0 (φ, H) = stp (some 23) φ H (just (aIndexAddr E.T 22 (fget φ 19) (fget φ 21))) := nrfl rfl
theorem s58_6_1 : stepA E C B 73 r58_6 o58_6_1 (φ, H) = stp (some 24) φ H (just (aLoad E.T 45 (fget φ 23))) := nrfl rfl
theorem s58_6_2 : stepA E C B 73 r58_6 o58_6_2 (φ, H) = stp (some 9) φ H (opBox (B + 9) (zeroCells E.T 45)) := nrfl rfl
theorem s58_6_3 : stepA E C B 73 r58_6 o58_6_3 (φ, H) = stp none φ H (opStore E.T 45 (fget φ 9) (fget φ 24)) := nrfl rfl
noncomputable def c58_23 : Code := kR c58_21
noncomputable def c58_24 : Code := kL c58_23
noncomputable def r58_7 : Array Oper := kO c58_24
noncomputable def o58_7_0 : Oper := opN r58_7 0
noncomputable def o58_7_1 : Oper := opN r58_7 1
noncomputable def o58_7_2 : Oper := opN r58_7 2
noncomputable def o58_7_3 : Oper := opN r58_7 3
noncomputable def o58_7_4 : Oper := opN r58_7 4
noncomputable def o58_7_5 : Oper := opN r58_7 5
noncomputable def o58_7_6 : Oper := opN r58_7 6
noncomputable def o58_7_7 : Oper := opN r58_7 7
theorem x58_24 : execA E C (fg 58) B 73 E0 N c58_24 s = regX (runA E C B 73 r58_7 r58_7.toList s) (fun s => gcM E0 [25, 26, 27, 28, 29, 30, 31] (forget s.1 [25, 26, 27, 28, 29, 30, 31], s.2)) := x_reg (ops := r58_7) (by rfl) (by rfl) s
theorem r58_7_l : r58_7.toList = [o58_7_0, o58_7_1, o58_7_2, o58_7_3, o58_7_4, o58_7_5, o58_7_6, o58_7_7] := nrfl rfl
theorem s58_7_0 : stepA E C B 73 r58_7 o58_7_0 (φ, H) = some (fput φ 25 (fget φ 6), H) := nrfl rfl
theorem s58_7_1 : stepA E C B 73 r58_7 o58_7_1 (φ, H) = stp (some 26) φ H (just (aFieldAddr E.T 45 (fget φ 9) 2)) := nrfl rfl
theorem s58_7_2 : stepA E C B 73 r58_7 o58_7_2 (φ, H) = stp (some 27) φ H (just (aLoad E.T 3 (fget φ 26))) := nrfl rfl
theorem s58_7_3 : stepA E C B 73 r58_7 o58_7_3 (φ, H) = stp (some 28) φ H (just (aFieldAddr E.T 45 (fget φ 9) 1)) := nrfl rfl
theorem s58_7_4 : stepA E C B 73 r58_7 o58_7_4 (φ, H) = stp (some 29) φ H (just (aLoad E.T 3 (fget φ 28))) := nrfl rfl
theorem s58_7_5 : stepA E C B 73 r58_7 o58_7_5 (φ, H) = stp (some 30) φ H (just (aBin E.T .mul 3 (fget φ 27) (fget φ 29))) := nrfl rfl
theorem s58_7_6 : stepA E C B 73 r58_7 o58_7_6 (φ, H) = stp (some 31) φ H (just (aBin E.T .add 3 (fget φ 25) (fget φ 30))) := nrfl rfl
theorem s58_7_7 : stepA E C B 73 r58_7 o58_7_7 (φ, H) = some (fput φ 6 (fget φ 31), H) := nrfl rfl
noncomputable def c58_25 : Code := kR c58_23
noncomputable def r58_8 : Array Oper := kO c58_25
noncomputable def o58_8_0 : Oper := opN r58_8 0
noncomputable def o58_8_1 : Oper := opN r58_8 1
noncomputable def o58_8_2 : Oper := opN r58_8 2
noncomputable def o58_8_3 : Oper := opN r58_8 3
noncomputable def o58_8_4 : Oper := opN r58_8 4
theorem x58_25 : execA E C (fg 58) B 73 E0 N c58_25 s = regX (runA E C B 73 r58_8 r58_8.toList s) (fun s => gcM E0 [9, 32, 33, 34, 35] (forget s.1 [9, 32, 33, 34, 35], s.2)) := x_reg (ops := r58_8) (by rfl) (by rfl) s
theorem r58_8_l : r58_8.toList = [o58_8_0, o58_8_1, o58_8_2, o58_8_3, o58_8_4] := nrfl rfl
theorem s58_8_0 : stepA E C B 73 r58_8 o58_8_0 (φ, H) = some (fput φ 32 (fget φ 7), H) := nrfl rfl
theorem s58_8_1 : stepA E C B 73 r58_8 o58_8_1 (φ, H) = stp (some 33) φ H (just (aFieldAddr E.T 45 (fget φ 9) 2)) := nrfl rfl
theorem s58_8_2 : stepA E C B 73 r58_8 o58_8_2 (φ, H) = stp (some 34) φ H (just (aLoad E.T 3 (fget φ 33))) := nrfl rfl
theorem s58_8_3 : stepA E C B 73 r58_8 o58_8_3 (φ, H) = stp (some 35) φ H (just (aBin E.T .add 3 (fget φ 32) (fget φ 34))) := nrfl rfl
theorem s58_8_4 : stepA E C B 73 r58_8 o58_8_4 (φ, H) = some (fput φ 7 (fget φ 35), H) := nrfl rfl
theorem x58_23 : execA E C (fg 58) B 73 E0 N c58_23 s = seqX (execA E C (fg 58) B 73 E0 N c58_24 s) (execA E C (fg 58) B 73 E0 N c58_25) := x_seq (by rfl) s
theorem x58_21 : execA E C (fg 58) B 73 E0 N c58_21 s = seqX (execA E C (fg 58) B 73 E0 N c58_22 s) (execA E C (fg 58) B 73 E0 N c58_23) := x_seq (by rfl) s
theorem x58_20 : execA E C (fg 58) B 73 E0 N c58_20 s = blockX 1 (fun s => (forget s.1 [], s.2)) (execA E C (fg 58) B 73 E0 N c58_21 s) := x_block (by rfl) (by rfl) s
noncomputable def c58_26 : Code := kR c58_19
noncomputable def r58_9 : Array Oper := kO c58_26
noncomputable def o58_9_0 : Oper := opN r58_9 0
noncomputable def o58_9_1 : Oper := opN r58_9 1
theorem x58_26 : execA E C (fg 58) B 73 E0 N c58_26 s = regX (runA E C B 73 r58_9 r58_9.toList s) (fun s => gcM E0 [36] (forget s.1 [36], s.2)) := x_reg (ops := r58_9) (by rfl) (by rfl) s
theorem r58_9_l : r58_9.toList = [o58_9_0, o58_9_1] := nrfl rfl
theorem s58_9_0 : stepA E C B 73 r58_9 o58_9_0 (φ, H) = stp (some 36) φ H (just (aBin E.T .add 3 (fget φ 21) (.int .i64 1))) := nrfl rfl
theorem s58_9_1 : stepA E C B 73 r58_9 o58_9_1 (φ, H) = some (fput φ 21 (fget φ 36), H) := nrfl rfl
theorem x58_19 : execA E C (fg 58) B 73 E0 N c58_19 s = seqX (execA E C (fg 58) B 73 E0 N c58_20 s) (execA E C (fg 58) B 73 E0 N c58_26) := x_seq (by rfl) s
theorem x58_15 : execA E C (fg 58) B 73 E0 N c58_15 s = seqX (execA E C (fg 58) B 73 E0 N c58_16 s) (execA E C (fg 58) B 73 E0 N c58_19) := x_seq (by rfl) s
theorem x58_13 : execA E C (fg 58) B 73 E0 N c58_13 s = seqX (execA E C (fg 58) B 73 E0 N c58_14 s) (execA E C (fg 58) B 73 E0 N c58_15) := x_seq (by rfl) s
theorem x58_12 : execA E C (fg 58) B 73 E0 N c58_12 s = iterA (execA E C (fg 58) B 73 E0 N c58_13) (headA E0) N s := x_loop (by rfl) s
theorem x58_11 : execA E C (fg 58) B 73 E0 N c58_11 s = blockX 0 (fun s => (forget s.1 [19, 20, 21, 22], s.2)) (execA E C (fg 58) B 73 E0 N c58_12 s) := x_block (by rfl) (by rfl) s
theorem x58_9 : execA E C (fg 58) B 73 E0 N c58_9 s = seqX (execA E C (fg 58) B 73 E0 N c58_10 s) (execA E C (fg 58) B 73 E0 N c58_11) := x_seq (by rfl) s
noncomputable def c58_27 : Code := kR c58_8
noncomputable def c58_28 : Code := kL c58_27
noncomputable def c58_29 : Code := kL c58_28
noncomputable def r58_10 : Array Oper := kO c58_29
noncomputable def o58_10_0 : Oper := opN r58_10 0
noncomputable def o58_10_1 : Oper := opN r58_10 1
noncomputable def o58_10_2 : Oper := opN r58_10 2
theorem x58_29 : execA E C (fg 58) B 73 E0 N c58_29 s = regX (runA E C B 73 r58_10 r58_10.toList s) (fun s => gcM E0 [5] (forget s.1 [5], s.2)) := x_reg (ops := r58_10) (by rfl) (by rfl) s
theorem r58_10_l : r58_10.toList = [o58_10_0, o58_10_1, o58_10_2] := nrfl rfl
theorem s58_10_0 : stepA E C B 73 r58_10 o58_10_0 (φ, H) = some (fput φ 37 (fget φ 5), H) := nrfl rfl
theorem s58_10_1 : stepA E C B 73 r58_10 o58_10_1 (φ, H) = stp (some 38) φ H (aBuiltin E.T (B + 38) .len #[22] [(fget φ 37)]) := nrfl rfl
theorem s58_10_2 : stepA E C B 73 r58_10 o58_10_2 (φ, H) = some (fput φ 39 (.int .i64 0), H) := nrfl rfl
noncomputable def c58_30 : Code := kR c58_28
noncomputable def c58_31 : Code := kB c58_30
noncomputable def c58_32 : Code := kB c58_31
noncomputable def c58_33 : Code := kL c58_32
noncomputable def r58_11 : Array Oper := kO c58_33
noncomputable def o58_11_0 : Oper := opN r58_11 0
theorem x58_33 : execA E C (fg 58) B 73 E0 N c58_33 s = regX (runA E C B 73 r58_11 r58_11.toList s) (fun s => gcM E0 [] (forget s.1 [], s.2)) := x_reg (ops := r58_11) (by rfl) (by rfl) s
theorem r58_11_l : r58_11.toList = [o58_11_0] := nrfl rfl
theorem s58_11_0 : stepA E C B 73 r58_11 o58_11_0 (φ, H) = stp (some 40) φ H (just (aBin E.T .lss 3 (fget φ 39) (fget φ 38))) := nrfl rfl
noncomputable def c58_34 : Code := kR c58_32
noncomputable def c58_35 : Code := kL c58_34
noncomputable def c58_36 : Code := kT c58_35
theorem x58_36 : execA E C (fg 58) B 73 E0 N c58_36 s = some (.normal, s) := x_skip (by rfl) s
noncomputable def c58_37 : Code := kE c58_35
theorem x58_37 : execA E C (fg 58) B 73 E0 N c58_37 s = some (.exit 2, s) := x_exit (by rfl) s
theorem x58_35 : execA E C (fg 58) B 73 E0 N c58_35 (φ, H) = condX (fget φ 40) (execA E C (fg 58) B 73 E0 N c58_36 (φ, H)) (execA E C (fg 58) B 73 E0 N c58_37 (φ, H)) := x_cond (by rfl) _
noncomputable def c58_38 : Code := kR c58_34
noncomputable def c58_39 : Code := kL c58_38
noncomputable def c58_40 : Code := kB c58_39
noncomputable def c58_41 : Code := kL c58_40
noncomputable def r58_12 : Array Oper := kO c58_41
noncomputable def o58_12_0 : Oper := opN r58_12 0
noncomputable def o58_12_1 : Oper := opN r58_12 1
noncomputable def o58_12_2 : Oper := opN r58_12 2
noncomputable def o58_12_3 : Oper := opN r58_12 3
theorem x58_41 : execA E C (fg 58) B 73 E0 N c58_41 s = regX (runA E C B 73 r58_12 r58_12.toList s) (fun s => gcM E0 [40, 41, 42] (forget s.1 [40, 41, 42], s.2)) := x_reg (ops := r58_12) (by rfl) (by rfl) s
theorem r58_12_l : r58_12.toList = [o58_12_0, o58_12_1, o58_12_2, o58_12_3] := nrfl rfl
theorem s58_12_0 : stepA E C B 73 r58_12 o58_12_0 (φ, H) = stp (some 41) φ H (just (aIndexAddr E.T 22 (fget φ 37) (fget φ 39))) := nrfl rfl
theorem s58_12_1 : stepA E C B 73 r58_12 o58_12_1 (φ, H) = stp (some 42) φ H (just (aLoad E.T 45 (fget φ 41))) := nrfl rfl
theorem s58_12_2 : stepA E C B 73 r58_12 o58_12_2 (φ, H) = stp (some 11) φ H (opBox (B + 11) (zeroCells E.T 45)) := nrfl rfl
theorem s58_12_3 : stepA E C B 73 r58_12 o58_12_3 (φ, H) = stp none φ H (opStore E.T 45 (fget φ 11) (fget φ 42)) := nrfl rfl
noncomputable def c58_42 : Code := kR c58_40
noncomputable def c58_43 : Code := kL c58_42
noncomputable def r58_13 : Array Oper := kO c58_43
noncomputable def o58_13_0 : Oper := opN r58_13 0
noncomputable def o58_13_1 : Oper := opN r58_13 1
noncomputable def o58_13_2 : Oper := opN r58_13 2
noncomputable def o58_13_3 : Oper := opN r58_13 3
noncomputable def o58_13_4 : Oper := opN r58_13 4
noncomputable def o58_13_5 : Oper := opN r58_13 5
noncomputable def o58_13_6 : Oper := opN r58_13 6
noncomputable def o58_13_7 : Oper := opN r58_13 7
noncomputable def o58_13_8 : Oper := opN r58_13 8
theorem x58_43 : execA E C (fg 58) B 73 E0 N c58_43 s = regX (runA E C B 73 r58_13 r58_13.toList s) (fun s => gcM E0 [43, 44, 45, 46, 47, 48, 49, 50] (forget s.1 [43, 44, 45, 46, 47, 48, 49, 50], s.2)) := x_reg (ops := r58_13) (by rfl) (by rfl) s
theorem r58_13_l : r58_13.toList = [o58_13_0, o58_13_1, o58_13_2, o58_13_3, o58_13_4, o58_13_5, o58_13_6, o58_13_7, o58_13_8] := nrfl rfl
theorem s58_13_0 : stepA E C B 73 r58_13 o58_13_0 (φ, H) = stp (some 43) φ H (just (aLoad E.T 3 (fget φ 3))) := nrfl rfl
theorem s58_13_1 : stepA E C B 73 r58_13 o58_13_1 (φ, H) = stp (some 44) φ H (just (aFieldAddr E.T 45 (fget φ 11) 1)) := nrfl rfl
theorem s58_13_2 : stepA E C B 73 r58_13 o58_13_2 (φ, H) = stp (some 45) φ H (just (aLoad E.T 3 (fget φ 44))) := nrfl rfl
theorem s58_13_3 : stepA E C B 73 r58_13 o58_13_3 (φ, H) = some (fput φ 46 (fget φ 7), H) := nrfl rfl
theorem s58_13_4 : stepA E C B 73 r58_13 o58_13_4 (φ, H) = stp (some 47) φ H (just (aBin E.T .mul 3 (fget φ 45) (fget φ 46))) := nrfl rfl
theorem s58_13_5 : stepA E C B 73 r58_13 o58_13_5 (φ, H) = some (fput φ 48 (fget φ 6), H) := nrfl rfl
theorem s58_13_6 : stepA E C B 73 r58_13 o58_13_6 (φ, H) = stp (some 49) φ H (just (aBin E.T .sub 3 (fget φ 47) (fget φ 48))) := nrfl rfl
theorem s58_13_7 : stepA E C B 73 r58_13 o58_13_7 (φ, H) = stp (some 50) φ H (just (aBin E.T .mul 3 (fget φ 43) (fget φ 49))) := nrfl rfl
theorem s58_13_8 : stepA E C B 73 r58_13 o58_13_8 (φ, H) = stp (some 51) φ H (just (aBin E.T .gtr 3 (fget φ 50) (.int .i64 0))) := nrfl rfl
noncomputable def c58_44 : Code := kR c58_42
noncomputable def c58_45 : Code := kT c58_44
noncomputable def c58_46 : Code := kL c58_45
noncomputable def r58_14 : Array Oper := kO c58_46
noncomputable def o58_14_0 : Oper := opN r58_14 0
noncomputable def o58_14_1 : Oper := opN r58_14 1
noncomputable def o58_14_2 : Oper := opN r58_14 2
noncomputable def o58_14_3 : Oper := opN r58_14 3
noncomputable def o58_14_4 : Oper := opN r58_14 4
noncomputable def o58_14_5 : Oper := opN r58_14 5
noncomputable def o58_14_6 : Oper := opN r58_14 6
noncomputable def o58_14_7 : Oper := opN r58_14 7
noncomputable def o58_14_8 : Oper := opN r58_14 8
noncomputable def o58_14_9 : Oper := opN r58_14 9
noncomputable def o58_14_10 : Oper := opN r58_14 10
theorem x58_46 : execA E C (fg 58) B 73 E0 N c58_46 s = regX (runA E C B 73 r58_14 r58_14.toList s) (fun s => gcM E0 [51, 52, 53, 54, 55, 56, 57, 58, 59, 60, 61] (forget s.1 [51, 52, 53, 54, 55, 56, 57, 58, 59, 60, 61], s.2)) := x_reg (ops := r58_14) (by rfl) (by rfl) s
theorem r58_14_l : r58_14.toList = [o58_14_0, o58_14_1, o58_14_2, o58_14_3, o58_14_4, o58_14_5, o58_14_6, o58_14_7, o58_14_8, o58_14_9, o58_14_10] := nrfl rfl
theorem s58_14_0 : stepA E C B 73 r58_14 o58_14_0 (φ, H) = some (fput φ 52 (fget φ 6), H) := nrfl rfl
theorem s58_14_1 : stepA E C B 73 r58_14 o58_14_1 (φ, H) = stp (some 53) φ H (just (aFieldAddr E.T 45 (fget φ 11) 3)) := nrfl rfl
theorem s58_14_2 : stepA E C B 73 r58_14 o58_14_2 (φ, H) = stp (some 54) φ H (just (aLoad E.T 3 (fget φ 53))) := nrfl rfl
theorem s58_14_3 : stepA E C B 73 r58_14 o58_14_3 (φ, H) = stp (some 55) φ H (just (aFieldAddr E.T 45 (fget φ 11) 2)) := nrfl rfl
theorem s58_14_4 : stepA E C B 73 r58_14 o58_14_4 (φ, H) = stp (some 56) φ H (just (aLoad E.T 3 (fget φ 55))) := nrfl rfl
theorem s58_14_5 : stepA E C B 73 r58_14 o58_14_5 (φ, H) = stp (some 57) φ H (just (aBin E.T .sub 3 (fget φ 54) (fget φ 56))) := nrfl rfl
theorem s58_14_6 : stepA E C B 73 r58_14 o58_14_6 (φ, H) = stp (some 58) φ H (just (aFieldAddr E.T 45 (fget φ 11) 1)) := nrfl rfl
theorem s58_14_7 : stepA E C B 73 r58_14 o58_14_7 (φ, H) = stp (some 59) φ H (just (aLoad E.T 3 (fget φ 58))) := nrfl rfl
theorem s58_14_8 : stepA E C B 73 r58_14 o58_14_8 (φ, H) = stp (some 60) φ H (just (aBin E.T .mul 3 (fget φ 57) (fget φ 59))) := nrfl rfl
theorem s58_14_9 : stepA E C B 73 r58_14 o58_14_9 (φ, H) = stp (some 61) φ H (just (aBin E.T .add 3 (fget φ 52) (fget φ 60))) := nrfl rfl
theorem s58_14_10 : stepA E C B 73 r58_14 o58_14_10 (φ, H) = some (fput φ 6 (fget φ 61), H) := nrfl rfl
noncomputable def c58_47 : Code := kR c58_45
noncomputable def r58_15 : Array Oper := kO c58_47
noncomputable def o58_15_0 : Oper := opN r58_15 0
noncomputable def o58_15_1 : Oper := opN r58_15 1
noncomputable def o58_15_2 : Oper := opN r58_15 2
noncomputable def o58_15_3 : Oper := opN r58_15 3
noncomputable def o58_15_4 : Oper := opN r58_15 4
noncomputable def o58_15_5 : Oper := opN r58_15 5
noncomputable def o58_15_6 : Oper := opN r58_15 6
noncomputable def o58_15_7 : Oper := opN r58_15 7
theorem x58_47 : execA E C (fg 58) B 73 E0 N c58_47 s = regX (runA E C B 73 r58_15 r58_15.toList s) (fun s => gcM E0 [11, 62, 63, 64, 65, 66, 67, 68] (forget s.1 [11, 62, 63, 64, 65, 66, 67, 68], s.2)) := x_reg (ops := r58_15) (by rfl) (by rfl) s
theorem r58_15_l : r58_15.toList = [o58_15_0, o58_15_1, o58_15_2, o58_15_3, o58_15_4, o58_15_5, o58_15_6, o58_15_7] := nrfl rfl
theorem s58_15_0 : stepA E C B 73 r58_15 o58_15_0 (φ, H) = some (fput φ 62 (fget φ 7), H) := nrfl rfl
theorem s58_15_1 : stepA E C B 73 r58_15 o58_15_1 (φ, H) = stp (some 63) φ H (just (aFieldAddr E.T 45 (fget φ 11) 3)) := nrfl rfl
theorem s58_15_2 : stepA E C B 73 r58_15 o58_15_2 (φ, H) = stp (some 64) φ H (just (aLoad E.T 3 (fget φ 63))) := nrfl rfl
theorem s58_15_3 : stepA E C B 73 r58_15 o58_15_3 (φ, H) = stp (some 65) φ H (just (aFieldAddr E.T 45 (fget φ 11) 2)) := nrfl rfl
theorem s58_15_4 : stepA E C B 73 r58_15 o58_15_4 (φ, H) = stp (some 66) φ H (just (aLoad E.T 3 (fget φ 65))) := nrfl rfl
theorem s58_15_5 : stepA E C B 73 r58_15 o58_15_5 (φ, H) = stp (some 67) φ H (just (aBin E.T .sub 3 (fget φ 64) (fget φ 66))) := nrfl rfl
theorem s58_15_6 : stepA E C B 73 r58_15 o58_15_6 (φ, H) = stp (some 68) φ H (just (aBin E.T .add 3 (fget φ 62) (fget φ 67))) := nrfl rfl
theorem s58_15_7 : stepA E C B 73 r58_15 o58_15_7 (φ, H) = some (fput φ 7 (fget φ 68), H) := nrfl rfl
theorem x58_45 : execA E C (fg 58) B 73 E0 N c58_45 s = seqX (execA E C (fg 58) B 73 E0 N c58_46 s) (execA E C (fg 58) B 73 E0 N c58_47) := x_seq (by rfl) s
noncomputable def c58_48 : Code := kE c58_44
theorem x58_48 : execA E C (fg 58) B 73 E0 N c58_48 s = some (.normal, s) := x_skip (by rfl) s
theorem x58_44 : execA E C (fg 58) B 73 E0 N c58_44 (φ, H) = condX (fget φ 51) (execA E C (fg 58) B 73 E0 N c58_45 (φ, H)) (execA E C (fg 58) B 73 E0 N c58_48 (φ, H)) := x_cond (by rfl) _
theorem x58_42 : execA E C (fg 58) B 73 E0 N c58_42 s = seqX (execA E C (fg 58) B 73 E0 N c58_43 s) (execA E C (fg 58) B 73 E0 N c58_44) := x_seq (by rfl) s
theorem x58_40 : execA E C (fg 58) B 73 E0 N c58_40 s = seqX (execA E C (fg 58) B 73 E0 N c58_41 s) (execA E C (fg 58) B 73 E0 N c58_42) := x_seq (by rfl) s
theorem x58_39 : execA E C (fg 58) B 73 E0 N c58_39 s = blockX 3 (fun s => (forget s.1 [11, 51], s.2)) (execA E C (fg 58) B 73 E0 N c58_40 s) := x_block (by rfl) (by rfl) s
noncomputable def c58_49 : Code := kR c58_38
noncomputable def r58_16 : Array Oper := kO c58_49
noncomputable def o58_16_0 : Oper := opN r58_16 0
noncomputable def o58_16_1 : Oper := opN r58_16 1
theorem x58_49 : execA E C (fg 58) B 73 E0 N c58_49 s = regX (runA E C B 73 r58_16 r58_16.toList s) (fun s => gcM E0 [69] (forget s.1 [69], s.2)) := x_reg (ops := r58_16) (by rfl) (by rfl) s
theorem r58_16_l : r58_16.toList = [o58_16_0, o58_16_1] := nrfl rfl
theorem s58_16_0 : stepA E C B 73 r58_16 o58_16_0 (φ, H) = stp (some 69) φ H (just (aBin E.T .add 3 (fget φ 39) (.int .i64 1))) := nrfl rfl
theorem s58_16_1 : stepA E C B 73 r58_16 o58_16_1 (φ, H) = some (fput φ 39 (fget φ 69), H) := nrfl rfl
theorem x58_38 : execA E C (fg 58) B 73 E0 N c58_38 s = seqX (execA E C (fg 58) B 73 E0 N c58_39 s) (execA E C (fg 58) B 73 E0 N c58_49) := x_seq (by rfl) s
theorem x58_34 : execA E C (fg 58) B 73 E0 N c58_34 s = seqX (execA E C (fg 58) B 73 E0 N c58_35 s) (execA E C (fg 58) B 73 E0 N c58_38) := x_seq (by rfl) s
theorem x58_32 : execA E C (fg 58) B 73 E0 N c58_32 s = seqX (execA E C (fg 58) B 73 E0 N c58_33 s) (execA E C (fg 58) B 73 E0 N c58_34) := x_seq (by rfl) s
theorem x58_31 : execA E C (fg 58) B 73 E0 N c58_31 s = iterA (execA E C (fg 58) B 73 E0 N c58_32) (headA E0) N s := x_loop (by rfl) s
theorem x58_30 : execA E C (fg 58) B 73 E0 N c58_30 s = blockX 2 (fun s => (forget s.1 [3, 37, 38, 39, 40], s.2)) (execA E C (fg 58) B 73 E0 N c58_31 s) := x_block (by rfl) (by rfl) s
theorem x58_28 : execA E C (fg 58) B 73 E0 N c58_28 s = seqX (execA E C (fg 58) B 73 E0 N c58_29 s) (execA E C (fg 58) B 73 E0 N c58_30) := x_seq (by rfl) s
noncomputable def c58_50 : Code := kR c58_27
noncomputable def c58_51 : Code := kL c58_50
noncomputable def r58_17 : Array Oper := kO c58_51
noncomputable def o58_17_0 : Oper := opN r58_17 0
noncomputable def o58_17_1 : Oper := opN r58_17 1
noncomputable def o58_17_2 : Oper := opN r58_17 2
noncomputable def o58_17_3 : Oper := opN r58_17 3
theorem x58_51 : execA E C (fg 58) B 73 E0 N c58_51 s = regX (runA E C B 73 r58_17 r58_17.toList s) (fun s => gcM E0 [6, 7, 70, 71, 72] (forget s.1 [6, 7, 70, 71, 72], s.2)) := x_reg (ops := r58_17) (by rfl) (by rfl) s
theorem r58_17_l : r58_17.toList = [o58_17_0, o58_17_1, o58_17_2, o58_17_3] := nrfl rfl
theorem s58_17_0 : stepA E C B 73 r58_17 o58_17_0 (φ, H) = some (fput φ 70 (fget φ 6), H) := nrfl rfl
theorem s58_17_1 : stepA E C B 73 r58_17 o58_17_1 (φ, H) = some (fput φ 71 (fget φ 7), H) := nrfl rfl
theorem s58_17_2 : stepA E C B 73 r58_17 o58_17_2 (φ, H) = stp (some 72) φ H (aCall C (fun j => B + j * 73 + 72) true 61 [(fget φ 70), (fget φ 71)]) := nrfl rfl
theorem s58_17_3 : stepA E C B 73 r58_17 o58_17_3 (φ, H) = stp none φ H (opStore E.T 27 (fget φ 4) (fget φ 72)) := nrfl rfl
noncomputable def c58_52 : Code := kR c58_50
theorem x58_52 : execA E C (fg 58) B 73 E0 N c58_52 s = some (.ret, s) := x_ret (by rfl) s
theorem x58_50 : execA E C (fg 58) B 73 E0 N c58_50 s = seqX (execA E C (fg 58) B 73 E0 N c58_51 s) (execA E C (fg 58) B 73 E0 N c58_52) := x_seq (by rfl) s
theorem x58_27 : execA E C (fg 58) B 73 E0 N c58_27 s = seqX (execA E C (fg 58) B 73 E0 N c58_28 s) (execA E C (fg 58) B 73 E0 N c58_50) := x_seq (by rfl) s
theorem x58_8 : execA E C (fg 58) B 73 E0 N c58_8 s = seqX (execA E C (fg 58) B 73 E0 N c58_9 s) (execA E C (fg 58) B 73 E0 N c58_27) := x_seq (by rfl) s
theorem x58_6 : execA E C (fg 58) B 73 E0 N c58_6 s = seqX (execA E C (fg 58) B 73 E0 N c58_7 s) (execA E C (fg 58) B 73 E0 N c58_8) := x_seq (by rfl) s
theorem x58_4 : execA E C (fg 58) B 73 E0 N c58_4 s = seqX (execA E C (fg 58) B 73 E0 N c58_5 s) (execA E C (fg 58) B 73 E0 N c58_6) := x_seq (by rfl) s
theorem x58_2 : execA E C (fg 58) B 73 E0 N c58_2 s = seqX (execA E C (fg 58) B 73 E0 N c58_3 s) (execA E C (fg 58) B 73 E0 N c58_4) := x_seq (by rfl) s
theorem x58_0 : execA E C (fg 58) B 73 E0 N c58_0 s = seqX (execA E C (fg 58) B 73 E0 N c58_1 s) (execA E C (fg 58) B 73 E0 N c58_2) := x_seq (by rfl) s
theorem fi_58 : fInfo E 58 = some ⟨73, #[.cell 4 27], c58_0⟩ := nrfl rfl
theorem b_58 (args : List AV) : bodyA E C fg N 58 args H B = bodyX E [.cell 4 27] (execA E C (fg 58) B 73 H N c58_0 (frame0 args 0 [], H)) := bodyA_eq fi_58 args H
noncomputable def c60_0 : Code := kBody Proofs.Try.f60
noncomputable def c60_1 : Code := kL c60_0
noncomputable def r60_0 : Array Oper := kO c60_1
noncomputable def o60_0_0 : Oper := opN r60_0 0
noncomputable def o60_0_1 : Oper := opN r60_0 1
noncomputable def o60_0_2 : Oper := opN r60_0 2
theorem x60_1 : execA E C (fg 60) B 13 E0 N c60_1 s = regX (runA E C B 13 r60_0 r60_0.toList s) (fun s => gcM E0 [0, 1, 5] (forget s.1 [0, 1, 5], s.2)) := x_reg (ops := r60_0) (by rfl) (by rfl) s
theorem r60_0_l : r60_0.toList = [o60_0_0, o60_0_1, o60_0_2] := nrfl rfl
theorem s60_0_0 : stepA E C B 13 r60_0 o60_0_0 (φ, H) = stp (some 3) φ H (opBox (B + 3) (acells (fget φ 0))) := nrfl rfl
theorem s60_0_1 : stepA E C B 13 r60_0 o60_0_1 (φ, H) = stp (some 4) φ H (opBox (B + 4) (acells (fget φ 1))) := nrfl rfl
theorem s60_0_2 : stepA E C B 13 r60_0 o60_0_2 (φ, H) = some (fput φ 5 (.int .i64 0), H) := nrfl rfl
noncomputable def c60_2 : Code := kR c60_0
noncomputable def c60_3 : Code := kL c60_2
noncomputable def r60_1 : Array Oper := kO c60_3
noncomputable def o60_1_0 : Oper := opN r60_1 0
noncomputable def o60_1_1 : Oper := opN r60_1 1
noncomputable def o60_1_2 : Oper := opN r60_1 2
noncomputable def o60_1_3 : Oper := opN r60_1 3
noncomputable def o60_1_4 : Oper := opN r60_1 4
noncomputable def o60_1_5 : Oper := opN r60_1 5
noncomputable def o60_1_6 : Oper := opN r60_1 6
noncomputable def o60_1_7 : Oper := opN r60_1 7
theorem x60_3 : execA E C (fg 60) B 13 E0 N c60_3 s = regX (runA E C B 13 r60_1 r60_1.toList s) (fun s => gcM E0 [2, 3, 4, 6, 7, 8, 9, 10, 11, 12] (forget s.1 [2, 3, 4, 6, 7, 8, 9, 10, 11, 12], s.2)) := x_reg (ops := r60_1) (by rfl) (by rfl) s
theorem r60_1_l : r60_1.toList = [o60_1_0, o60_1_1, o60_1_2, o60_1_3, o60_1_4, o60_1_5, o60_1_6, o60_1_7] := nrfl rfl
theorem s60_1_0 : stepA E C B 13 r60_1 o60_1_0 (φ, H) = stp (some 6) φ H (just (aLoad E.T 3 (fget φ 2))) := nrfl rfl
theorem s60_1_1 : stepA E C B 13 r60_1 o60_1_1 (φ, H) = stp (some 7) φ H (just (aFieldAddr E.T 45 (fget φ 4) 1)) := nrfl rfl
theorem s60_1_2 : stepA E C B 13 r60_1 o60_1_2 (φ, H) = stp (some 8) φ H (just (aLoad E.T 3 (fget φ 7))) := nrfl rfl
theorem s60_1_3 : stepA E C B 13 r60_1 o60_1_3 (φ, H) = stp (some 9) φ H (just (aFieldAddr E.T 45 (fget φ 3) 1)) := nrfl rfl
theorem s60_1_4 : stepA E C B 13 r60_1 o60_1_4 (φ, H) = stp (some 10) φ H (just (aLoad E.T 3 (fget φ 9))) := nrfl rfl
theorem s60_1_5 : stepA E C B 13 r60_1 o60_1_5 (φ, H) = stp (some 11) φ H (just (aBin E.T .sub 3 (fget φ 8) (fget φ 10))) := nrfl rfl
theorem s60_1_6 : stepA E C B 13 r60_1 o60_1_6 (φ, H) = stp (some 12) φ H (just (aBin E.T .mul 3 (fget φ 6) (fget φ 11))) := nrfl rfl
theorem s60_1_7 : stepA E C B 13 r60_1 o60_1_7 (φ, H) = some (fput φ 5 (fget φ 12), H) := nrfl rfl
noncomputable def c60_4 : Code := kR c60_2
theorem x60_4 : execA E C (fg 60) B 13 E0 N c60_4 s = some (.ret, s) := x_ret (by rfl) s
theorem x60_2 : execA E C (fg 60) B 13 E0 N c60_2 s = seqX (execA E C (fg 60) B 13 E0 N c60_3 s) (execA E C (fg 60) B 13 E0 N c60_4) := x_seq (by rfl) s
theorem x60_0 : execA E C (fg 60) B 13 E0 N c60_0 s = seqX (execA E C (fg 60) B 13 E0 N c60_1 s) (execA E C (fg 60) B 13 E0 N c60_2) := x_seq (by rfl) s
theorem fi_60 : fInfo E 60 = some ⟨13, #[.tmp 5], c60_0⟩ := nrfl rfl
theorem b_60 (args : List AV) : bodyA E C fg N 60 args H B = bodyX E [.tmp 5] (execA E C (fg 60) B 13 H N c60_0 (frame0 args 0 [], H)) := bodyA_eq fi_60 args H
noncomputable def c59_0 : Code := kBody Proofs.Try.f59
noncomputable def c59_1 : Code := kL c59_0
noncomputable def r59_0 : Array Oper := kO c59_1
noncomputable def o59_0_0 : Oper := opN r59_0 0
noncomputable def o59_0_1 : Oper := opN r59_0 1
noncomputable def o59_0_2 : Oper := opN r59_0 2
theorem x59_1 : execA E C (fg 59) B 14 E0 N c59_1 s = regX (runA E C B 14 r59_0 r59_0.toList s) (fun s => gcM E0 [5, 6] (forget s.1 [5, 6], s.2)) := x_reg (ops := r59_0) (by rfl) (by rfl) s
theorem r59_0_l : r59_0.toList = [o59_0_0, o59_0_1, o59_0_2] := nrfl rfl
theorem s59_0_0 : stepA E C B 14 r59_0 o59_0_0 (φ, H) = some (fput φ 5 (fget φ 0), H) := nrfl rfl
theorem s59_0_1 : stepA E C B 14 r59_0 o59_0_1 (φ, H) = stp (some 6) φ H (aBuiltin E.T (B + 6) .len #[22] [(fget φ 5)]) := nrfl rfl
theorem s59_0_2 : stepA E C B 14 r59_0 o59_0_2 (φ, H) = some (fput φ 4 (fget φ 6), H) := nrfl rfl
noncomputable def c59_2 : Code := kR c59_0
noncomputable def r59_1 : Array Oper := kO c59_2
noncomputable def o59_1_0 : Oper := opN r59_1 0
noncomputable def o59_1_1 : Oper := opN r59_1 1
noncomputable def o59_1_2 : Oper := opN r59_1 2
noncomputable def o59_1_3 : Oper := opN r59_1 3
noncomputable def o59_1_4 : Oper := opN r59_1 4
noncomputable def o59_1_5 : Oper := opN r59_1 5
noncomputable def o59_1_6 : Oper := opN r59_1 6
theorem x59_2 : execA E C (fg 59) B 14 E0 N c59_2 s = regX (runA E C B 14 r59_1 r59_1.toList s) (fun s => gcM E0 [0, 1, 4, 7, 8, 9, 10, 11, 12, 13] (forget s.1 [0, 1, 4, 7, 8, 9, 10, 11, 12, 13], s.2)) := x_reg (ops := r59_1) (by rfl) (by rfl) s
theorem r59_1_l : r59_1.toList = [o59_1_0, o59_1_1, o59_1_2, o59_1_3, o59_1_4, o59_1_5, o59_1_6] := nrfl rfl
theorem s59_1_0 : stepA E C B 14 r59_1 o59_1_0 (φ, H) = some (fput φ 7 (fget φ 0), H) := nrfl rfl
theorem s59_1_1 : stepA E C B 14 r59_1 o59_1_1 (φ, H) = some (fput φ 8 (fget φ 4), H) := nrfl rfl
theorem s59_1_2 : stepA E C B 14 r59_1 o59_1_2 (φ, H) = some (fput φ 9 (fget φ 4), H) := nrfl rfl
theorem s59_1_3 : stepA E C B 14 r59_1 o59_1_3 (φ, H) = stp (some 10) φ H (justO (aConv E.T 3 146 (fget φ 9))) := nrfl rfl
theorem s59_1_4 : stepA E C B 14 r59_1 o59_1_4 (φ, H) = stp (some 11) φ H (aCall C (fun j => B + j * 14 + 11) true 95 [(fget φ 10)]) := nrfl rfl
theorem s59_1_5 : stepA E C B 14 r59_1 o59_1_5 (φ, H) = some (fput φ 12 (fget φ 1), H) := nrfl rfl
theorem s59_1_6 : stepA E C B 14 r59_1 o59_1_6 (φ, H) = mutX (some 13) φ (C 94 [(fget φ 7), (.int .i64 0), (fget φ 8), (fget φ 11), (fget φ 12)] H (B + 14 * 8)) := nrfl rfl
theorem x59_0 : execA E C (fg 59) B 14 E0 N c59_0 s = seqX (execA E C (fg 59) B 14 E0 N c59_1 s) (execA E C (fg 59) B 14 E0 N c59_2) := x_seq (by rfl) s
theorem fi_59 : fInfo E 59 = some ⟨14, #[], c59_0⟩ := nrfl rfl
theorem b_59 (args : List AV) : bodyA E C fg N 59 args H B = bodyX E [] (execA E C (fg 59) B 14 H N c59_0 (frame0 args 0 [], H)) := bodyA_eq fi_59 args H
noncomputable def c94_0 : Code := kBody Proofs.Try.f94
noncomputable def c94_1 : Code := kL c94_0
noncomputable def r94_0 : Array Oper := kO c94_1
noncomputable def o94_0_0 : Oper := opN r94_0 0
theorem x94_1 : execA E C (fg 94) B 148 E0 N c94_1 s = regX (runA E C B 148 r94_0 r94_0.toList s) (fun s => gcM E0 [] (forget s.1 [], s.2)) := x_reg (ops := r94_0) (by rfl) (by rfl) s
theorem r94_0_l : r94_0.toList = [o94_0_0] := nrfl rfl
theorem s94_0_0 : stepA E C B 148 r94_0 o94_0_0 (φ, H) = some (fput φ 10 (.bool true), H) := nrfl rfl
noncomputable def c94_2 : Code := kR c94_0
noncomputable def c94_3 : Code := kL c94_2
noncomputable def r94_1 : Array Oper := kO c94_3
noncomputable def o94_1_0 : Oper := opN r94_1 0
theorem x94_3 : execA E C (fg 94) B 148 E0 N c94_3 s = regX (runA E C B 148 r94_1 r94_1.toList s) (fun s => gcM E0 [] (forget s.1 [], s.2)) := x_reg (ops := r94_1) (by rfl) (by rfl) s
theorem r94_1_l : r94_1.toList = [o94_1_0] := nrfl rfl
theorem s94_1_0 : stepA E C B 148 r94_1 o94_1_0 (φ, H) = some (fput φ 11 (.bool true), H) := nrfl rfl
noncomputable def c94_4 : Code := kR c94_2
noncomputable def c94_5 : Code := kB c94_4
noncomputable def c94_6 : Code := kB c94_5
noncomputable def c94_7 : Code := kB c94_6
noncomputable def c94_8 : Code := kL c94_7
noncomputable def r94_2 : Array Oper := kO c94_8
noncomputable def o94_2_0 : Oper := opN r94_2 0
noncomputable def o94_2_1 : Oper := opN r94_2 1
noncomputable def o94_2_2 : Oper := opN r94_2 2
noncomputable def o94_2_3 : Oper := opN r94_2 3
theorem x94_8 : execA E C (fg 94) B 148 E0 N c94_8 s = regX (runA E C B 148 r94_2 r94_2.toList s) (fun s => gcM E0 [21, 22, 23] (forget s.1 [21, 22, 23], s.2)) := x_reg (ops := r94_2) (by rfl) (by rfl) s
theorem r94_2_l : r94_2.toList = [o94_2_0, o94_2_1, o94_2_2, o94_2_3] := nrfl rfl
theorem s94_2_0 : stepA E C B 148 r94_2 o94_2_0 (φ, H) = some (fput φ 21 (fget φ 2), H) := nrfl rfl
theorem s94_2_1 : stepA E C B 148 r94_2 o94_2_1 (φ, H) = some (fput φ 22 (fget φ 1), H) := nrfl rfl
theorem s94_2_2 : stepA E C B 148 r94_2 o94_2_2 (φ, H) = stp (some 23) φ H (just (aBin E.T .sub 3 (fget φ 21) (fget φ 22))) := nrfl rfl
theorem s94_2_3 : stepA E C B 148 r94_2 o94_2_3 (φ, H) = some (fput φ 12 (fget φ 23), H) := nrfl rfl
noncomputable def c94_9 : Code := kR c94_7
noncomputable def c94_10 : Code := kL c94_9
noncomputable def c94_11 : Code := kL c94_10
noncomputable def r94_3 : Array Oper := kO c94_11
noncomputable def o94_3_0 : Oper := opN r94_3 0
noncomputable def o94_3_1 : Oper := opN r94_3 1
theorem x94_11 : execA E C (fg 94) B 148 E0 N c94_11 s = regX (runA E C B 148 r94_3 r94_3.toList s) (fun s => gcM E0 [24] (forget s.1 [24], s.2)) := x_reg (ops := r94_3) (by rfl) (by rfl) s
theorem r94_3_l : r94_3.toList = [o94_3_0, o94_3_1] := nrfl rfl
theorem s94_3_0 : stepA E C B 148 r94_3 o94_3_0 (φ, H) = some (fput φ 24 (fget φ 12), H) := nrfl rfl
theorem s94_3_1 : stepA E C B 148 r94_3 o94_3_1 (φ, H) = stp (some 25) φ H (just (aBin E.T .leq 3 (fget φ 24) (.int .i64 12))) := nrfl rfl
noncomputable def c94_12 : Code := kR c94_10
noncomputable def c94_13 : Code := kT c94_12
noncomputable def c94_14 : Code := kL c94_13
noncomputable def r94_4 : Array Oper := kO c94_14
noncomputable def o94_4_0 : Oper := opN r94_4 0
noncomputable def o94_4_1 : Oper := opN r94_4 1
noncomputable def o94_4_2 : Oper := opN r94_4 2
noncomputable def o94_4_3 : Oper := opN r94_4 3
noncomputable def o94_4_4 : Oper := opN r94_4 4
theorem x94_14 : execA E C (fg 94) B 148 E0 N c94_14 s = regX (runA E C B 148 r94_4 r94_4.toList s) (fun s => gcM E0 [0, 1, 2, 3, 4, 10, 11, 12, 25, 26, 27, 28, 29, 30] (forget s.1 [0, 1, 2, 3, 4, 10, 11, 12, 25, 26, 27, 28, 29, 30], s.2)) := x_reg (ops := r94_4) (by rfl) (by rfl) s
theorem r94_4_l : r94_4.toList = [o94_4_0, o94_4_1, o94_4_2, o94_4_3, o94_4_4] := nrfl rfl
theorem s94_4_0 : stepA E C B 148 r94_4 o94_4_0 (φ, H) = some (fput φ 26 (fget φ 0), H) := nrfl rfl
theorem s94_4_1 : stepA E C B 148 r94_4 o94_4_1 (φ, H) = some (fput φ 27 (fget φ 1), H) := nrfl rfl
theorem s94_4_2 : stepA E C B 148 r94_4 o94_4_2 (φ, H) = some (fput φ 28 (fget φ 2), H) := nrfl rfl
theorem s94_4_3 : stepA E C B 148 r94_4 o94_4_3 (φ, H) = some (fput φ 29 (fget φ 4), H) := nrfl rfl
theorem s94_4_4 : stepA E C B 148 r94_4 o94_4_4 (φ, H) = mutX (some 30) φ (C 104 [(fget φ 26), (fget φ 27), (fget φ 28), (fget φ 29)] H (B + 148 * 8)) := nrfl rfl
noncomputable def c94_15 : Code := kR c94_13
theorem x94_15 : execA E C (fg 94) B 148 E0 N c94_15 s = some (.ret, s) := x_ret (by rfl) s
theorem x94_13 : execA E C (fg 94) B 148 E0 N c94_13 s = seqX (execA E C (fg 94) B 148 E0 N c94_14 s) (execA E C (fg 94) B 148 E0 N c94_15) := x_seq (by rfl) s
noncomputable def c94_16 : Code := kE c94_12
theorem x94_16 : execA E C (fg 94) B 148 E0 N c94_16 s = some (.normal, s) := x_skip (by rfl) s
theorem x94_12 : execA E C (fg 94) B 148 E0 N c94_12 (φ, H) = condX (fget φ 25) (execA E C (fg 94) B 148 E0 N c94_13 (φ, H)) (execA E C (fg 94) B 148 E0 N c94_16 (φ, H)) := x_cond (by rfl) _
theorem x94_10 : execA E C (fg 94) B 148 E0 N c94_10 s = seqX (execA E C (fg 94) B 148 E0 N c94_11 s) (execA E C (fg 94) B 148 E0 N c94_12) := x_seq (by rfl) s
noncomputable def c94_17 : Code := kR c94_9
noncomputable def c94_18 : Code := kL c94_17
noncomputable def c94_19 : Code := kL c94_18
noncomputable def r94_5 : Array Oper := kO c94_19
noncomputable def o94_5_0 : Oper := opN r94_5 0
noncomputable def o94_5_1 : Oper := opN r94_5 1
theorem x94_19 : execA E C (fg 94) B 148 E0 N c94_19 s = regX (runA E C B 148 r94_5 r94_5.toList s) (fun s => gcM E0 [25, 31] (forget s.1 [25, 31], s.2)) := x_reg (ops := r94_5) (by rfl) (by rfl) s
theorem r94_5_l : r94_5.toList = [o94_5_0, o94_5_1] := nrfl rfl
theorem s94_5_0 : stepA E C B 148 r94_5 o94_5_0 (φ, H) = some (fput φ 31 (fget φ 3), H) := nrfl rfl
theorem s94_5_1 : stepA E C B 148 r94_5 o94_5_1 (φ, H) = stp (some 32) φ H (just (aBin E.T .eql 3 (fget φ 31) (.int .i64 0))) := nrfl rfl
noncomputable def c94_20 : Code := kR c94_18
noncomputable def c94_21 : Code := kT c94_20
noncomputable def c94_22 : Code := kL c94_21
noncomputable def r94_6 : Array Oper := kO c94_22
noncomputable def o94_6_0 : Oper := opN r94_6 0
noncomputable def o94_6_1 : Oper := opN r94_6 1
noncomputable def o94_6_2 : Oper := opN r94_6 2
noncomputable def o94_6_3 : Oper := opN r94_6 3
noncomputable def o94_6_4 : Oper := opN r94_6 4
theorem x94_22 : execA E C (fg 94) B 148 E0 N c94_22 s = regX (runA E C B 148 r94_6 r94_6.toList s) (fun s => gcM E0 [0, 1, 2, 3, 4, 10, 11, 12, 32, 33, 34, 35, 36, 37] (forget s.1 [0, 1, 2, 3, 4, 10, 11, 12, 32, 33, 34, 35, 36, 37], s.2)) := x_reg (ops := r94_6) (by rfl) (by rfl) s
theorem r94_6_l : r94_6.toList = [o94_6_0, o94_6_1, o94_6_2, o94_6_3, o94_6_4] := nrfl rfl
theorem s94_6_0 : stepA E C B 148 r94_6 o94_6_0 (φ, H) = some (fput φ 33 (fget φ 0), H) := nrfl rfl
theorem s94_6_1 : stepA E C B 148 r94_6 o94_6_1 (φ, H) = some (fput φ 34 (fget φ 1), H) := nrfl rfl
theorem s94_6_2 : stepA E C B 148 r94_6 o94_6_2 (φ, H) = some (fput φ 35 (fget φ 2), H) := nrfl rfl
theorem s94_6_3 : stepA E C B 148 r94_6 o94_6_3 (φ, H) = some (fput φ 36 (fget φ 4), H) := nrfl rfl
theorem s94_6_4 : stepA E C B 148 r94_6 o94_6_4 (φ, H) = mutX (some 37) φ (C 105 [(fget φ 33), (fget φ 34), (fget φ 35), (fget φ 36)] H (B + 148 * 8)) := nrfl rfl
noncomputable def c94_23 : Code := kR c94_21
theorem x94_23 : execA E C (fg 94) B 148 E0 N c94_23 s = some (.ret, s) := x_ret (by rfl) s
theorem x94_21 : execA E C (fg 94) B 148 E0 N c94_21 s = seqX (execA E C (fg 94) B 148 E0 N c94_22 s) (execA E C (fg 94) B 148 E0 N c94_23) := x_seq (by rfl) s
noncomputable def c94_24 : Code := kE c94_20
theorem x94_24 : execA E C (fg 94) B 148 E0 N c94_24 s = some (.normal, s) := x_skip (by rfl) s
theorem x94_20 : execA E C (fg 94) B 148 E0 N c94_20 (φ, H) = condX (fget φ 32) (execA E C (fg 94) B 148 E0 N c94_21 (φ, H)) (execA E C (fg 94) B 148 E0 N c94_24 (φ, H)) := x_cond (by rfl) _
theorem x94_18 : execA E C (fg 94) B 148 E0 N c94_18 s = seqX (execA E C (fg 94) B 148 E0 N c94_19 s) (execA E C (fg 94) B 148 E0 N c94_20) := x_seq (by rfl) s
noncomputable def c94_25 : Code := kR c94_17
noncomputable def c94_26 : Code := kL c94_25
noncomputable def c94_27 : Code := kL c94_26
noncomputable def r94_7 : Array Oper := kO c94_27
noncomputable def o94_7_0 : Oper := opN r94_7 0
noncomputable def o94_7_1 : Oper := opN r94_7 1
theorem x94_27 : execA E C (fg 94) B 148 E0 N c94_27 s = regX (runA E C B 148 r94_7 r94_7.toList s) (fun s => gcM E0 [32, 38] (forget s.1 [32, 38], s.2)) := x_reg (ops := r94_7) (by rfl) (by rfl) s
theorem r94_7_l : r94_7.toList = [o94_7_0, o94_7_1] := nrfl rfl
theorem s94_7_0 : stepA E C B 148 r94_7 o94_7_0 (φ, H) = some (fput φ 38 (fget φ 10), H) := nrfl rfl
theorem s94_7_1 : stepA E C B 148 r94_7 o94_7_1 (φ, H) = stp (some 39) φ H (justO (aUn .not (fget φ 38))) := nrfl rfl
noncomputable def c94_28 : Code := kR c94_26
noncomputable def c94_29 : Code := kT c94_28
noncomputable def c94_30 : Code := kL c94_29
noncomputable def r94_8 : Array Oper := kO c94_30
noncomputable def o94_8_0 : Oper := opN r94_8 0
noncomputable def o94_8_1 : Oper := opN r94_8 1
noncomputable def o94_8_2 : Oper := opN r94_8 2
noncomputable def o94_8_3 : Oper := opN r94_8 3
noncomputable def o94_8_4 : Oper := opN r94_8 4
theorem x94_30 : execA E C (fg 94) B 148 E0 N c94_30 s = regX (runA E C B 148 r94_8 r94_8.toList s) (fun s => gcM E0 [39, 40, 41, 42, 43, 44] (forget s.1 [39, 40, 41, 42, 43, 44], s.2)) := x_reg (ops := r94_8) (by rfl) (by rfl) s
theorem r94_8_l : r94_8.toList = [o94_8_0, o94_8_1, o94_8_2, o94_8_3, o94_8_4] := nrfl rfl
theorem s94_8_0 : stepA E C B 148 r94_8 o94_8_0 (φ, H) = some (fput φ 40 (fget φ 0), H) := nrfl rfl
theorem s94_8_1 : stepA E C B 148 r94_8 o94_8_1 (φ, H) = some (fput φ 41 (fget φ 1), H) := nrfl rfl
theorem s94_8_2 : stepA E C B 148 r94_8 o94_8_2 (φ, H) = some (fput φ 42 (fget φ 2), H) := nrfl rfl
theorem s94_8_3 : stepA E C B 148 r94_8 o94_8_3 (φ, H) = some (fput φ 43 (fget φ 4), H) := nrfl rfl
theorem s94_8_4 : stepA E C B 148 r94_8 o94_8_4 (φ, H) = mutX (some 44) φ (C 106 [(fget φ 40), (fget φ 41), (fget φ 42), (fget φ 43)] H (B + 148 * 8)) := nrfl rfl
noncomputable def c94_31 : Code := kR c94_29
noncomputable def r94_9 : Array Oper := kO c94_31
noncomputable def o94_9_0 : Oper := opN r94_9 0
noncomputable def o94_9_1 : Oper := opN r94_9 1
noncomputable def o94_9_2 : Oper := opN r94_9 2
theorem x94_31 : execA E C (fg 94) B 148 E0 N c94_31 s = regX (runA E C B 148 r94_9 r94_9.toList s) (fun s => gcM E0 [45, 46] (forget s.1 [45, 46], s.2)) := x_reg (ops := r94_9) (by rfl) (by rfl) s
theorem r94_9_l : r94_9.toList = [o94_9_0, o94_9_1, o94_9_2] := nrfl rfl
theorem s94_9_0 : stepA E C B 148 r94_9 o94_9_0 (φ, H) = some (fput φ 45 (fget φ 3), H) := nrfl rfl
theorem s94_9_1 : stepA E C B 148 r94_9 o94_9_1 (φ, H) = stp (some 46) φ H (just (aBin E.T .sub 3 (fget φ 45) (.int .i64 1))) := nrfl rfl
theorem s94_9_2 : stepA E C B 148 r94_9 o94_9_2 (φ, H) = some (fput φ 3 (fget φ 46), H) := nrfl rfl
theorem x94_29 : execA E C (fg 94) B 148 E0 N c94_29 s = seqX (execA E C (fg 94) B 148 E0 N c94_30 s) (execA E C (fg 94) B 148 E0 N c94_31) := x_seq (by rfl) s
noncomputable def c94_32 : Code := kE c94_28
theorem x94_32 : execA E C (fg 94) B 148 E0 N c94_32 s = some (.normal, s) := x_skip (by rfl) s
theorem x94_28 : execA E C (fg 94) B 148 E0 N c94_28 (φ, H) = condX (fget φ 39) (execA E C (fg 94) B 148 E0 N c94_29 (φ, H)) (execA E C (fg 94) B 148 E0 N c94_32 (φ, H)) := x_cond (by rfl) _
theorem x94_26 : execA E C (fg 94) B 148 E0 N c94_26 s = seqX (execA E C (fg 94) B 148 E0 N c94_27 s) (execA E C (fg 94) B 148 E0 N c94_28) := x_seq (by rfl) s
noncomputable def c94_33 : Code := kR c94_25
noncomputable def c94_34 : Code := kL c94_33
noncomputable def r94_10 : Array Oper := kO c94_34
noncomputable def o94_10_0 : Oper := opN r94_10 0
noncomputable def o94_10_1 : Oper := opN r94_10 1
noncomputable def o94_10_2 : Oper := opN r94_10 2
noncomputable def o94_10_3 : Oper := opN r94_10 3
noncomputable def o94_10_4 : Oper := opN r94_10 4
noncomputable def o94_10_5 : Oper := opN r94_10 5
noncomputable def o94_10_6 : Oper := opN r94_10 6
noncomputable def o94_10_7 : Oper := opN r94_10 7
noncomputable def o94_10_8 : Oper := opN r94_10 8
noncomputable def o94_10_9 : Oper := opN r94_10 9
theorem x94_34 : execA E C (fg 94) B 148 E0 N c94_34 s = regX (runA E C B 148 r94_10 r94_10.toList s) (fun s => gcM E0 [39, 47, 48, 49, 50, 51, 52, 53, 54] (forget s.1 [39, 47, 48, 49, 50, 51, 52, 53, 54], s.2)) := x_reg (ops := r94_10) (by rfl) (by rfl) s
theorem r94_10_l : r94_10.toList = [o94_10_0, o94_10_1, o94_10_2, o94_10_3, o94_10_4, o94_10_5, o94_10_6, o94_10_7, o94_10_8, o94_10_9] := nrfl rfl
theorem s94_10_0 : stepA E C B 148 r94_10 o94_10_0 (φ, H) = some (fput φ 48 (fget φ 0), H) := nrfl rfl
theorem s94_10_1 : stepA E C B 148 r94_10 o94_10_1 (φ, H) = some (fput φ 49 (fget φ 1), H) := nrfl rfl
theorem s94_10_2 : stepA E C B 148 r94_10 o94_10_2 (φ, H) = some (fput φ 50 (fget φ 2), H) := nrfl rfl
theorem s94_10_3 : stepA E C B 148 r94_10 o94_10_3 (φ, H) = some (fput φ 51 (fget φ 4), H) := nrfl rfl
theorem s94_10_4 : stepA E C B 148 r94_10 o94_10_4 (φ, H) = mutX (some 52) φ (C 107 [(fget φ 48), (fget φ 49), (fget φ 50), (fget φ 51)] H (B + 148 * 8)) := nrfl rfl
theorem s94_10_5 : stepA E C B 148 r94_10 o94_10_5 (φ, H) = some (fput φ 47 (fget φ 52), H) := nrfl rfl
theorem s94_10_6 : stepA E C B 148 r94_10 o94_10_6 (φ, H) = stp (some 53) φ H (opExtract (fget φ 47) 0) := nrfl rfl
theorem s94_10_7 : stepA E C B 148 r94_10 o94_10_7 (φ, H) = stp (some 54) φ H (opExtract (fget φ 47) 1) := nrfl rfl
theorem s94_10_8 : stepA E C B 148 r94_10 o94_10_8 (φ, H) = some (fput φ 13 (fget φ 53), H) := nrfl rfl
theorem s94_10_9 : stepA E C B 148 r94_10 o94_10_9 (φ, H) = some (fput φ 14 (fget φ 54), H) := nrfl rfl
noncomputable def c94_35 : Code := kR c94_33
noncomputable def c94_36 : Code := kL c94_35
noncomputable def c94_37 : Code := kL c94_36
noncomputable def r94_11 : Array Oper := kO c94_37
noncomputable def o94_11_0 : Oper := opN r94_11 0
noncomputable def o94_11_1 : Oper := opN r94_11 1
theorem x94_37 : execA E C (fg 94) B 148 E0 N c94_37 s = regX (runA E C B 148 r94_11 r94_11.toList s) (fun s => gcM E0 [55] (forget s.1 [55], s.2)) := x_reg (ops := r94_11) (by rfl) (by rfl) s
theorem r94_11_l : r94_11.toList = [o94_11_0, o94_11_1] := nrfl rfl
theorem s94_11_0 : stepA E C B 148 r94_11 o94_11_0 (φ, H) = some (fput φ 55 (fget φ 14), H) := nrfl rfl
theorem s94_11_1 : stepA E C B 148 r94_11 o94_11_1 (φ, H) = stp (some 56) φ H (just (aBin E.T .eql 153 (fget φ 55) (.int .i64 2))) := nrfl rfl
noncomputable def c94_38 : Code := kR c94_36
noncomputable def c94_39 : Code := kT c94_38
noncomputable def c94_40 : Code := kL c94_39
noncomputable def r94_12 : Array Oper := kO c94_40
noncomputable def o94_12_0 : Oper := opN r94_12 0
noncomputable def o94_12_1 : Oper := opN r94_12 1
noncomputable def o94_12_2 : Oper := opN r94_12 2
noncomputable def o94_12_3 : Oper := opN r94_12 3
noncomputable def o94_12_4 : Oper := opN r94_12 4
theorem x94_40 : execA E C (fg 94) B 148 E0 N c94_40 s = regX (runA E C B 148 r94_12 r94_12.toList s) (fun s => gcM E0 [14, 56, 57, 58, 59, 60, 61] (forget s.1 [14, 56, 57, 58, 59, 60, 61], s.2)) := x_reg (ops := r94_12) (by rfl) (by rfl) s
theorem r94_12_l : r94_12.toList = [o94_12_0, o94_12_1, o94_12_2, o94_12_3, o94_12_4] := nrfl rfl
theorem s94_12_0 : stepA E C B 148 r94_12 o94_12_0 (φ, H) = some (fput φ 57 (fget φ 0), H) := nrfl rfl
theorem s94_12_1 : stepA E C B 148 r94_12 o94_12_1 (φ, H) = some (fput φ 58 (fget φ 1), H) := nrfl rfl
theorem s94_12_2 : stepA E C B 148 r94_12 o94_12_2 (φ, H) = some (fput φ 59 (fget φ 2), H) := nrfl rfl
theorem s94_12_3 : stepA E C B 148 r94_12 o94_12_3 (φ, H) = some (fput φ 60 (fget φ 4), H) := nrfl rfl
theorem s94_12_4 : stepA E C B 148 r94_12 o94_12_4 (φ, H) = mutX (some 61) φ (C 108 [(fget φ 57), (fget φ 58), (fget φ 59), (fget φ 60)] H (B + 148 * 8)) := nrfl rfl
noncomputable def c94_41 : Code := kR c94_39
noncomputable def c94_42 : Code := kL c94_41
noncomputable def r94_13 : Array Oper := kO c94_42
noncomputable def o94_13_0 : Oper := opN r94_13 0
noncomputable def o94_13_1 : Oper := opN r94_13 1
noncomputable def o94_13_2 : Oper := opN r94_13 2
noncomputable def o94_13_3 : Oper := opN r94_13 3
noncomputable def o94_13_4 : Oper := opN r94_13 4
noncomputable def o94_13_5 : Oper := opN r94_13 5
noncomputable def o94_13_6 : Oper := opN r94_13 6
theorem x94_42 : execA E C (fg 94) B 148 E0 N c94_42 s = regX (runA E C B 148 r94_13 r94_13.toList s) (fun s => gcM E0 [62, 63, 64, 65, 66, 67] (forget s.1 [62, 63, 64, 65, 66, 67], s.2)) := x_reg (ops := r94_13) (by rfl) (by rfl) s
theorem r94_13_l : r94_13.toList = [o94_13_0, o94_13_1, o94_13_2, o94_13_3, o94_13_4, o94_13_5, o94_13_6] := nrfl rfl
theorem s94_13_0 : stepA E C B 148 r94_13 o94_13_0 (φ, H) = some (fput φ 62 (fget φ 2), H) := nrfl rfl
theorem s94_13_1 : stepA E C B 148 r94_13 o94_13_1 (φ, H) = stp (some 63) φ H (just (aBin E.T .sub 3 (fget φ 62) (.int .i64 1))) := nrfl rfl
theorem s94_13_2 : stepA E C B 148 r94_13 o94_13_2 (φ, H) = some (fput φ 64 (fget φ 13), H) := nrfl rfl
theorem s94_13_3 : stepA E C B 148 r94_13 o94_13_3 (φ, H) = some (fput φ 65 (fget φ 1), H) := nrfl rfl
theorem s94_13_4 : stepA E C B 148 r94_13 o94_13_4 (φ, H) = stp (some 66) φ H (just (aBin E.T .sub 3 (fget φ 64) (fget φ 65))) := nrfl rfl
theorem s94_13_5 : stepA E C B 148 r94_13 o94_13_5 (φ, H) = stp (some 67) φ H (just (aBin E.T .sub 3 (fget φ 63) (fget φ 66))) := nrfl rfl
theorem s94_13_6 : stepA E C B 148 r94_13 o94_13_6 (φ, H) = some (fput φ 13 (fget φ 67), H) := nrfl rfl
noncomputable def c94_43 : Code := kR c94_41
noncomputable def r94_14 : Array Oper := kO c94_43
noncomputable def o94_14_0 : Oper := opN r94_14 0
theorem x94_43 : execA E C (fg 94) B 148 E0 N c94_43 s = regX (runA E C B 148 r94_14 r94_14.toList s) (fun s => gcM E0 [] (forget s.1 [], s.2)) := x_reg (ops := r94_14) (by rfl) (by rfl) s
theorem r94_14_l : r94_14.toList = [o94_14_0] := nrfl rfl
theorem s94_14_0 : stepA E C B 148 r94_14 o94_14_0 (φ, H) = some (fput φ 14 (.int .i64 1), H) := nrfl rfl
theorem x94_41 : execA E C (fg 94) B 148 E0 N c94_41 s = seqX (execA E C (fg 94) B 148 E0 N c94_42 s) (execA E C (fg 94) B 148 E0 N c94_43) := x_seq (by rfl) s
theorem x94_39 : execA E C (fg 94) B 148 E0 N c94_39 s = seqX (execA E C (fg 94) B 148 E0 N c94_40 s) (execA E C (fg 94) B 148 E0 N c94_41) := x_seq (by rfl) s
noncomputable def c94_44 : Code := kE c94_38
theorem x94_44 : execA E C (fg 94) B 148 E0 N c94_44 s = some (.normal, s) := x_skip (by rfl) s
theorem x94_38 : execA E C (fg 94) B 148 E0 N c94_38 (φ, H) = condX (fget φ 56) (execA E C (fg 94) B 148 E0 N c94_39 (φ, H)) (execA E C (fg 94) B 148 E0 N c94_44 (φ, H)) := x_cond (by rfl) _
theorem x94_36 : execA E C (fg 94) B 148 E0 N c94_36 s = seqX (execA E C (fg 94) B 148 E0 N c94_37 s) (execA E C (fg 94) B 148 E0 N c94_38) := x_seq (by rfl) s
noncomputable def c94_45 : Code := kR c94_35
noncomputable def c94_46 : Code := kL c94_45
noncomputable def c94_47 : Code := kL c94_46
noncomputable def r94_15 : Array Oper := kO c94_47
noncomputable def o94_15_0 : Oper := opN r94_15 0
noncomputable def o94_15_1 : Oper := opN r94_15 1
noncomputable def o94_15_2 : Oper := opN r94_15 2
noncomputable def o94_15_3 : Oper := opN r94_15 3
noncomputable def o94_15_4 : Oper := opN r94_15 4
noncomputable def o94_15_5 : Oper := opN r94_15 5
noncomputable def o94_15_6 : Oper := opN r94_15 6
noncomputable def o94_15_7 : Oper := opN r94_15 7
theorem x94_47 : execA E C (fg 94) B 148 E0 N c94_47 s = regX (runA E C B 148 r94_15 r94_15.toList s) (fun s => gcM E0 [14, 56, 68, 69, 70, 71, 72, 73, 74] (forget s.1 [14, 56, 68, 69, 70, 71, 72, 73, 74], s.2)) := x_reg (ops := r94_15) (by rfl) (by rfl) s
theorem r94_15_l : r94_15.toList = [o94_15_0, o94_15_1, o94_15_2, o94_15_3, o94_15_4, o94_15_5, o94_15_6, o94_15_7] := nrfl rfl
theorem s94_15_0 : stepA E C B 148 r94_15 o94_15_0 (φ, H) = some (fput φ 68 (fget φ 10), H) := nrfl rfl
theorem s94_15_1 : stepA E C B 148 r94_15 o94_15_1 (φ, H) = some (fput φ 69 (fget φ 68), H) := nrfl rfl
theorem s94_15_2 : stepA E C B 148 r94_15 o94_15_2 (φ, H) = gd φ 69 true (fun φ => some (fput φ 70 (.tup []), H)) (fun φ => some (fput φ 70 (fget φ 11), H)) := s_gd (j := 1) (oj := o94_15_1) rfl rfl rfl (fun _ => rfl) (fun _ => rfl)
theorem s94_15_3 : stepA E C B 148 r94_15 o94_15_3 (φ, H) = stp (some 71) φ H (opPick (fget φ 69) (fget φ 70) (.bool false)) := nrfl rfl
theorem s94_15_4 : stepA E C B 148 r94_15 o94_15_4 (φ, H) = some (fput φ 72 (fget φ 71), H) := nrfl rfl
theorem s94_15_5 : stepA E C B 148 r94_15 o94_15_5 (φ, H) = gd φ 72 true (fun φ => some (fput φ 73 (.tup []), H)) (fun φ => some (fput φ 73 (fget φ 14), H)) := s_gd (j := 4) (oj := o94_15_4) rfl rfl rfl (fun _ => rfl) (fun _ => rfl)
theorem s94_15_6 : stepA E C B 148 r94_15 o94_15_6 (φ, H) = gd φ 72 true (fun φ => some (fput φ 74 (.tup []), H)) (fun φ => stp (some 74) φ H (just (aBin E.T .eql 153 (fget φ 73) (.int .i64 1)))) := s_gd (j := 4) (oj := o94_15_4) rfl rfl rfl (fun _ => rfl) (fun _ => rfl)
theorem s94_15_7 : stepA E C B 148 r94_15 o94_15_7 (φ, H) = stp (some 75) φ H (opPick (fget φ 72) (fget φ 74) (.bool false)) := nrfl rfl
noncomputable def c94_48 : Code := kR c94_46
noncomputable def c94_49 : Code := kT c94_48
noncomputable def c94_50 : Code := kL c94_49
noncomputable def r94_16 : Array Oper := kO c94_50
noncomputable def o94_16_0 : Oper := opN r94_16 0
noncomputable def o94_16_1 : Oper := opN r94_16 1
noncomputable def o94_16_2 : Oper := opN r94_16 2
noncomputable def o94_16_3 : Oper := opN r94_16 3
noncomputable def o94_16_4 : Oper := opN r94_16 4
theorem x94_50 : execA E C (fg 94) B 148 E0 N c94_50 s = regX (runA E C B 148 r94_16 r94_16.toList s) (fun s => gcM E0 [75, 76, 77, 78, 79] (forget s.1 [75, 76, 77, 78, 79], s.2)) := x_reg (ops := r94_16) (by rfl) (by rfl) s
theorem r94_16_l : r94_16.toList = [o94_16_0, o94_16_1, o94_16_2, o94_16_3, o94_16_4] := nrfl rfl
theorem s94_16_0 : stepA E C B 148 r94_16 o94_16_0 (φ, H) = some (fput φ 76 (fget φ 0), H) := nrfl rfl
theorem s94_16_1 : stepA E C B 148 r94_16 o94_16_1 (φ, H) = some (fput φ 77 (fget φ 1), H) := nrfl rfl
theorem s94_16_2 : stepA E C B 148 r94_16 o94_16_2 (φ, H) = some (fput φ 78 (fget φ 2), H) := nrfl rfl
theorem s94_16_3 : stepA E C B 148 r94_16 o94_16_3 (φ, H) = some (fput φ 79 (fget φ 4), H) := nrfl rfl
theorem s94_16_4 : stepA E C B 148 r94_16 o94_16_4 (φ, H) = mutX (some 80) φ (C 109 [(fget φ 76), (fget φ 77), (fget φ 78), (fget φ 79)] H (B + 148 * 8)) := nrfl rfl
noncomputable def c94_51 : Code := kR c94_49
noncomputable def c94_52 : Code := kT c94_51
theorem x94_52 : execA E C (fg 94) B 148 E0 N c94_52 s = some (.ret, s) := x_ret (by rfl) s
noncomputable def c94_53 : Code := kE c94_51
theorem x94_53 : execA E C (fg 94) B 148 E0 N c94_53 s = some (.normal, s) := x_skip (by rfl) s
theorem x94_51 : execA E C (fg 94) B 148 E0 N c94_51 (φ, H) = condX (fget φ 80) (execA E C (fg 94) B 148 E0 N c94_52 (φ, H)) (execA E C (fg 94) B 148 E0 N c94_53 (φ, H)) := x_cond (by rfl) _
theorem x94_49 : execA E C (fg 94) B 148 E0 N c94_49 s = seqX (execA E C (fg 94) B 148 E0 N c94_50 s) (execA E C (fg 94) B 148 E0 N c94_51) := x_seq (by rfl) s
noncomputable def c94_54 : Code := kE c94_48
theorem x94_54 : execA E C (fg 94) B 148 E0 N c94_54 s = some (.normal, s) := x_skip (by rfl) s
theorem x94_48 : execA E C (fg 94) B 148 E0 N c94_48 (φ, H) = condX (fget φ 75) (execA E C (fg 94) B 148 E0 N c94_49 (φ, H)) (execA E C (fg 94) B 148 E0 N c94_54 (φ, H)) := x_cond (by rfl) _
theorem x94_46 : execA E C (fg 94) B 148 E0 N c94_46 s = seqX (execA E C (fg 94) B 148 E0 N c94_47 s) (execA E C (fg 94) B 148 E0 N c94_48) := x_seq (by rfl) s
noncomputable def c94_55 : Code := kR c94_45
noncomputable def c94_56 : Code := kL c94_55
noncomputable def c94_57 : Code := kL c94_56
noncomputable def r94_17 : Array Oper := kO c94_57
noncomputable def o94_17_0 : Oper := opN r94_17 0
noncomputable def o94_17_1 : Oper := opN r94_17 1
noncomputable def o94_17_2 : Oper := opN r94_17 2
noncomputable def o94_17_3 : Oper := opN r94_17 3
noncomputable def o94_17_4 : Oper := opN r94_17 4
noncomputable def o94_17_5 : Oper := opN r94_17 5
noncomputable def o94_17_6 : Oper := opN r94_17 6
noncomputable def o94_17_7 : Oper := opN r94_17 7
noncomputable def o94_17_8 : Oper := opN r94_17 8
noncomputable def o94_17_9 : Oper := opN r94_17 9
noncomputable def o94_17_10 : Oper := opN r94_17 10
noncomputable def o94_17_11 : Oper := opN r94_17 11
noncomputable def o94_17_12 : Oper := opN r94_17 12
noncomputable def o94_17_13 : Oper := opN r94_17 13
noncomputable def o94_17_14 : Oper := opN r94_17 14
noncomputable def o94_17_15 : Oper := opN r94_17 15
noncomputable def o94_17_16 : Oper := opN r94_17 16
theorem x94_57 : execA E C (fg 94) B 148 E0 N c94_57 s = regX (drawA E C B 148 r94_17 s) (fun s => gcM E0 [75, 80, 81, 82, 83, 84, 85, 86, 87, 88, 89, 90, 91, 92, 93, 94, 95, 96] (forget s.1 [75, 80, 81, 82, 83, 84, 85, 86, 87, 88, 89, 90, 91, 92, 93, 94, 95, 96], s.2)) := x_draw (ops := r94_17) (by rfl) (by rfl) s
theorem r94_17_l : r94_17.toList = [o94_17_0, o94_17_1, o94_17_2, o94_17_3, o94_17_4, o94_17_5, o94_17_6, o94_17_7, o94_17_8, o94_17_9, o94_17_10, o94_17_11, o94_17_12, o94_17_13, o94_17_14, o94_17_15, o94_17_16] := nrfl rfl
theorem r94_17_st : statOk r94_17 = true := by kernel_rfl
theorem r94_17_dr : drawA E C B 148 r94_17 s = if neat 148 s = true then drX r94_17 (runT E C B 148 r94_17 r94_17.toList 0 s) else none := draw_eq r94_17_st s
theorem r94_17_an (l : List (Nat × Tr)) : dynOk r94_17 l = (!writing l || dynPairs [[], [0], [0, 1], [0, 1, 2], [0, 1, 2], [0, 1, 2], [0, 1, 2, 5], [0, 1, 2, 4, 5, 6], [0, 1, 2, 4, 5, 6, 7], [0, 1, 2], [0, 1, 2], [0, 1, 2, 9, 10], [0, 1, 2, 9, 10, 11], [0, 1, 2, 3, 4, 5, 6, 7, 8, 9, 10, 11, 12], [0, 1, 2, 3, 4, 5, 6, 7, 8, 9, 10, 11, 12, 13], [0, 1, 2, 3, 4, 5, 6, 7, 8, 9, 10, 11, 12, 13, 14], [0, 1, 2, 3, 4, 5, 6, 7, 8, 9, 10, 11, 12, 13, 14, 15]] (touching l)) := dynOk_eq (by kernel_rfl) l
theorem s94_17_0 : stepT E C B 148 r94_17 o94_17_0 (φ, H) = some ((fput φ 81 (fget φ 1), H), ⟨false, [], []⟩) := stT_go rfl (goT_mv rfl rfl)
theorem s94_17_1 : stepT E C B 148 r94_17 o94_17_1 (φ, H) = stpT (some 82) φ H (just (aBin E.T .gtr 3 (fget φ 81) (.int .i64 0))) := stT_go rfl (goT_R rfl rfl)
theorem s94_17_2 : stepT E C B 148 r94_17 o94_17_2 (φ, H) = some ((fput φ 83 (fget φ 82), H), ⟨false, [], []⟩) := stT_go rfl (goT_mv rfl rfl)
theorem s94_17_3 : stepT E C B 148 r94_17 o94_17_3 (φ, H) = gdT φ 83 true (fun φ => (some (fput φ 84 (.tup []), H)).map fun s => (s, ⟨false, [], []⟩)) (fun φ => some ((fput φ 84 (fget φ 4), H), ⟨false, [], []⟩)) := stT_gd (j := 2) (oj := o94_17_2) rfl rfl rfl (fun _ => rfl) (fun _ => goT_mv rfl rfl)
theorem s94_17_4 : stepT E C B 148 r94_17 o94_17_4 (φ, H) = gdT φ 83 true (fun φ => (some (fput φ 85 (.tup []), H)).map fun s => (s, ⟨false, [], []⟩)) (fun φ => some ((fput φ 85 (fget φ 0), H), ⟨false, [], []⟩)) := stT_gd (j := 2) (oj := o94_17_2) rfl rfl rfl (fun _ => rfl) (fun _ => goT_mv rfl rfl)
theorem s94_17_5 : stepT E C B 148 r94_17 o94_17_5 (φ, H) = gdT φ 83 true (fun φ => (some (fput φ 86 (.tup []), H)).map fun s => (s, ⟨false, [], []⟩)) (fun φ => some ((fput φ 86 (fget φ 1), H), ⟨false, [], []⟩)) := stT_gd (j := 2) (oj := o94_17_2) rfl rfl rfl (fun _ => rfl) (fun _ => goT_mv rfl rfl)
theorem s94_17_6 : stepT E C B 148 r94_17 o94_17_6 (φ, H) = gdT φ 83 true (fun φ => (some (fput φ 87 (.tup []), H)).map fun s => (s, ⟨false, [], []⟩)) (fun φ => stpT (some 87) φ H (just (aBin E.T .sub 3 (fget φ 86) (.int .i64 1)))) := stT_gd (j := 2) (oj := o94_17_2) rfl rfl rfl (fun _ => rfl) (fun _ => goT_R rfl rfl)
theorem s94_17_7 : stepT E C B 148 r94_17 o94_17_7 (φ, H) = gdT φ 83 true (fun φ => (some (fput φ 88 (.tup []), H)).map fun s => (s, ⟨false, [], []⟩)) (fun φ => stpT (some 88) φ H (just (aIndexAddr E.T 22 (fget φ 85) (fget φ 87)))) := stT_gd (j := 2) (oj := o94_17_2) rfl rfl rfl (fun _ => rfl) (fun _ => goT_R rfl rfl)
theorem s94_17_8 : stepT E C B 148 r94_17 o94_17_8 (φ, H) = gdT φ 83 true (fun φ => (some (fput φ 89 (.tup []), H)).map fun s => (s, ⟨false, [], []⟩)) (fun φ => stpT (some 89) φ H (just (aLoad E.T 45 (fget φ 88)))) := stT_gd (j := 2) (oj := o94_17_2) rfl rfl rfl (fun _ => rfl) (fun _ => goT_R rfl rfl)
theorem s94_17_9 : stepT E C B 148 r94_17 o94_17_9 (φ, H) = gdT φ 83 true (fun φ => (some (fput φ 90 (.tup []), H)).map fun s => (s, ⟨false, [], []⟩)) (fun φ => some ((fput φ 90 (fget φ 0), H), ⟨false, [], []⟩)) := stT_gd (j := 2) (oj := o94_17_2) rfl rfl rfl (fun _ => rfl) (fun _ => goT_mv rfl rfl)
theorem s94_17_10 : stepT E C B 148 r94_17 o94_17_10 (φ, H) = gdT φ 83 true (fun φ => (some (fput φ 91 (.tup []), H)).map fun s => (s, ⟨false, [], []⟩)) (fun φ => some ((fput φ 91 (fget φ 13), H), ⟨false, [], []⟩)) := stT_gd (j := 2) (oj := o94_17_2) rfl rfl rfl (fun _ => rfl) (fun _ => goT_mv rfl rfl)
theorem s94_17_11 : stepT E C B 148 r94_17 o94_17_11 (φ, H) = gdT φ 83 true (fun φ => (some (fput φ 92 (.tup []), H)).map fun s => (s, ⟨false, [], []⟩)) (fun φ => stpT (some 92) φ H (just (aIndexAddr E.T 22 (fget φ 90) (fget φ 91)))) := stT_gd (j := 2) (oj := o94_17_2) rfl rfl rfl (fun _ => rfl) (fun _ => goT_R rfl rfl)
theorem s94_17_12 : stepT E C B 148 r94_17 o94_17_12 (φ, H) = gdT φ 83 true (fun φ => (some (fput φ 93 (.tup []), H)).map fun s => (s, ⟨false, [], []⟩)) (fun φ => stpT (some 93) φ H (just (aLoad E.T 45 (fget φ 92)))) := stT_gd (j := 2) (oj := o94_17_2) rfl rfl rfl (fun _ => rfl) (fun _ => goT_R rfl rfl)
theorem s94_17_13 : stepT E C B 148 r94_17 o94_17_13 (φ, H) = gdT φ 83 true (fun φ => (some (fput φ 94 (.tup []), H)).map fun s => (s, ⟨false, [], []⟩)) (fun φ => callVT E C (B + 148 * 8) (some 94) (fun j => B + j * 148 + 94) φ H (fget φ 84) [(fget φ 89), (fget φ 93)] true) := stT_gd (j := 2) (oj := o94_17_2) rfl rfl rfl (fun _ => rfl) (fun _ => goT_V rfl rfl)
theorem s94_17_14 : stepT E C B 148 r94_17 o94_17_14 (φ, H) = gdT φ 83 true (fun φ => (some (fput φ 95 (.tup []), H)).map fun s => (s, ⟨false, [], []⟩)) (fun φ => stpT (some 95) φ H (just (aBin E.T .lss 3 (fget φ 94) (.int .i64 0)))) := stT_gd (j := 2) (oj := o94_17_2) rfl rfl rfl (fun _ => rfl) (fun _ => goT_R rfl rfl)
theorem s94_17_15 : stepT E C B 148 r94_17 o94_17_15 (φ, H) = gdT φ 83 true (fun φ => (some (fput φ 96 (.tup []), H)).map fun s => (s, ⟨false, [], []⟩)) (fun φ => stpT (some 96) φ H (justO (aUn .not (fget φ 95)))) := stT_gd (j := 2) (oj := o94_17_2) rfl rfl rfl (fun _ => rfl) (fun _ => goT_R rfl rfl)
theorem s94_17_16 : stepT E C B 148 r94_17 o94_17_16 (φ, H) = stpT (some 97) φ H (opPick (fget φ 83) (fget φ 96) (.bool false)) := stT_go rfl (goT_R rfl rfl)
noncomputable def c94_58 : Code := kR c94_56
noncomputable def c94_59 : Code := kT c94_58
noncomputable def c94_60 : Code := kL c94_59
noncomputable def r94_18 : Array Oper := kO c94_60
noncomputable def o94_18_0 : Oper := opN r94_18 0
noncomputable def o94_18_1 : Oper := opN r94_18 1
noncomputable def o94_18_2 : Oper := opN r94_18 2
noncomputable def o94_18_3 : Oper := opN r94_18 3
noncomputable def o94_18_4 : Oper := opN r94_18 4
noncomputable def o94_18_5 : Oper := opN r94_18 5
noncomputable def o94_18_6 : Oper := opN r94_18 6
theorem x94_60 : execA E C (fg 94) B 148 E0 N c94_60 s = regX (runA E C B 148 r94_18 r94_18.toList s) (fun s => gcM E0 [1, 12, 13, 97, 98, 99, 100, 101, 102, 103] (forget s.1 [1, 12, 13, 97, 98, 99, 100, 101, 102, 103], s.2)) := x_reg (ops := r94_18) (by rfl) (by rfl) s
theorem r94_18_l : r94_18.toList = [o94_18_0, o94_18_1, o94_18_2, o94_18_3, o94_18_4, o94_18_5, o94_18_6] := nrfl rfl
theorem s94_18_0 : stepA E C B 148 r94_18 o94_18_0 (φ, H) = some (fput φ 98 (fget φ 0), H) := nrfl rfl
theorem s94_18_1 : stepA E C B 148 r94_18 o94_18_1 (φ, H) = some (fput φ 99 (fget φ 1), H) := nrfl rfl
theorem s94_18_2 : stepA E C B 148 r94_18 o94_18_2 (φ, H) = some (fput φ 100 (fget φ 2), H) := nrfl rfl
theorem s94_18_3 : stepA E C B 148 r94_18 o94_18_3 (φ, H) = some (fput φ 101 (fget φ 13), H) := nrfl rfl
theorem s94_18_4 : stepA E C B 148 r94_18 o94_18_4 (φ, H) = some (fput φ 102 (fget φ 4), H) := nrfl rfl
theorem s94_18_5 : stepA E C B 148 r94_18 o94_18_5 (φ, H) = mutX (some 103) φ (C 110 [(fget φ 98), (fget φ 99), (fget φ 100), (fget φ 101), (fget φ 102)] H (B + 148 * 8)) := nrfl rfl
theorem s94_18_6 : stepA E C B 148 r94_18 o94_18_6 (φ, H) = some (fput φ 15 (fget φ 103), H) := nrfl rfl
noncomputable def c94_61 : Code := kR c94_59
noncomputable def c94_62 : Code := kL c94_61
noncomputable def r94_19 : Array Oper := kO c94_62
noncomputable def o94_19_0 : Oper := opN r94_19 0
noncomputable def o94_19_1 : Oper := opN r94_19 1
theorem x94_62 : execA E C (fg 94) B 148 E0 N c94_62 s = regX (runA E C B 148 r94_19 r94_19.toList s) (fun s => gcM E0 [15, 104] (forget s.1 [15, 104], s.2)) := x_reg (ops := r94_19) (by rfl) (by rfl) s
theorem r94_19_l : r94_19.toList = [o94_19_0, o94_19_1] := nrfl rfl
theorem s94_19_0 : stepA E C B 148 r94_19 o94_19_0 (φ, H) = some (fput φ 104 (fget φ 15), H) := nrfl rfl
theorem s94_19_1 : stepA E C B 148 r94_19 o94_19_1 (φ, H) = some (fput φ 1 (fget φ 104), H) := nrfl rfl
noncomputable def c94_63 : Code := kR c94_61
theorem x94_63 : execA E C (fg 94) B 148 E0 N c94_63 s = some (.exit 1, s) := x_exit (by rfl) s
theorem x94_61 : execA E C (fg 94) B 148 E0 N c94_61 s = seqX (execA E C (fg 94) B 148 E0 N c94_62 s) (execA E C (fg 94) B 148 E0 N c94_63) := x_seq (by rfl) s
theorem x94_59 : execA E C (fg 94) B 148 E0 N c94_59 s = seqX (execA E C (fg 94) B 148 E0 N c94_60 s) (execA E C (fg 94) B 148 E0 N c94_61) := x_seq (by rfl) s
noncomputable def c94_64 : Code := kE c94_58
theorem x94_64 : execA E C (fg 94) B 148 E0 N c94_64 s = some (.normal, s) := x_skip (by rfl) s
theorem x94_58 : execA E C (fg 94) B 148 E0 N c94_58 (φ, H) = condX (fget φ 97) (execA E C (fg 94) B 148 E0 N c94_59 (φ, H)) (execA E C (fg 94) B 148 E0 N c94_64 (φ, H)) := x_cond (by rfl) _
theorem x94_56 : execA E C (fg 94) B 148 E0 N c94_56 s = seqX (execA E C (fg 94) B 148 E0 N c94_57 s) (execA E C (fg 94) B 148 E0 N c94_58) := x_seq (by rfl) s
noncomputable def c94_65 : Code := kR c94_55
noncomputable def c94_66 : Code := kL c94_65
noncomputable def r94_20 : Array Oper := kO c94_66
noncomputable def o94_20_0 : Oper := opN r94_20 0
noncomputable def o94_20_1 : Oper := opN r94_20 1
noncomputable def o94_20_2 : Oper := opN r94_20 2
noncomputable def o94_20_3 : Oper := opN r94_20 3
noncomputable def o94_20_4 : Oper := opN r94_20 4
noncomputable def o94_20_5 : Oper := opN r94_20 5
noncomputable def o94_20_6 : Oper := opN r94_20 6
noncomputable def o94_20_7 : Oper := opN r94_20 7
noncomputable def o94_20_8 : Oper := opN r94_20 8
noncomputable def o94_20_9 : Oper := opN r94_20 9
noncomputable def o94_20_10 : Oper := opN r94_20 10
theorem x94_66 : execA E C (fg 94) B 148 E0 N c94_66 s = regX (runA E C B 148 r94_20 r94_20.toList s) (fun s => gcM E0 [10, 11, 13, 97, 105, 106, 107, 108, 109, 110, 111, 112, 113] (forget s.1 [10, 11, 13, 97, 105, 106, 107, 108, 109, 110, 111, 112, 113], s.2)) := x_reg (ops := r94_20) (by rfl) (by rfl) s
theorem r94_20_l : r94_20.toList = [o94_20_0, o94_20_1, o94_20_2, o94_20_3, o94_20_4, o94_20_5, o94_20_6, o94_20_7, o94_20_8, o94_20_9, o94_20_10] := nrfl rfl
theorem s94_20_0 : stepA E C B 148 r94_20 o94_20_0 (φ, H) = some (fput φ 106 (fget φ 0), H) := nrfl rfl
theorem s94_20_1 : stepA E C B 148 r94_20 o94_20_1 (φ, H) = some (fput φ 107 (fget φ 1), H) := nrfl rfl
theorem s94_20_2 : stepA E C B 148 r94_20 o94_20_2 (φ, H) = some (fput φ 108 (fget φ 2), H) := nrfl rfl
theorem s94_20_3 : stepA E C B 148 r94_20 o94_20_3 (φ, H) = some (fput φ 109 (fget φ 13), H) := nrfl rfl
theorem s94_20_4 : stepA E C B 148 r94_20 o94_20_4 (φ, H) = some (fput φ 110 (fget φ 4), H) := nrfl rfl
theorem s94_20_5 : stepA E C B 148 r94_20 o94_20_5 (φ, H) = mutX (some 111) φ (C 111 [(fget φ 106), (fget φ 107), (fget φ 108), (fget φ 109), (fget φ 110)] H (B + 148 * 8)) := nrfl rfl
theorem s94_20_6 : stepA E C B 148 r94_20 o94_20_6 (φ, H) = some (fput φ 105 (fget φ 111), H) := nrfl rfl
theorem s94_20_7 : stepA E C B 148 r94_20 o94_20_7 (φ, H) = stp (some 112) φ H (opExtract (fget φ 105) 0) := nrfl rfl
theorem s94_20_8 : stepA E C B 148 r94_20 o94_20_8 (φ, H) = stp (some 113) φ H (opExtract (fget φ 105) 1) := nrfl rfl
theorem s94_20_9 : stepA E C B 148 r94_20 o94_20_9 (φ, H) = some (fput φ 16 (fget φ 112), H) := nrfl rfl
theorem s94_20_10 : stepA E C B 148 r94_20 o94_20_10 (φ, H) = some (fput φ 17 (fget φ 113), H) := nrfl rfl
noncomputable def c94_67 : Code := kR c94_65
noncomputable def c94_68 : Code := kL c94_67
noncomputable def r94_21 : Array Oper := kO c94_68
noncomputable def o94_21_0 : Oper := opN r94_21 0
noncomputable def o94_21_1 : Oper := opN r94_21 1
theorem x94_68 : execA E C (fg 94) B 148 E0 N c94_68 s = regX (runA E C B 148 r94_21 r94_21.toList s) (fun s => gcM E0 [17, 114] (forget s.1 [17, 114], s.2)) := x_reg (ops := r94_21) (by rfl) (by rfl) s
theorem r94_21_l : r94_21.toList = [o94_21_0, o94_21_1] := nrfl rfl
theorem s94_21_0 : stepA E C B 148 r94_21 o94_21_0 (φ, H) = some (fput φ 114 (fget φ 17), H) := nrfl rfl
theorem s94_21_1 : stepA E C B 148 r94_21 o94_21_1 (φ, H) = some (fput φ 11 (fget φ 114), H) := nrfl rfl
noncomputable def c94_69 : Code := kR c94_67
noncomputable def c94_70 : Code := kL c94_69
noncomputable def r94_22 : Array Oper := kO c94_70
noncomputable def o94_22_0 : Oper := opN r94_22 0
noncomputable def o94_22_1 : Oper := opN r94_22 1
noncomputable def o94_22_2 : Oper := opN r94_22 2
noncomputable def o94_22_3 : Oper := opN r94_22 3
noncomputable def o94_22_4 : Oper := opN r94_22 4
noncomputable def o94_22_5 : Oper := opN r94_22 5
noncomputable def o94_22_6 : Oper := opN r94_22 6
noncomputable def o94_22_7 : Oper := opN r94_22 7
theorem x94_70 : execA E C (fg 94) B 148 E0 N c94_70 s = regX (runA E C B 148 r94_22 r94_22.toList s) (fun s => gcM E0 [115, 116, 117, 118, 119, 120] (forget s.1 [115, 116, 117, 118, 119, 120], s.2)) := x_reg (ops := r94_22) (by rfl) (by rfl) s
theorem r94_22_l : r94_22.toList = [o94_22_0, o94_22_1, o94_22_2, o94_22_3, o94_22_4, o94_22_5, o94_22_6, o94_22_7] := nrfl rfl
theorem s94_22_0 : stepA E C B 148 r94_22 o94_22_0 (φ, H) = some (fput φ 115 (fget φ 16), H) := nrfl rfl
theorem s94_22_1 : stepA E C B 148 r94_22 o94_22_1 (φ, H) = some (fput φ 116 (fget φ 1), H) := nrfl rfl
theorem s94_22_2 : stepA E C B 148 r94_22 o94_22_2 (φ, H) = stp (some 117) φ H (just (aBin E.T .sub 3 (fget φ 115) (fget φ 116))) := nrfl rfl
theorem s94_22_3 : stepA E C B 148 r94_22 o94_22_3 (φ, H) = some (fput φ 118 (fget φ 2), H) := nrfl rfl
theorem s94_22_4 : stepA E C B 148 r94_22 o94_22_4 (φ, H) = some (fput φ 119 (fget φ 16), H) := nrfl rfl
theorem s94_22_5 : stepA E C B 148 r94_22 o94_22_5 (φ, H) = stp (some 120) φ H (just (aBin E.T .sub 3 (fget φ 118) (fget φ 119))) := nrfl rfl
theorem s94_22_6 : stepA E C B 148 r94_22 o94_22_6 (φ, H) = some (fput φ 18 (fget φ 117), H) := nrfl rfl
theorem s94_22_7 : stepA E C B 148 r94_22 o94_22_7 (φ, H) = some (fput φ 19 (fget φ 120), H) := nrfl rfl
noncomputable def c94_71 : Code := kR c94_69
noncomputable def c94_72 : Code := kL c94_71
noncomputable def r94_23 : Array Oper := kO c94_72
noncomputable def o94_23_0 : Oper := opN r94_23 0
noncomputable def o94_23_1 : Oper := opN r94_23 1
noncomputable def o94_23_2 : Oper := opN r94_23 2
theorem x94_72 : execA E C (fg 94) B 148 E0 N c94_72 s = regX (runA E C B 148 r94_23 r94_23.toList s) (fun s => gcM E0 [12, 121, 122] (forget s.1 [12, 121, 122], s.2)) := x_reg (ops := r94_23) (by rfl) (by rfl) s
theorem r94_23_l : r94_23.toList = [o94_23_0, o94_23_1, o94_23_2] := nrfl rfl
theorem s94_23_0 : stepA E C B 148 r94_23 o94_23_0 (φ, H) = some (fput φ 121 (fget φ 12), H) := nrfl rfl
theorem s94_23_1 : stepA E C B 148 r94_23 o94_23_1 (φ, H) = stp (some 122) φ H (just (aBin E.T .quo 3 (fget φ 121) (.int .i64 8))) := nrfl rfl
theorem s94_23_2 : stepA E C B 148 r94_23 o94_23_2 (φ, H) = some (fput φ 20 (fget φ 122), H) := nrfl rfl
noncomputable def c94_73 : Code := kR c94_71
noncomputable def c94_74 : Code := kL c94_73
noncomputable def r94_24 : Array Oper := kO c94_74
noncomputable def o94_24_0 : Oper := opN r94_24 0
noncomputable def o94_24_1 : Oper := opN r94_24 1
noncomputable def o94_24_2 : Oper := opN r94_24 2
theorem x94_74 : execA E C (fg 94) B 148 E0 N c94_74 s = regX (runA E C B 148 r94_24 r94_24.toList s) (fun s => gcM E0 [123, 124] (forget s.1 [123, 124], s.2)) := x_reg (ops := r94_24) (by rfl) (by rfl) s
theorem r94_24_l : r94_24.toList = [o94_24_0, o94_24_1, o94_24_2] := nrfl rfl
theorem s94_24_0 : stepA E C B 148 r94_24 o94_24_0 (φ, H) = some (fput φ 123 (fget φ 18), H) := nrfl rfl
theorem s94_24_1 : stepA E C B 148 r94_24 o94_24_1 (φ, H) = some (fput φ 124 (fget φ 19), H) := nrfl rfl
theorem s94_24_2 : stepA E C B 148 r94_24 o94_24_2 (φ, H) = stp (some 125) φ H (just (aBin E.T .lss 3 (fget φ 123) (fget φ 124))) := nrfl rfl
noncomputable def c94_75 : Code := kR c94_73
noncomputable def c94_76 : Code := kT c94_75
noncomputable def c94_77 : Code := kL c94_76
noncomputable def r94_25 : Array Oper := kO c94_77
noncomputable def o94_25_0 : Oper := opN r94_25 0
noncomputable def o94_25_1 : Oper := opN r94_25 1
noncomputable def o94_25_2 : Oper := opN r94_25 2
noncomputable def o94_25_3 : Oper := opN r94_25 3
theorem x94_77 : execA E C (fg 94) B 148 E0 N c94_77 s = regX (runA E C B 148 r94_25 r94_25.toList s) (fun s => gcM E0 [18, 19, 20, 125, 126, 127, 128] (forget s.1 [18, 19, 20, 125, 126, 127, 128], s.2)) := x_reg (ops := r94_25) (by rfl) (by rfl) s
theorem r94_25_l : r94_25.toList = [o94_25_0, o94_25_1, o94_25_2, o94_25_3] := nrfl rfl
theorem s94_25_0 : stepA E C B 148 r94_25 o94_25_0 (φ, H) = some (fput φ 126 (fget φ 18), H) := nrfl rfl
theorem s94_25_1 : stepA E C B 148 r94_25 o94_25_1 (φ, H) = some (fput φ 127 (fget φ 20), H) := nrfl rfl
theorem s94_25_2 : stepA E C B 148 r94_25 o94_25_2 (φ, H) = stp (some 128) φ H (just (aBin E.T .geq 3 (fget φ 126) (fget φ 127))) := nrfl rfl
theorem s94_25_3 : stepA E C B 148 r94_25 o94_25_3 (φ, H) = some (fput φ 10 (fget φ 128), H) := nrfl rfl
noncomputable def c94_78 : Code := kR c94_76
noncomputable def c94_79 : Code := kL c94_78
noncomputable def r94_26 : Array Oper := kO c94_79
noncomputable def o94_26_0 : Oper := opN r94_26 0
noncomputable def o94_26_1 : Oper := opN r94_26 1
noncomputable def o94_26_2 : Oper := opN r94_26 2
noncomputable def o94_26_3 : Oper := opN r94_26 3
noncomputable def o94_26_4 : Oper := opN r94_26 4
noncomputable def o94_26_5 : Oper := opN r94_26 5
theorem x94_79 : execA E C (fg 94) B 148 E0 N c94_79 s = regX (runA E C B 148 r94_26 r94_26.toList s) (fun s => gcM E0 [1, 129, 130, 131, 132, 133, 134] (forget s.1 [1, 129, 130, 131, 132, 133, 134], s.2)) := x_reg (ops := r94_26) (by rfl) (by rfl) s
theorem r94_26_l : r94_26.toList = [o94_26_0, o94_26_1, o94_26_2, o94_26_3, o94_26_4, o94_26_5] := nrfl rfl
theorem s94_26_0 : stepA E C B 148 r94_26 o94_26_0 (φ, H) = some (fput φ 129 (fget φ 0), H) := nrfl rfl
theorem s94_26_1 : stepA E C B 148 r94_26 o94_26_1 (φ, H) = some (fput φ 130 (fget φ 1), H) := nrfl rfl
theorem s94_26_2 : stepA E C B 148 r94_26 o94_26_2 (φ, H) = some (fput φ 131 (fget φ 16), H) := nrfl rfl
theorem s94_26_3 : stepA E C B 148 r94_26 o94_26_3 (φ, H) = some (fput φ 132 (fget φ 3), H) := nrfl rfl
theorem s94_26_4 : stepA E C B 148 r94_26 o94_26_4 (φ, H) = some (fput φ 133 (fget φ 4), H) := nrfl rfl
theorem s94_26_5 : stepA E C B 148 r94_26 o94_26_5 (φ, H) = mutX (some 134) φ (C 94 [(fget φ 129), (fget φ 130), (fget φ 131), (fget φ 132), (fget φ 133)] H (B + 148 * 8)) := nrfl rfl
noncomputable def c94_80 : Code := kR c94_78
noncomputable def r94_27 : Array Oper := kO c94_80
noncomputable def o94_27_0 : Oper := opN r94_27 0
noncomputable def o94_27_1 : Oper := opN r94_27 1
noncomputable def o94_27_2 : Oper := opN r94_27 2
theorem x94_80 : execA E C (fg 94) B 148 E0 N c94_80 s = regX (runA E C B 148 r94_27 r94_27.toList s) (fun s => gcM E0 [16, 135, 136] (forget s.1 [16, 135, 136], s.2)) := x_reg (ops := r94_27) (by rfl) (by rfl) s
theorem r94_27_l : r94_27.toList = [o94_27_0, o94_27_1, o94_27_2] := nrfl rfl
theorem s94_27_0 : stepA E C B 148 r94_27 o94_27_0 (φ, H) = some (fput φ 135 (fget φ 16), H) := nrfl rfl
theorem s94_27_1 : stepA E C B 148 r94_27 o94_27_1 (φ, H) = stp (some 136) φ H (just (aBin E.T .add 3 (fget φ 135) (.int .i64 1))) := nrfl rfl
theorem s94_27_2 : stepA E C B 148 r94_27 o94_27_2 (φ, H) = some (fput φ 1 (fget φ 136), H) := nrfl rfl
theorem x94_78 : execA E C (fg 94) B 148 E0 N c94_78 s = seqX (execA E C (fg 94) B 148 E0 N c94_79 s) (execA E C (fg 94) B 148 E0 N c94_80) := x_seq (by rfl) s
theorem x94_76 : execA E C (fg 94) B 148 E0 N c94_76 s = seqX (execA E C (fg 94) B 148 E0 N c94_77 s) (execA E C (fg 94) B 148 E0 N c94_78) := x_seq (by rfl) s
noncomputable def c94_81 : Code := kE c94_75
noncomputable def c94_82 : Code := kL c94_81
noncomputable def r94_28 : Array Oper := kO c94_82
noncomputable def o94_28_0 : Oper := opN r94_28 0
noncomputable def o94_28_1 : Oper := opN r94_28 1
noncomputable def o94_28_2 : Oper := opN r94_28 2
noncomputable def o94_28_3 : Oper := opN r94_28 3
theorem x94_82 : execA E C (fg 94) B 148 E0 N c94_82 s = regX (runA E C B 148 r94_28 r94_28.toList s) (fun s => gcM E0 [18, 19, 20, 125, 137, 138, 139] (forget s.1 [18, 19, 20, 125, 137, 138, 139], s.2)) := x_reg (ops := r94_28) (by rfl) (by rfl) s
theorem r94_28_l : r94_28.toList = [o94_28_0, o94_28_1, o94_28_2, o94_28_3] := nrfl rfl
theorem s94_28_0 : stepA E C B 148 r94_28 o94_28_0 (φ, H) = some (fput φ 137 (fget φ 19), H) := nrfl rfl
theorem s94_28_1 : stepA E C B 148 r94_28 o94_28_1 (φ, H) = some (fput φ 138 (fget φ 20), H) := nrfl rfl
theorem s94_28_2 : stepA E C B 148 r94_28 o94_28_2 (φ, H) = stp (some 139) φ H (just (aBin E.T .geq 3 (fget φ 137) (fget φ 138))) := nrfl rfl
theorem s94_28_3 : stepA E C B 148 r94_28 o94_28_3 (φ, H) = some (fput φ 10 (fget φ 139), H) := nrfl rfl
noncomputable def c94_83 : Code := kR c94_81
noncomputable def c94_84 : Code := kL c94_83
noncomputable def r94_29 : Array Oper := kO c94_84
noncomputable def o94_29_0 : Oper := opN r94_29 0
noncomputable def o94_29_1 : Oper := opN r94_29 1
noncomputable def o94_29_2 : Oper := opN r94_29 2
noncomputable def o94_29_3 : Oper := opN r94_29 3
noncomputable def o94_29_4 : Oper := opN r94_29 4
noncomputable def o94_29_5 : Oper := opN r94_29 5
noncomputable def o94_29_6 : Oper := opN r94_29 6
theorem x94_84 : execA E C (fg 94) B 148 E0 N c94_84 s = regX (runA E C B 148 r94_29 r94_29.toList s) (fun s => gcM E0 [2, 140, 141, 142, 143, 144, 145, 146] (forget s.1 [2, 140, 141, 142, 143, 144, 145, 146], s.2)) := x_reg (ops := r94_29) (by rfl) (by rfl) s
theorem r94_29_l : r94_29.toList = [o94_29_0, o94_29_1, o94_29_2, o94_29_3, o94_29_4, o94_29_5, o94_29_6] := nrfl rfl
theorem s94_29_0 : stepA E C B 148 r94_29 o94_29_0 (φ, H) = some (fput φ 140 (fget φ 0), H) := nrfl rfl
theorem s94_29_1 : stepA E C B 148 r94_29 o94_29_1 (φ, H) = some (fput φ 141 (fget φ 16), H) := nrfl rfl
theorem s94_29_2 : stepA E C B 148 r94_29 o94_29_2 (φ, H) = stp (some 142) φ H (just (aBin E.T .add 3 (fget φ 141) (.int .i64 1))) := nrfl rfl
theorem s94_29_3 : stepA E C B 148 r94_29 o94_29_3 (φ, H) = some (fput φ 143 (fget φ 2), H) := nrfl rfl
theorem s94_29_4 : stepA E C B 148 r94_29 o94_29_4 (φ, H) = some (fput φ 144 (fget φ 3), H) := nrfl rfl
theorem s94_29_5 : stepA E C B 148 r94_29 o94_29_5 (φ, H) = some (fput φ 145 (fget φ 4), H) := nrfl rfl
theorem s94_29_6 : stepA E C B 148 r94_29 o94_29_6 (φ, H) = mutX (some 146) φ (C 94 [(fget φ 140), (fget φ 142), (fget φ 143), (fget φ 144), (fget φ 145)] H (B + 148 * 8)) := nrfl rfl
noncomputable def c94_85 : Code := kR c94_83
noncomputable def r94_30 : Array Oper := kO c94_85
noncomputable def o94_30_0 : Oper := opN r94_30 0
noncomputable def o94_30_1 : Oper := opN r94_30 1
theorem x94_85 : execA E C (fg 94) B 148 E0 N c94_85 s = regX (runA E C B 148 r94_30 r94_30.toList s) (fun s => gcM E0 [16, 147] (forget s.1 [16, 147], s.2)) := x_reg (ops := r94_30) (by rfl) (by rfl) s
theorem r94_30_l : r94_30.toList = [o94_30_0, o94_30_1] := nrfl rfl
theorem s94_30_0 : stepA E C B 148 r94_30 o94_30_0 (φ, H) = some (fput φ 147 (fget φ 16), H) := nrfl rfl
theorem s94_30_1 : stepA E C B 148 r94_30 o94_30_1 (φ, H) = some (fput φ 2 (fget φ 147), H) := nrfl rfl
theorem x94_83 : execA E C (fg 94) B 148 E0 N c94_83 s = seqX (execA E C (fg 94) B 148 E0 N c94_84 s) (execA E C (fg 94) B 148 E0 N c94_85) := x_seq (by rfl) s
theorem x94_81 : execA E C (fg 94) B 148 E0 N c94_81 s = seqX (execA E C (fg 94) B 148 E0 N c94_82 s) (execA E C (fg 94) B 148 E0 N c94_83) := x_seq (by rfl) s
theorem x94_75 : execA E C (fg 94) B 148 E0 N c94_75 (φ, H) = condX (fget φ 125) (execA E C (fg 94) B 148 E0 N c94_76 (φ, H)) (execA E C (fg 94) B 148 E0 N c94_81 (φ, H)) := x_cond (by rfl) _
theorem x94_73 : execA E C (fg 94) B 148 E0 N c94_73 s = seqX (execA E C (fg 94) B 148 E0 N c94_74 s) (execA E C (fg 94) B 148 E0 N c94_75) := x_seq (by rfl) s
theorem x94_71 : execA E C (fg 94) B 148 E0 N c94_71 s = seqX (execA E C (fg 94) B 148 E0 N c94_72 s) (execA E C (fg 94) B 148 E0 N c94_73) := x_seq (by rfl) s
theorem x94_69 : execA E C (fg 94) B 148 E0 N c94_69 s = seqX (execA E C (fg 94) B 148 E0 N c94_70 s) (execA E C (fg 94) B 148 E0 N c94_71) := x_seq (by rfl) s
theorem x94_67 : execA E C (fg 94) B 148 E0 N c94_67 s = seqX (execA E C (fg 94) B 148 E0 N c94_68 s) (execA E C (fg 94) B 148 E0 N c94_69) := x_seq (by rfl) s
theorem x94_65 : execA E C (fg 94) B 148 E0 N c94_65 s = seqX (execA E C (fg 94) B 148 E0 N c94_66 s) (execA E C (fg 94) B 148 E0 N c94_67) := x_seq (by rfl) s
theorem x94_55 : execA E C (fg 94) B 148 E0 N c94_55 s = seqX (execA E C (fg 94) B 148 E0 N c94_56 s) (execA E C (fg 94) B 148 E0 N c94_65) := x_seq (by rfl) s
theorem x94_45 : execA E C (fg 94) B 148 E0 N c94_45 s = seqX (execA E C (fg 94) B 148 E0 N c94_46 s) (execA E C (fg 94) B 148 E0 N c94_55) := x_seq (by rfl) s
theorem x94_35 : execA E C (fg 94) B 148 E0 N c94_35 s = seqX (execA E C (fg 94) B 148 E0 N c94_36 s) (execA E C (fg 94) B 148 E0 N c94_45) := x_seq (by rfl) s
theorem x94_33 : execA E C (fg 94) B 148 E0 N c94_33 s = seqX (execA E C (fg 94) B 148 E0 N c94_34 s) (execA E C (fg 94) B 148 E0 N c94_35) := x_seq (by rfl) s
theorem x94_25 : execA E C (fg 94) B 148 E0 N c94_25 s = seqX (execA E C (fg 94) B 148 E0 N c94_26 s) (execA E C (fg 94) B 148 E0 N c94_33) := x_seq (by rfl) s
theorem x94_17 : execA E C (fg 94) B 148 E0 N c94_17 s = seqX (execA E C (fg 94) B 148 E0 N c94_18 s) (execA E C (fg 94) B 148 E0 N c94_25) := x_seq (by rfl) s
theorem x94_9 : execA E C (fg 94) B 148 E0 N c94_9 s = seqX (execA E C (fg 94) B 148 E0 N c94_10 s) (execA E C (fg 94) B 148 E0 N c94_17) := x_seq (by rfl) s
theorem x94_7 : execA E C (fg 94) B 148 E0 N c94_7 s = seqX (execA E C (fg 94) B 148 E0 N c94_8 s) (execA E C (fg 94) B 148 E0 N c94_9) := x_seq (by rfl) s
theorem x94_6 : execA E C (fg 94) B 148 E0 N c94_6 s = blockX 1 (fun s => (forget s.1 [], s.2)) (execA E C (fg 94) B 148 E0 N c94_7 s) := x_block (by rfl) (by rfl) s
theorem x94_5 : execA E C (fg 94) B 148 E0 N c94_5 s = iterA (execA E C (fg 94) B 148 E0 N c94_6) (headA E0) N s := x_loop (by rfl) s
theorem x94_4 : execA E C (fg 94) B 148 E0 N c94_4 s = blockX 0 (fun s => (forget s.1 [], s.2)) (execA E C (fg 94) B 148 E0 N c94_5 s) := x_block (by rfl) (by rfl) s
theorem x94_2 : execA E C (fg 94) B 148 E0 N c94_2 s = seqX (execA E C (fg 94) B 148 E0 N c94_3 s) (execA E C (fg 94) B 148 E0 N c94_4) := x_seq (by rfl) s
theorem x94_0 : execA E C (fg 94) B 148 E0 N c94_0 s = seqX (execA E C (fg 94) B 148 E0 N c94_1 s) (execA E C (fg 94) B 148 E0 N c94_2) := x_seq (by rfl) s
theorem fi_94 : fInfo E 94 = some ⟨148, #[], c94_0⟩ := nrfl rfl
theorem b_94 (args : List AV) : bodyA E C fg N 94 args H B = bodyX E [] (execA E C (fg 94) B 148 H N c94_0 (frame0 args 0 [], H)) := bodyA_eq fi_94 args H
noncomputable def c104_0 : Code := kBody Proofs.Try.f104
noncomputable def c104_1 : Code := kL c104_0
noncomputable def r104_0 : Array Oper := kO c104_1
noncomputable def o104_0_0 : Oper := opN r104_0 0
noncomputable def o104_0_1 : Oper := opN r104_0 1
noncomputable def o104_0_2 : Oper := opN r104_0 2
theorem x104_1 : execA E C (fg 104) B 53 E0 N c104_1 s = regX (runA E C B 53 r104_0 r104_0.toList s) (fun s => gcM E0 [10, 11] (forget s.1 [10, 11], s.2)) := x_reg (ops := r104_0) (by rfl) (by rfl) s
theorem r104_0_l : r104_0.toList = [o104_0_0, o104_0_1, o104_0_2] := nrfl rfl
theorem s104_0_0 : stepA E C B 53 r104_0 o104_0_0 (φ, H) = some (fput φ 10 (fget φ 1), H) := nrfl rfl
theorem s104_0_1 : stepA E C B 53 r104_0 o104_0_1 (φ, H) = stp (some 11) φ H (just (aBin E.T .add 3 (fget φ 10) (.int .i64 1))) := nrfl rfl
theorem s104_0_2 : stepA E C B 53 r104_0 o104_0_2 (φ, H) = some (fput φ 8 (fget φ 11), H) := nrfl rfl
noncomputable def c104_2 : Code := kR c104_0
noncomputable def c104_3 : Code := kB c104_2
noncomputable def c104_4 : Code := kB c104_3
noncomputable def c104_5 : Code := kL c104_4
noncomputable def c104_6 : Code := kL c104_5
noncomputable def r104_1 : Array Oper := kO c104_6
noncomputable def o104_1_0 : Oper := opN r104_1 0
noncomputable def o104_1_1 : Oper := opN r104_1 1
noncomputable def o104_1_2 : Oper := opN r104_1 2
theorem x104_6 : execA E C (fg 104) B 53 E0 N c104_6 s = regX (runA E C B 53 r104_1 r104_1.toList s) (fun s => gcM E0 [12, 13] (forget s.1 [12, 13], s.2)) := x_reg (ops := r104_1) (by rfl) (by rfl) s
theorem r104_1_l : r104_1.toList = [o104_1_0, o104_1_1, o104_1_2] := nrfl rfl
theorem s104_1_0 : stepA E C B 53 r104_1 o104_1_0 (φ, H) = some (fput φ 12 (fget φ 8), H) := nrfl rfl
theorem s104_1_1 : stepA E C B 53 r104_1 o104_1_1 (φ, H) = some (fput φ 13 (fget φ 2), H) := nrfl rfl
theorem s104_1_2 : stepA E C B 53 r104_1 o104_1_2 (φ, H) = stp (some 14) φ H (just (aBin E.T .lss 3 (fget φ 12) (fget φ 13))) := nrfl rfl
noncomputable def c104_7 : Code := kR c104_5
noncomputable def c104_8 : Code := kT c104_7
theorem x104_8 : execA E C (fg 104) B 53 E0 N c104_8 s = some (.normal, s) := x_skip (by rfl) s
noncomputable def c104_9 : Code := kE c104_7
theorem x104_9 : execA E C (fg 104) B 53 E0 N c104_9 s = some (.exit 0, s) := x_exit (by rfl) s
theorem x104_7 : execA E C (fg 104) B 53 E0 N c104_7 (φ, H) = condX (fget φ 14) (execA E C (fg 104) B 53 E0 N c104_8 (φ, H)) (execA E C (fg 104) B 53 E0 N c104_9 (φ, H)) := x_cond (by rfl) _
theorem x104_5 : execA E C (fg 104) B 53 E0 N c104_5 s = seqX (execA E C (fg 104) B 53 E0 N c104_6 s) (execA E C (fg 104) B 53 E0 N c104_7) := x_seq (by rfl) s
noncomputable def c104_10 : Code := kR c104_4
noncomputable def c104_11 : Code := kL c104_10
noncomputable def c104_12 : Code := kB c104_11
noncomputable def c104_13 : Code := kL c104_12
noncomputable def r104_3 : Array Oper := kO c104_13
noncomputable def o104_3_0 : Oper := opN r104_3 0
noncomputable def o104_3_1 : Oper := opN r104_3 1
theorem x104_13 : execA E C (fg 104) B 53 E0 N c104_13 s = regX (runA E C B 53 r104_3 r104_3.toList s) (fun s => gcM E0 [14, 17] (forget s.1 [14, 17], s.2)) := x_reg (ops := r104_3) (by rfl) (by rfl) s
theorem r104_3_l : r104_3.toList = [o104_3_0, o104_3_1] := nrfl rfl
theorem s104_3_0 : stepA E C B 53 r104_3 o104_3_0 (φ, H) = some (fput φ 17 (fget φ 8), H) := nrfl rfl
theorem s104_3_1 : stepA E C B 53 r104_3 o104_3_1 (φ, H) = some (fput φ 9 (fget φ 17), H) := nrfl rfl
noncomputable def c104_14 : Code := kR c104_12
noncomputable def c104_15 : Code := kB c104_14
noncomputable def c104_16 : Code := kB c104_15
noncomputable def c104_17 : Code := kL c104_16
noncomputable def c104_18 : Code := kL c104_17
noncomputable def r104_4 : Array Oper := kO c104_18
noncomputable def o104_4_0 : Oper := opN r104_4 0
noncomputable def o104_4_1 : Oper := opN r104_4 1
noncomputable def o104_4_2 : Oper := opN r104_4 2
noncomputable def o104_4_3 : Oper := opN r104_4 3
noncomputable def o104_4_4 : Oper := opN r104_4 4
noncomputable def o104_4_5 : Oper := opN r104_4 5
noncomputable def o104_4_6 : Oper := opN r104_4 6
noncomputable def o104_4_7 : Oper := opN r104_4 7
noncomputable def o104_4_8 : Oper := opN r104_4 8
noncomputable def o104_4_9 : Oper := opN r104_4 9
noncomputable def o104_4_10 : Oper := opN r104_4 10
noncomputable def o104_4_11 : Oper := opN r104_4 11
noncomputable def o104_4_12 : Oper := opN r104_4 12
noncomputable def o104_4_13 : Oper := opN r104_4 13
noncomputable def o104_4_14 : Oper := opN r104_4 14
noncomputable def o104_4_15 : Oper := opN r104_4 15
noncomputable def o104_4_16 : Oper := opN r104_4 16
theorem x104_18 : execA E C (fg 104) B 53 E0 N c104_18 s = regX (drawA E C B 53 r104_4 s) (fun s => gcM E0 [18, 19, 20, 21, 22, 23, 24, 25, 26, 27, 28, 29, 30, 31, 32, 33] (forget s.1 [18, 19, 20, 21, 22, 23, 24, 25, 26, 27, 28, 29, 30, 31, 32, 33], s.2)) := x_draw (ops := r104_4) (by rfl) (by rfl) s
theorem r104_4_l : r104_4.toList = [o104_4_0, o104_4_1, o104_4_2, o104_4_3, o104_4_4, o104_4_5, o104_4_6, o104_4_7, o104_4_8, o104_4_9, o104_4_10, o104_4_11, o104_4_12, o104_4_13, o104_4_14, o104_4_15, o104_4_16] := nrfl rfl
theorem r104_4_st : statOk r104_4 = true := by kernel_rfl
theorem r104_4_dr : drawA E C B 53 r104_4 s = if neat 53 s = true then drX r104_4 (runT E C B 53 r104_4 r104_4.toList 0 s) else none := draw_eq r104_4_st s
theorem r104_4_an (l : List (Nat × Tr)) : dynOk r104_4 l = (!writing l || dynPairs [[], [], [0, 1], [0, 1, 2], [0, 1, 2, 3], [0, 1, 2, 3], [0, 1, 2, 3], [0, 1, 2, 3, 5, 6], [0, 1, 2, 3, 5, 6, 7], [0, 1, 2, 3], [0, 1, 2, 3], [0, 1, 2, 3, 10], [0, 1, 2, 3, 9, 10, 11], [0, 1, 2, 3, 9, 10, 11, 12], [0, 1, 2, 3, 4, 5, 6, 7, 8, 9, 10, 11, 12, 13], [0, 1, 2, 3, 4, 5, 6, 7, 8, 9, 10, 11, 12, 13, 14], [0, 1, 2, 3, 4, 5, 6, 7, 8, 9, 10, 11, 12, 13, 14, 15]] (touching l)) := dynOk_eq (by kernel_rfl) l
theorem s104_4_0 : stepT E C B 53 r104_4 o104_4_0 (φ, H) = some ((fput φ 18 (fget φ 9), H), ⟨false, [], []⟩) := stT_go rfl (goT_mv rfl rfl)
theorem s104_4_1 : stepT E C B 53 r104_4 o104_4_1 (φ, H) = some ((fput φ 19 (fget φ 1), H), ⟨false, [], []⟩) := stT_go rfl (goT_mv rfl rfl)
theorem s104_4_2 : stepT E C B 53 r104_4 o104_4_2 (φ, H) = stpT (some 20) φ H (just (aBin E.T .gtr 3 (fget φ 18) (fget φ 19))) := stT_go rfl (goT_R rfl rfl)
theorem s104_4_3 : stepT E C B 53 r104_4 o104_4_3 (φ, H) = some ((fput φ 21 (fget φ 20), H), ⟨false, [], []⟩) := stT_go rfl (goT_mv rfl rfl)
theorem s104_4_4 : stepT E C B 53 r104_4 o104_4_4 (φ, H) = gdT φ 21 true (fun φ => (some (fput φ 22 (.tup []), H)).map fun s => (s, ⟨false, [], []⟩)) (fun φ => some ((fput φ 22 (fget φ 3), H), ⟨false, [], []⟩)) := stT_gd (j := 3) (oj := o104_4_3) rfl rfl rfl (fun _ => rfl) (fun _ => goT_mv rfl rfl)
theorem s104_4_5 : stepT E C B 53 r104_4 o104_4_5 (φ, H) = gdT φ 21 true (fun φ => (some (fput φ 23 (.tup []), H)).map fun s => (s, ⟨false, [], []⟩)) (fun φ => some ((fput φ 23 (fget φ 0), H), ⟨false, [], []⟩)) := stT_gd (j := 3) (oj := o104_4_3) rfl rfl rfl (fun _ => rfl) (fun _ => goT_mv rfl rfl)
theorem s104_4_6 : stepT E C B 53 r104_4 o104_4_6 (φ, H) = gdT φ 21 true (fun φ => (some (fput φ 24 (.tup []), H)).map fun s => (s, ⟨false, [], []⟩)) (fun φ => some ((fput φ 24 (fget φ 9), H), ⟨false, [], []⟩)) := stT_gd (j := 3) (oj := o104_4_3) rfl rfl rfl (fun _ => rfl) (fun _ => goT_mv rfl rfl)
theorem s104_4_7 : stepT E C B 53 r104_4 o104_4_7 (φ, H) = gdT φ 21 true (fun φ => (some (fput φ 25 (.tup []), H)).map fun s => (s, ⟨false, [], []⟩)) (fun φ => stpT (some 25) φ H (just (aIndexAddr E.T 22 (fget φ 23) (fget φ 24)))) := stT_gd (j := 3) (oj := o104_4_3) rfl rfl rfl (fun _ => rfl) (fun _ => goT_R rfl rfl)
theorem s104_4_8 : stepT E C B 53 r104_4 o104_4_8 (φ, H) = gdT φ 21 true (fun φ => (some (fput φ 26 (.tup []), H)).map fun s => (s, ⟨false, [], []⟩)) (fun φ => stpT (some 26) φ H (just (aLoad E.T 45 (fget φ 25)))) := stT_gd (j := 3) (oj := o104_4_3) rfl rfl rfl (fun _ => rfl) (fun _ => goT_R rfl rfl)
theorem s104_4_9 : stepT E C B 53 r104_4 o104_4_9 (φ, H) = gdT φ 21 true (fun φ => (some (fput φ 27 (.tup []), H)).map fun s => (s, ⟨false, [], []⟩)) (fun φ => some ((fput φ 27 (fget φ 0), H), ⟨false, [], []⟩)) := stT_gd (j := 3) (oj := o104_4_3) rfl rfl rfl (fun _ => rfl) (fun _ => goT_mv rfl rfl)
theorem s104_4_10 : stepT E C B 53 r104_4 o104_4_10 (φ, H) = gdT φ 21 true (fun φ => (some (fput φ 28 (.tup []), H)).map fun s => (s, ⟨false, [], []⟩)) (fun φ => some ((fput φ 28 (fget φ 9), H), ⟨false, [], []⟩)) := stT_gd (j := 3) (oj := o104_4_3) rfl rfl rfl (fun _ => rfl) (fun _ => goT_mv rfl rfl)
theorem s104_4_11 : stepT E C B 53 r104_4 o104_4_11 (φ, H) = gdT φ 21 true (fun φ => (some (fput φ 29 (.tup []), H)).map fun s => (s, ⟨false, [], []⟩)) (fun φ => stpT (some 29) φ H (just (aBin E.T .sub 3 (fget φ 28) (.int .i64 1)))) := stT_gd (j := 3) (oj := o104_4_3) rfl rfl rfl (fun _ => rfl) (fun _ => goT_R rfl rfl)
theorem s104_4_12 : stepT E C B 53 r104_4 o104_4_12 (φ, H) = gdT φ 21 true (fun φ => (some (fput φ 30 (.tup []), H)).map fun s => (s, ⟨false, [], []⟩)) (fun φ => stpT (some 30) φ H (just (aIndexAddr E.T 22 (fget φ 27) (fget φ 29)))) := stT_gd (j := 3) (oj := o104_4_3) rfl rfl rfl (fun _ => rfl) (fun _ => goT_R rfl rfl)
theorem s104_4_13 : stepT E C B 53 r104_4 o104_4_13 (φ, H) = gdT φ 21 true (fun φ => (some (fput φ 31 (.tup []), H)).map fun s => (s, ⟨false, [], []⟩)) (fun φ => stpT (some 31) φ H (just (aLoad E.T 45 (fget φ 30)))) := stT_gd (j := 3) (oj := o104_4_3) rfl rfl rfl (fun _ => rfl) (fun _ => goT_R rfl rfl)
theorem s104_4_14 : stepT E C B 53 r104_4 o104_4_14 (φ, H) = gdT φ 21 true (fun φ => (some (fput φ 32 (.tup []), H)).map fun s => (s, ⟨false, [], []⟩)) (fun φ => callVT E C (B + 53 * 8) (some 32) (fun j => B + j * 53 + 32) φ H (fget φ 22) [(fget φ 26), (fget φ 31)] true) := stT_gd (j := 3) (oj := o104_4_3) rfl rfl rfl (fun _ => rfl) (fun _ => goT_V rfl rfl)
theorem s104_4_15 : stepT E C B 53 r104_4 o104_4_15 (φ, H) = gdT φ 21 true (fun φ => (some (fput φ 33 (.tup []), H)).map fun s => (s, ⟨false, [], []⟩)) (fun φ => stpT (some 33) φ H (just (aBin E.T .lss 3 (fget φ 32) (.int .i64 0)))) := stT_gd (j := 3) (oj := o104_4_3) rfl rfl rfl (fun _ => rfl) (fun _ => goT_R rfl rfl)
theorem s104_4_16 : stepT E C B 53 r104_4 o104_4_16 (φ, H) = stpT (some 34) φ H (opPick (fget φ 21) (fget φ 33) (.bool false)) := stT_go rfl (goT_R rfl rfl)
noncomputable def c104_19 : Code := kR c104_17
noncomputable def c104_20 : Code := kT c104_19
theorem x104_20 : execA E C (fg 104) B 53 E0 N c104_20 s = some (.normal, s) := x_skip (by rfl) s
noncomputable def c104_21 : Code := kE c104_19
theorem x104_21 : execA E C (fg 104) B 53 E0 N c104_21 s = some (.exit 2, s) := x_exit (by rfl) s
theorem x104_19 : execA E C (fg 104) B 53 E0 N c104_19 (φ, H) = condX (fget φ 34) (execA E C (fg 104) B 53 E0 N c104_20 (φ, H)) (execA E C (fg 104) B 53 E0 N c104_21 (φ, H)) := x_cond (by rfl) _
theorem x104_17 : execA E C (fg 104) B 53 E0 N c104_17 s = seqX (execA E C (fg 104) B 53 E0 N c104_18 s) (execA E C (fg 104) B 53 E0 N c104_19) := x_seq (by rfl) s
noncomputable def c104_22 : Code := kR c104_16
noncomputable def c104_23 : Code := kL c104_22
noncomputable def c104_24 : Code := kB c104_23
noncomputable def r104_6 : Array Oper := kO c104_24
noncomputable def o104_6_0 : Oper := opN r104_6 0
noncomputable def o104_6_1 : Oper := opN r104_6 1
noncomputable def o104_6_2 : Oper := opN r104_6 2
noncomputable def o104_6_3 : Oper := opN r104_6 3
noncomputable def o104_6_4 : Oper := opN r104_6 4
noncomputable def o104_6_5 : Oper := opN r104_6 5
noncomputable def o104_6_6 : Oper := opN r104_6 6
noncomputable def o104_6_7 : Oper := opN r104_6 7
noncomputable def o104_6_8 : Oper := opN r104_6 8
noncomputable def o104_6_9 : Oper := opN r104_6 9
noncomputable def o104_6_10 : Oper := opN r104_6 10
noncomputable def o104_6_11 : Oper := opN r104_6 11
noncomputable def o104_6_12 : Oper := opN r104_6 12
noncomputable def o104_6_13 : Oper := opN r104_6 13
noncomputable def o104_6_14 : Oper := opN r104_6 14
noncomputable def o104_6_15 : Oper := opN r104_6 15
noncomputable def o104_6_16 : Oper := opN r104_6 16
noncomputable def o104_6_17 : Oper := opN r104_6 17
theorem x104_24 : execA E C (fg 104) B 53 E0 N c104_24 s = regX (drawA E C B 53 r104_6 s) (fun s => gcM E0 [34, 37, 38, 39, 40, 41, 42, 43, 44, 45, 46, 47, 48, 49, 50, 51, 52] (forget s.1 [34, 37, 38, 39, 40, 41, 42, 43, 44, 45, 46, 47, 48, 49, 50, 51, 52], s.2)) := x_draw (ops := r104_6) (by rfl) (by rfl) s
theorem r104_6_l : r104_6.toList = [o104_6_0, o104_6_1, o104_6_2, o104_6_3, o104_6_4, o104_6_5, o104_6_6, o104_6_7, o104_6_8, o104_6_9, o104_6_10, o104_6_11, o104_6_12, o104_6_13, o104_6_14, o104_6_15, o104_6_16, o104_6_17] := nrfl rfl
theorem r104_6_st : statOk r104_6 = true := by kernel_rfl
theorem r104_6_dr : drawA E C B 53 r104_6 s = if neat 53 s = true then drX r104_6 (runT E C B 53 r104_6 r104_6.toList 0 s) else none := draw_eq r104_6_st s
theorem r104_6_an (l : List (Nat × Tr)) : dynOk r104_6 l = (!writing l || dynPairs [[], [], [], [], [3], [], [], [6], [5, 6, 7], [5, 6, 7, 8], [], [], [10, 11], [10, 11, 12], [0, 1, 5, 6, 7, 8, 9, 10, 11, 12, 13], [0, 1, 5, 6, 7, 8, 9, 10, 11, 12, 13, 14], [0, 1, 2, 3, 4, 5, 6, 7, 8, 9, 10, 11, 12, 13, 14, 15], [0, 1, 2, 3, 4, 5, 6, 7, 8, 9, 10, 11, 12, 13, 14, 15, 16]] (touching l)) := dynOk_eq (by kernel_rfl) l
theorem s104_6_0 : stepT E C B 53 r104_6 o104_6_0 (φ, H) = some ((fput φ 37 (fget φ 0), H), ⟨false, [], []⟩) := stT_go rfl (goT_mv rfl rfl)
theorem s104_6_1 : stepT E C B 53 r104_6 o104_6_1 (φ, H) = some ((fput φ 38 (fget φ 9), H), ⟨false, [], []⟩) := stT_go rfl (goT_mv rfl rfl)
theorem s104_6_2 : stepT E C B 53 r104_6 o104_6_2 (φ, H) = some ((fput φ 39 (fget φ 0), H), ⟨false, [], []⟩) := stT_go rfl (goT_mv rfl rfl)
theorem s104_6_3 : stepT E C B 53 r104_6 o104_6_3 (φ, H) = some ((fput φ 40 (fget φ 9), H), ⟨false, [], []⟩) := stT_go rfl (goT_mv rfl rfl)
theorem s104_6_4 : stepT E C B 53 r104_6 o104_6_4 (φ, H) = stpT (some 41) φ H (just (aBin E.T .sub 3 (fget φ 40) (.int .i64 1))) := stT_go rfl (goT_R rfl rfl)
theorem s104_6_5 : stepT E C B 53 r104_6 o104_6_5 (φ, H) = some ((fput φ 42 (fget φ 0), H), ⟨false, [], []⟩) := stT_go rfl (goT_mv rfl rfl)
theorem s104_6_6 : stepT E C B 53 r104_6 o104_6_6 (φ, H) = some ((fput φ 43 (fget φ 9), H), ⟨false, [], []⟩) := stT_go rfl (goT_mv rfl rfl)
theorem s104_6_7 : stepT E C B 53 r104_6 o104_6_7 (φ, H) = stpT (some 44) φ H (just (aBin E.T .sub 3 (fget φ 43) (.int .i64 1))) := stT_go rfl (goT_R rfl rfl)
theorem s104_6_8 : stepT E C B 53 r104_6 o104_6_8 (φ, H) = stpT (some 45) φ H (just (aIndexAddr E.T 22 (fget φ 42) (fget φ 44))) := stT_go rfl (goT_R rfl rfl)
theorem s104_6_9 : stepT E C B 53 r104_6 o104_6_9 (φ, H) = stpT (some 46) φ H (just (aLoad E.T 45 (fget φ 45))) := stT_go rfl (goT_R rfl rfl)
theorem s104_6_10 : stepT E C B 53 r104_6 o104_6_10 (φ, H) = some ((fput φ 47 (fget φ 0), H), ⟨false, [], []⟩) := stT_go rfl (goT_mv rfl rfl)
theorem s104_6_11 : stepT E C B 53 r104_6 o104_6_11 (φ, H) = some ((fput φ 48 (fget φ 9), H), ⟨false, [], []⟩) := stT_go rfl (goT_mv rfl rfl)
theorem s104_6_12 : stepT E C B 53 r104_6 o104_6_12 (φ, H) = stpT (some 49) φ H (just (aIndexAddr E.T 22 (fget φ 47) (fget φ 48))) := stT_go rfl (goT_R rfl rfl)
theorem s104_6_13 : stepT E C B 53 r104_6 o104_6_13 (φ, H) = stpT (some 50) φ H (just (aLoad E.T 45 (fget φ 49))) := stT_go rfl (goT_R rfl rfl)
theorem s104_6_14 : stepT E C B 53 r104_6 o104_6_14 (φ, H) = stpT (some 51) φ H (just (aIndexAddr E.T 22 (fget φ 37) (fget φ 38))) := stT_go rfl (goT_R rfl rfl)
theorem s104_6_15 : stepT E C B 53 r104_6 o104_6_15 (φ, H) = stpT none φ H (opStore E.T 45 (fget φ 51) (fget φ 46)) := stT_go rfl (goT_R rfl rfl)
theorem s104_6_16 : stepT E C B 53 r104_6 o104_6_16 (φ, H) = stpT (some 52) φ H (just (aIndexAddr E.T 22 (fget φ 39) (fget φ 41))) := stT_go rfl (goT_R rfl rfl)
theorem s104_6_17 : stepT E C B 53 r104_6 o104_6_17 (φ, H) = stpT none φ H (opStore E.T 45 (fget φ 52) (fget φ 50)) := stT_go rfl (goT_R rfl rfl)
theorem x104_23 : execA E C (fg 104) B 53 E0 N c104_23 s = blockX 3 (fun s => (forget s.1 [], s.2)) (execA E C (fg 104) B 53 E0 N c104_24 s) := x_block (by rfl) (by rfl) s
noncomputable def c104_25 : Code := kR c104_22
noncomputable def r104_5 : Array Oper := kO c104_25
noncomputable def o104_5_0 : Oper := opN r104_5 0
noncomputable def o104_5_1 : Oper := opN r104_5 1
noncomputable def o104_5_2 : Oper := opN r104_5 2
theorem x104_25 : execA E C (fg 104) B 53 E0 N c104_25 s = regX (runA E C B 53 r104_5 r104_5.toList s) (fun s => gcM E0 [35, 36] (forget s.1 [35, 36], s.2)) := x_reg (ops := r104_5) (by rfl) (by rfl) s
theorem r104_5_l : r104_5.toList = [o104_5_0, o104_5_1, o104_5_2] := nrfl rfl
theorem s104_5_0 : stepA E C B 53 r104_5 o104_5_0 (φ, H) = some (fput φ 35 (fget φ 9), H) := nrfl rfl
theorem s104_5_1 : stepA E C B 53 r104_5 o104_5_1 (φ, H) = stp (some 36) φ H (just (aBin E.T .sub 3 (fget φ 35) (.int .i64 1))) := nrfl rfl
theorem s104_5_2 : stepA E C B 53 r104_5 o104_5_2 (φ, H) = some (fput φ 9 (fget φ 36), H) := nrfl rfl
theorem x104_22 : execA E C (fg 104) B 53 E0 N c104_22 s = seqX (execA E C (fg 104) B 53 E0 N c104_23 s) (execA E C (fg 104) B 53 E0 N c104_25) := x_seq (by rfl) s
theorem x104_16 : execA E C (fg 104) B 53 E0 N c104_16 s = seqX (execA E C (fg 104) B 53 E0 N c104_17 s) (execA E C (fg 104) B 53 E0 N c104_22) := x_seq (by rfl) s
theorem x104_15 : execA E C (fg 104) B 53 E0 N c104_15 s = iterA (execA E C (fg 104) B 53 E0 N c104_16) (headA E0) N s := x_loop (by rfl) s
theorem x104_14 : execA E C (fg 104) B 53 E0 N c104_14 s = blockX 2 (fun s => (forget s.1 [9, 34], s.2)) (execA E C (fg 104) B 53 E0 N c104_15 s) := x_block (by rfl) (by rfl) s
theorem x104_12 : execA E C (fg 104) B 53 E0 N c104_12 s = seqX (execA E C (fg 104) B 53 E0 N c104_13 s) (execA E C (fg 104) B 53 E0 N c104_14) := x_seq (by rfl) s
theorem x104_11 : execA E C (fg 104) B 53 E0 N c104_11 s = blockX 1 (fun s => (forget s.1 [], s.2)) (execA E C (fg 104) B 53 E0 N c104_12 s) := x_block (by rfl) (by rfl) s
noncomputable def c104_26 : Code := kR c104_10
noncomputable def r104_2 : Array Oper := kO c104_26
noncomputable def o104_2_0 : Oper := opN r104_2 0
noncomputable def o104_2_1 : Oper := opN r104_2 1
noncomputable def o104_2_2 : Oper := opN r104_2 2
theorem x104_26 : execA E C (fg 104) B 53 E0 N c104_26 s = regX (runA E C B 53 r104_2 r104_2.toList s) (fun s => gcM E0 [15, 16] (forget s.1 [15, 16], s.2)) := x_reg (ops := r104_2) (by rfl) (by rfl) s
theorem r104_2_l : r104_2.toList = [o104_2_0, o104_2_1, o104_2_2] := nrfl rfl
theorem s104_2_0 : stepA E C B 53 r104_2 o104_2_0 (φ, H) = some (fput φ 15 (fget φ 8), H) := nrfl rfl
theorem s104_2_1 : stepA E C B 53 r104_2 o104_2_1 (φ, H) = stp (some 16) φ H (just (aBin E.T .add 3 (fget φ 15) (.int .i64 1))) := nrfl rfl
theorem s104_2_2 : stepA E C B 53 r104_2 o104_2_2 (φ, H) = some (fput φ 8 (fget φ 16), H) := nrfl rfl
theorem x104_10 : execA E C (fg 104) B 53 E0 N c104_10 s = seqX (execA E C (fg 104) B 53 E0 N c104_11 s) (execA E C (fg 104) B 53 E0 N c104_26) := x_seq (by rfl) s
theorem x104_4 : execA E C (fg 104) B 53 E0 N c104_4 s = seqX (execA E C (fg 104) B 53 E0 N c104_5 s) (execA E C (fg 104) B 53 E0 N c104_10) := x_seq (by rfl) s
theorem x104_3 : execA E C (fg 104) B 53 E0 N c104_3 s = iterA (execA E C (fg 104) B 53 E0 N c104_4) (headA E0) N s := x_loop (by rfl) s
theorem x104_2 : execA E C (fg 104) B 53 E0 N c104_2 s = blockX 0 (fun s => (forget s.1 [0, 1, 2, 3, 8, 14], s.2)) (execA E C (fg 104) B 53 E0 N c104_3 s) := x_block (by rfl) (by rfl) s
theorem x104_0 : execA E C (fg 104) B 53 E0 N c104_0 s = seqX (execA E C (fg 104) B 53 E0 N c104_1 s) (execA E C (fg 104) B 53 E0 N c104_2) := x_seq (by rfl) s
theorem fi_104 : fInfo E 104 = some ⟨53, #[], c104_0⟩ := nrfl rfl
theorem b_104 (args : List AV) : bodyA E C fg N 104 args H B = bodyX E [] (execA E C (fg 104) B 53 H N c104_0 (frame0 args 0 [], H)) := bodyA_eq fi_104 args H
end Go.AM.Ytmhbnflnlglljaa
end

section
namespace Go.AM
end Go.AM
namespace Go.AM.Ytmhbnflnlglljaa
open Go Go.AM
set_option maxRecDepth 100000
set_option maxHeartbeats 4000000
def cmpV (sg : Int) (a b : Stone) : Int := sg * (b.pos - a.pos)
theorem cmp_run {C : Callee} {a b : Stone} {sg : Int} (hs : sg = 1 ∨ sg = -1) (ha : -33554432 ≤ a.pos ∧ a.pos ≤ 33554432) (hb : -33554432 ≤ b.pos ∧ b.pos ≤ 33554432) :
    rsOf (bodyA E C fg 1000 60 [.agg (sc a), .agg (sc b), .iptr [.int .i64 sg] 0] [] 0) = some (.int .i64 (cmpV sg a b)) := by
  have w1 : wrp .i64 (b.pos - a.pos) = b.pos - a.pos := wrp64 (by omega)
  have w2 : wrp .i64 (sg * (b.pos - a.pos)) = sg * (b.pos - a.pos) := by rcases hs with rfl | rfl <;> exact wrp64 (by omega)
  simp only [sc, seqX_normal, bindR_some, regX_some, bodyX_ret, run_nil, run_cons, fget_cons', fput_cons', forget_nil, forget_cons', hget_nil', hget_cons', hset_nil', hset_cons', frame0, gcM_c, stp, opBox, just, Rd.bind, Rd.run, Rd.opt, upds, acells, rdCells, fieldOf, aFieldAddr, aLoad, resA, resL, fresh, aBin, aInt, Nat.reduceAdd, Nat.reduceBEq, Nat.reduceEqDiff, Nat.reduceLeDiff, ↓reduceIte, reduceCtorEq, liveBlk_eq, Nat.zero_add, putD_some, Option.map_some, List.elem_cons, List.elem_nil, List.length_cons, List.length_nil, List.getElem?_cons_zero, List.getElem?_cons_succ, T_3, T_45, x60_1, r60_0_l, s60_0_0, s60_0_1, s60_0_2, x60_3, r60_1_l, s60_1_0, s60_1_1, s60_1_2, s60_1_3, s60_1_4, s60_1_5, s60_1_6, s60_1_7, x60_4, x60_2, x60_0, b_60, w1, w2, cmpV]
theorem cmp_call {d : Nat} {site : Nat → Nat} {seen : List Nat} {a b : Stone} {sg : Int} (hs : sg = 1 ∨ sg = -1) (ha : -33554432 ≤ a.pos ∧ a.pos ≤ 33554432) (hb : -33554432 ≤ b.pos ∧ b.pos ≤ 33554432) :
    aBack site true seen (thaw (callA E fg 1000 (d + 1)) 60 [.agg (sc a), .agg (sc b), .iptr [.int .i64 sg] 0] [] 0) = .pure (.int .i64 (cmpV sg a b), []) :=
  aBack_int (rs_ex (cmp_run hs ha hb))
abbrev sH (sg : Int) (l : List Stone) : AHeap := [(3, ⟨.box, [.int .i64 sg]⟩), (4, ⟨.box, [.int .i64 0, .int .i64 0]⟩), (15, ⟨.row, pcells l⟩)]
def swp (l : List Stone) (j : Nat) : List Stone := (l.set (j + 1) (l.getD j default)).set j (l.getD (j + 1) default)
theorem pcells_put : ∀ (l : List Stone) (k : Nat) (x : Stone), k < l.length → ((((pcells l).set (k * 4) (.int .i64 x.half)).set (k * 4 + 1) (.int .i64 x.pos)).set (k * 4 + 1 + 1) (.int .i64 x.least)).set (k * 4 + 1 + 1 + 1) (.int .i64 x.most) = pcells (l.set k x)
  | [], k, x, h => by simp at h
  | a :: l, 0, x, h => by simp [pcells, sc]
  | a :: l, k + 1, x, h => by
    have ih := pcells_put l k x (by simpa using h)
    have e : (k + 1) * 4 = k * 4 + 4 := by omega
    rw [List.set_cons_succ, pcells, pcells, ← ih, e]
    simp only [sc, List.cons_append, List.nil_append, show k * 4 + 4 + 1 = k * 4 + 1 + 4 by omega, show k * 4 + 1 + 4 + 1 = k * 4 + 1 + 1 + 4 by omega, show k * 4 + 1 + 1 + 4 + 1 = k * 4 + 1 + 1 + 1 + 4 by omega, List.set_cons_succ]
abbrev inS (sg : Int) (n i j : Nat) (l : List Stone) : St := ([(9, .int .i64 j), (8, .int .i64 i), (3, .clo 60 [.ptr 3 0 1]), (2, .int .i64 n), (1, .int .i64 0), (0, .ref 15 0 n n (n * 4) 4 false)], sH sg l)
theorem cmp_pure (caps args : List AV) : mutV E (.clo 60 caps) args = none := rfl
theorem ins_go {C : Callee} {B : Nat} {l l0 : List Stone} {sg : Int} {i j : Nat} {x y : Stone} (hl : l.length ≤ 5) (hj : j + 1 < l.length) (hx : l[j]? = some x) (hy : l[j + 1]? = some y)
    (cc : ∀ (site : Nat → Nat) seen, aBack site true seen (thaw C 60 [.agg (sc y), .agg (sc x), .iptr [.int .i64 sg] 0] [] 0) = .pure (.int .i64 (cmpV sg y x), [])) (hc : cmpV sg y x < 0) :
    ∃ s', execA E C (fg 104) B 53 (sH sg l0) 1000 c104_16 (inS sg l.length i (j + 1) l) = some (.normal, s') ∧ headA (sH sg l0) s' = inS sg l.length i j (swp l j) := by
  have e : swp l j = (l.set (j + 1) x).set j y := by simp [swp, hx, hy]
  have w1 : wrp .i64 (((j + 1 : Nat) : Int) - 1) = (j : Int) := by rw [wrp64 (by omega)]; omega
  have g : ((j + 1 : Nat) : Int) > 0 := by omega
  have a1 := pcells_at l j x hx
  have a2 := pcells_at l (j + 1) y hy
  have o1 : j * 4 + 4 ≤ l.length * 4 := by omega
  have o2 : (j + 1) * 4 + 4 ≤ l.length * 4 := by omega
  have hjl : j < l.length := by omega
  have p1 := pcells_put l (j + 1) x hj
  have p2 := pcells_put (l.set (j + 1) x) j y (by simp; omega)
  have hpl := pcells_length l
  have hpl2 : (pcells (l.set (j + 1) x)).length = l.length * 4 := by rw [pcells_length]; simp
  simp only [sc] at a1 a2 cc
  rw [e]
  simp only [condX_bool, blockX_normal, fset_cons, Bool.not_true, Bool.not_false, run_nil, run_cons, fget_cons', fput_cons', forget_nil, forget_cons', hget_cons', hset_cons', gcM_c, stp, opPick, just, Rd.bind, Rd.run, Rd.opt, upds, acells, tsz, rdCells, aLoad, aStore, opStore, aIndexAddr, aNum, aBin, aInt, putC, Nat.reduceAdd, Nat.reduceMul, Nat.reduceLT, Nat.reduceBEq, Nat.reduceEqDiff, Nat.reduceLeDiff, ↓reduceIte, reduceCtorEq, liveBlk_eq, Nat.zero_add, List.nil_append, rtX_some, addT_some, drX_some, runT_nil, runT_cons, neat_eq, descF_nil', descF_cons', ascH_nil', ascH_cons', stpT, ↓gdT, Rd.foot, writing, touching, Tr.empty, dynPairs, apartT, disj, List.isEmpty_nil, List.isEmpty_cons, List.map_nil, List.map_cons, Bool.not_false, Bool.not_true, Bool.true_or, Bool.or_true, Bool.or_false, Bool.and_true, Bool.true_and, Bool.and_self, decide_true, frz, putD_some, putD_none, and_true, Int.natCast_nonneg, Int.ofNat_lt, Int.toNat_natCast, aCall, snaps, snap, List.append_nil, List.elem_cons, List.elem_nil, List.length_cons, List.length_nil, seqN, bindN, regN, T_22, T_45, x104_18, r104_4_l, r104_4_dr, r104_4_an, s104_4_0, s104_4_1, s104_4_2, s104_4_3, s104_4_4, s104_4_5, s104_4_6, s104_4_7, s104_4_8, s104_4_9, s104_4_10, s104_4_11, s104_4_12, s104_4_13, s104_4_14, s104_4_15, s104_4_16, x104_20, x104_21, x104_19, x104_17, x104_24, r104_6_l, r104_6_dr, r104_6_an, s104_6_0, s104_6_1, s104_6_2, s104_6_3, s104_6_4, s104_6_5, s104_6_6, s104_6_7, s104_6_8, s104_6_9, s104_6_10, s104_6_11, s104_6_12, s104_6_13, s104_6_14, s104_6_15, s104_6_16, s104_6_17, x104_23, x104_25, r104_5_l, s104_5_0, s104_5_1, s104_5_2, x104_22, x104_16, inS, sH, w1, g, a1, a2, o1, o2, hj, hjl, p1, p2, hpl, hpl2, cc, hc, callVT_eq (cmp_pure _ _), opCallV, fi_60, List.cons_append, List.all_cons, List.all_nil, List.getD_cons_zero, List.getD_cons_succ, beq_self_eq_true, List.not_mem_nil]
  exact ⟨_, rfl, rfl⟩
abbrev inE (sg : Int) (n i j : Nat) (l : List Stone) : St := ([(34, .bool false), (9, .int .i64 j), (8, .int .i64 i), (3, .clo 60 [.ptr 3 0 1]), (2, .int .i64 n), (1, .int .i64 0), (0, .ref 15 0 n n (n * 4) 4 false)], sH sg l)
theorem ins_stop {C : Callee} {B : Nat} {l l0 : List Stone} {sg : Int} {i j : Nat} {x y : Stone} (hl : l.length ≤ 5) (hj : j + 1 < l.length) (hx : l[j]? = some x) (hy : l[j + 1]? = some y)
    (cc : ∀ (site : Nat → Nat) seen, aBack site true seen (thaw C 60 [.agg (sc y), .agg (sc x), .iptr [.int .i64 sg] 0] [] 0) = .pure (.int .i64 (cmpV sg y x), [])) (hc : ¬ cmpV sg y x < 0) :
    execA E C (fg 104) B 53 (sH sg l0) 1000 c104_16 (inS sg l.length i (j + 1) l) = some (.exit 2, inE sg l.length i (j + 1) l) := by
  have w1 : wrp .i64 (((j + 1 : Nat) : Int) - 1) = (j : Int) := by rw [wrp64 (by omega)]; omega
  have g : ((j + 1 : Nat) : Int) > 0 := by omega
  have a1 := pcells_at l j x hx
  have a2 := pcells_at l (j + 1) y hy
  have o1 : j * 4 + 4 ≤ l.length * 4 := by omega
  have o2 : (j + 1) * 4 + 4 ≤ l.length * 4 := by omega
  have hjl : j < l.length := by omega
  have hpl := pcells_length l
  simp only [sc] at a1 a2 cc
  simp only [seqX_exit, condX_bool, fset_cons, Bool.not_true, Bool.not_false, fget_cons', fput_cons', forget_nil, forget_cons', hget_cons', gcM_c, opPick, just, Rd.bind, Rd.run, Rd.opt, upds, tsz, rdCells, aLoad, aIndexAddr, aNum, aBin, aInt, Nat.reduceAdd, Nat.reduceMul, Nat.reduceLT, Nat.reduceBEq, Nat.reduceEqDiff, Nat.reduceLeDiff, ↓reduceIte, reduceCtorEq, liveBlk_eq, Nat.zero_add, List.nil_append, rtX_some, addT_some, drX_some, runT_nil, runT_cons, neat_eq, descF_nil', descF_cons', ascH_nil', ascH_cons', stpT, ↓gdT, Rd.foot, writing, touching, Tr.empty, dynPairs, apartT, disj, List.isEmpty_nil, List.isEmpty_cons, List.map_nil, Bool.not_false, Bool.not_true, Bool.true_or, Bool.or_true, Bool.or_false, Bool.and_true, Bool.true_and, Bool.and_self, decide_true, decide_false, putD_some, and_true, Int.natCast_nonneg, Int.ofNat_lt, Int.toNat_natCast, aCall, snaps, snap, List.append_nil, List.elem_cons, List.elem_nil, List.length_cons, List.length_nil, seqN, regN, T_22, T_45, x104_18, r104_4_l, r104_4_dr, r104_4_an, s104_4_0, s104_4_1, s104_4_2, s104_4_3, s104_4_4, s104_4_5, s104_4_6, s104_4_7, s104_4_8, s104_4_9, s104_4_10, s104_4_11, s104_4_12, s104_4_13, s104_4_14, s104_4_15, s104_4_16, x104_20, x104_21, x104_19, x104_17, x104_16, inS, inE, sH, w1, g, a1, a2, o1, o2, hj, hjl, hpl, cc, hc, callVT_eq (cmp_pure _ _), opCallV, fi_60, List.cons_append, List.all_cons, List.all_nil, List.getD_cons_zero, List.getD_cons_succ, beq_self_eq_true]
theorem ins_zero {C : Callee} {B : Nat} {l l0 : List Stone} {sg : Int} {i : Nat} :
    execA E C (fg 104) B 53 (sH sg l0) 1000 c104_16 (inS sg l.length i 0 l) = some (.exit 2, inE sg l.length i 0 l) := by
  have g : ¬ (0 : Int) > 0 := by omega
  simp only [seqX_exit, condX_bool, fset_cons, Bool.not_true, Bool.not_false, fget_cons', fput_cons', forget_nil, forget_cons', gcM_c, opPick, just, Rd.bind, Rd.run, Rd.opt, upds, aBin, aInt, Nat.reduceAdd, Nat.reduceBEq, Nat.reduceEqDiff, Nat.reduceLeDiff, ↓reduceIte, reduceCtorEq, Nat.zero_add, rtX_some, addT_some, drX_some, runT_nil, runT_cons, neat_eq, descF_nil', descF_cons', ascH_nil', ascH_cons', stpT, ↓gdT, Rd.foot, writing, touching, Tr.empty, dynPairs, List.isEmpty_nil, List.map_nil, Bool.not_false, Bool.not_true, Bool.or_true, Bool.or_false, Bool.and_self, decide_true, decide_false, putD_some, Option.map_some, List.elem_cons, List.elem_nil, seqN, regN, x104_18, r104_4_l, r104_4_dr, r104_4_an, s104_4_0, s104_4_1, s104_4_2, s104_4_3, s104_4_4, s104_4_5, s104_4_6, s104_4_7, s104_4_8, s104_4_9, s104_4_10, s104_4_11, s104_4_12, s104_4_13, s104_4_14, s104_4_15, s104_4_16, x104_20, x104_21, x104_19, x104_17, x104_16, inS, inE, sH, g, Int.natCast_zero, beq_self_eq_true]
/-- A stone is moved down to its place. -/
def insL (sg : Int) (l : List Stone) : Nat → List Stone
  | 0 => l
  | j + 1 => if cmpV sg (l.getD (j + 1) default) (l.getD j default) < 0 then insL sg (swp l j) j else l
theorem swp_length (l : List Stone) (j : Nat) : (swp l j).length = l.length := by simp [swp]
theorem insL_length (sg : Int) : ∀ (j : Nat) (l : List Stone), (insL sg l j).length = l.length
  | 0, l => rfl
  | j + 1, l => by
    rw [insL]
    split
    · rw [insL_length sg j, swp_length]
    · rfl
/-- All stones of a list lie within bounds. -/
def Pos (l : List Stone) : Prop := ∀ (k : Nat) (x : Stone), l[k]? = some x → -33554432 ≤ x.pos ∧ x.pos ≤ 33554432
theorem swp_pos {l : List Stone} (h : Pos l) {j : Nat} (hj : j + 1 < l.length) : Pos (swp l j) := by
  obtain ⟨x, hx⟩ := at_ex (l := l) (k := j) (by omega)
  obtain ⟨y, hy⟩ := at_ex (l := l) (k := j + 1) hj
  intro k z hz
  rw [show swp l j = (l.set (j + 1) x).set j y by simp [swp, hx, hy]] at hz
  rw [List.getElem?_set] at hz
  split at hz
  · split at hz
    · obtain rfl := Option.some.inj hz; exact h _ _ hy
    · simp at hz
  · rw [List.getElem?_set] at hz
    split at hz
    · obtain rfl := Option.some.inj hz; exact h _ _ hx
    · exact h _ _ hz
theorem ins_loop {d : Nat} {B : Nat} {l0 : List Stone} {sg : Int} (hs : sg = 1 ∨ sg = -1) {i n : Nat} : ∀ (j F : Nat) (l : List Stone) (s : St), headA (sH sg l0) s = inS sg n i j l → l.length = n → n ≤ 5 → j < n → Pos l → j < F →
    ∃ j', iterA (execA E (callA E fg 1000 (d + 1)) (fg 104) B 53 (sH sg l0) 1000 c104_16) (headA (sH sg l0)) F s = some (.exit 2, inE sg n i j' (insL sg l j)) := by
  intro j
  induction j with
  | zero =>
    intro F l s hs0 hl h5 hj hp hF
    obtain ⟨F, rfl⟩ : ∃ G, F = G + 1 := ⟨F - 1, by omega⟩
    subst hl
    exact ⟨0, by rw [iterA_succ, hs0, ins_zero, seqX_exit, insL]⟩
  | succ j ih =>
    intro F l s hs0 hl h5 hj hp hF
    obtain ⟨F, rfl⟩ : ∃ G, F = G + 1 := ⟨F - 1, by omega⟩
    subst hl
    obtain ⟨x, hx⟩ := at_ex (l := l) (k := j) (by omega)
    obtain ⟨y, hy⟩ := at_ex (l := l) (k := j + 1) hj
    have gx : l.getD j default = x := by simp [hx]
    have gy : l.getD (j + 1) default = y := by simp [hy]
    have cc := fun (site : Nat → Nat) seen => cmp_call (d := d) (site := site) (seen := seen) hs (hp _ _ hy) (hp _ _ hx)
    rw [iterA_succ, hs0, insL, gx, gy]
    by_cases hc : cmpV sg y x < 0
    · obtain ⟨s', e1, e2⟩ := ins_go (C := callA E fg 1000 (d + 1)) (B := B) (l0 := l0) (i := i) h5 hj hx hy cc hc
      rw [if_pos hc, e1, seqN]
      exact ih F (swp l j) s' e2 (swp_length ..) h5 (by omega) (swp_pos hp hj) (by omega)
    · rw [if_neg hc, ins_stop (C := callA E fg 1000 (d + 1)) (B := B) (l0 := l0) (i := i) h5 hj hx hy cc hc]
      exact ⟨j + 1, by rw [seqX_exit]⟩
end Go.AM.Ytmhbnflnlglljaa
end

section
namespace Go.AM.Ytmhbnflnlglljaa
open Go Go.AM
set_option maxRecDepth 100000
set_option maxHeartbeats 4000000
abbrev ouS (sg : Int) (n i : Nat) (l : List Stone) : St := ([(8, .int .i64 i), (3, .clo 60 [.ptr 3 0 1]), (2, .int .i64 n), (1, .int .i64 0), (0, .ref 15 0 n n (n * 4) 4 false)], sH sg l)
theorem ou_go {d : Nat} {B : Nat} {l l0 : List Stone} {sg : Int} (hs : sg = 1 ∨ sg = -1) {i n : Nat} (hl : l.length = n) (h5 : n ≤ 5) (hi : i < n) (hp : Pos l) :
    ∃ s', execA E (callA E fg 1000 (d + 1)) (fg 104) B 53 (sH sg l0) 1000 c104_4 (ouS sg n i l) = some (.normal, s') ∧ headA (sH sg l0) s' = ouS sg n (i + 1) (insL sg l i) := by
  obtain ⟨j', hloop⟩ := ins_loop (d := d) (B := B) (l0 := l0) hs (i := i) (n := n) i 1000 l (inS sg n i i l) (by rfl) hl h5 hi hp (by omega)
  simp only [inS, inE, sH] at hloop
  simp only [condX_bool, blockX_exit, blockX_normal, run_nil, run_cons, fget_cons', fput_cons', forget_nil, forget_cons', gcM_c, stp, just, Rd.bind, Rd.run, Rd.opt, upds, aBin, aInt, Nat.reduceBEq, Nat.reduceEqDiff, Nat.reduceLeDiff, ↓reduceIte, reduceCtorEq, decide_true, putD_some, Int.ofNat_lt, List.elem_cons, List.elem_nil, seqN, bindN, regN, x104_6, r104_1_l, s104_1_0, s104_1_1, s104_1_2, x104_8, x104_9, x104_7, x104_5, x104_13, r104_3_l, s104_3_0, s104_3_1, x104_15, x104_14, x104_12, x104_11, x104_26, r104_2_l, s104_2_0, s104_2_1, s104_2_2, x104_10, x104_4, ouS, sH, hi, hloop, wrp_succ (show i < 1000000 by omega), beq_self_eq_true]
  exact ⟨_, rfl, rfl⟩
def srtL (sg : Int) (l : List Stone) : Nat → List Stone
  | 0 => l
  | i + 1 => insL sg (srtL sg l i) (i + 1)
theorem srtL_length (sg : Int) (l : List Stone) : ∀ i, (srtL sg l i).length = l.length
  | 0 => rfl
  | i + 1 => by rw [srtL, insL_length, srtL_length sg l i]
theorem insL_pos (sg : Int) : ∀ (j : Nat) (l : List Stone), j < l.length → Pos l → Pos (insL sg l j)
  | 0, l, _, h => h
  | j + 1, l, hj, h => by
    rw [insL]
    split
    · exact insL_pos sg j (swp l j) (by rw [swp_length]; omega) (swp_pos h hj)
    · exact h
theorem srtL_pos (sg : Int) {l : List Stone} (h : Pos l) : ∀ i, i < l.length → Pos (srtL sg l i)
  | 0, _ => h
  | i + 1, hi => insL_pos sg (i + 1) _ (by rw [srtL_length]; exact hi) (srtL_pos sg h i (by omega))
/-- The stones, sorted. -/
def srt (sg : Int) (l : List Stone) : List Stone := srtL sg l (l.length - 1)
theorem srt_length (sg : Int) (l : List Stone) : (srt sg l).length = l.length := srtL_length ..
theorem ins_run {d B : Nat} {l : List Stone} {sg : Int} (hs : sg = 1 ∨ sg = -1) (h0 : 0 < l.length) (h5 : l.length ≤ 5) (hp : Pos l) :
    callA E fg 1000 (d + 2) 104 [.ref 15 0 l.length l.length (l.length * 4) 4 false, .int .i64 0, .int .i64 l.length, .clo 60 [.ptr 3 0 1]] (sH sg l) B = some (.tup [], sH sg (srt sg l)) := by
  change bodyA E (callA E fg 1000 (d + 1)) fg 1000 104 _ _ _ = _
  have hloop := iter_all (f := execA E (callA E fg 1000 (d + 1)) (fg 104) B 53 (sH sg l) 1000 c104_4) (hd := headA (sH sg l)) (fun k => ouS sg l.length (k + 1) (srtL sg l k)) (l.length - 1) 1000 0
    (ouS sg l.length 1 l) (by rfl) (by omega) (fun k h1 h2 => by
      exact ou_go (d := d) (B := B) (l0 := l) hs (i := k + 1) (n := l.length) (srtL_length ..) h5 (by omega) (srtL_pos sg hp k (by omega))) (e := .exit 0) (se := ([(14, .bool false), (8, .int .i64 l.length), (3, .clo 60 [.ptr 3 0 1]), (2, .int .i64 l.length), (1, .int .i64 0), (0, .ref 15 0 l.length l.length (l.length * 4) 4 false)], sH sg (srt sg l))) (by
      rw [Nat.zero_add, show l.length - 1 + 1 = l.length by omega]
      have e : srtL sg l (l.length - 1) = srt sg l := rfl
      simp only [e]
      simp only [seqX_exit, condX_bool, run_nil, run_cons, fget_cons', fput_cons', forget_nil, forget_cons', gcM_c, stp, just, Rd.bind, Rd.run, Rd.opt, upds, aBin, aInt, Nat.reduceBEq, Nat.reduceEqDiff, Nat.reduceLeDiff, ↓reduceIte, decide_false, putD_some, List.elem_cons, List.elem_nil, seqN, bindN, regN, x104_6, r104_1_l, s104_1_0, s104_1_1, s104_1_2, x104_8, x104_9, x104_7, x104_5, x104_4, ouS, sH, Int.lt_irrefl, decide_false, Bool.false_eq_true]) (by simp)
  simp only [ouS, sH, cl1] at hloop
  have w : wrp .i64 (0 + 1) = 1 := by decide
  simp only [blockX_exit, bodyX_normal, run_nil, run_cons, fget_cons', fput_cons', forget_nil, forget_cons', frame0, gcM_c, stp, just, Rd.bind, Rd.run, Rd.opt, upds, resA, resL, aBin, aInt, Nat.reduceAdd, Nat.reduceBEq, Nat.reduceEqDiff, Nat.reduceLeDiff, ↓reduceIte, reduceCtorEq, Nat.zero_add, putD_some, Option.map_some, List.elem_cons, List.elem_nil, seqN, bindN, regN, x104_1, r104_0_l, s104_0_0, s104_0_1, s104_0_2, x104_3, x104_2, x104_0, b_104, sH, w, hloop]
theorem hd_pdq {m n x y z : Int} {k g : Nat} {c : List AV} : headA [(3, ⟨.box, [.int .i64 x]⟩), (4, ⟨.box, [.int .i64 y, .int .i64 z]⟩), (15, ⟨.row, c⟩)] ([(11, .bool true), (10, .bool true), (4, .clo 60 [.ptr 3 0 1]), (3, .int .i64 m), (2, .int .i64 n), (1, .int .i64 0), (0, .ref 15 0 k k g 4 false)], [(3, ⟨.box, [.int .i64 x]⟩), (4, ⟨.box, [.int .i64 y, .int .i64 z]⟩), (15, ⟨.row, c⟩)]) =
    ([(11, .bool true), (10, .bool true), (4, .clo 60 [.ptr 3 0 1]), (3, .int .i64 m), (2, .int .i64 n), (1, .int .i64 0), (0, .ref 15 0 k k g 4 false)], [(3, ⟨.box, [.int .i64 x]⟩), (4, ⟨.box, [.int .i64 y, .int .i64 z]⟩), (15, ⟨.row, c⟩)]) := rfl
theorem pdq_run {d B : Nat} {l : List Stone} {sg m : Int} (hs : sg = 1 ∨ sg = -1) (h0 : 0 < l.length) (h5 : l.length ≤ 5) (hp : Pos l) :
    callA E fg 1000 (d + 3) 94 [.ref 15 0 l.length l.length (l.length * 4) 4 false, .int .i64 0, .int .i64 l.length, .int .i64 m, .clo 60 [.ptr 3 0 1]] (sH sg l) B = some (.tup [], sH sg (srt sg l)) := by
  change bodyA E (callA E fg 1000 (d + 2)) fg 1000 94 _ _ _ = _
  have hi := fun B => ins_run (d := d) (B := B) hs h0 h5 hp
  simp only [sH] at hi
  have w1 : wrp .i64 ((l.length : Int) - 0) = l.length := wrp64 (by omega)
  have g : (l.length : Int) ≤ 12 := by omega
  simp only [seqX_ret, condX_bool, blockX_ret, bodyX_ret, run_nil, run_cons, fget_cons', fput_cons', forget_nil, forget_cons', frame0, gcM_n, gcM_c, stp, just, Rd.bind, Rd.run, Rd.opt, upds, resA, resL, aBin, aInt, Nat.reduceAdd, Nat.reduceMul, Nat.reduceBEq, Nat.reduceEqDiff, Nat.reduceLeDiff, ↓reduceIte, reduceCtorEq, Nat.zero_add, decide_true, putD_some, mutX, Option.map_some, List.elem_cons, List.elem_nil, seqN, bindN, regN, x94_1, r94_0_l, s94_0_0, x94_3, r94_1_l, s94_1_0, x94_8, r94_2_l, s94_2_0, s94_2_1, s94_2_2, s94_2_3, x94_11, r94_3_l, s94_3_0, s94_3_1, x94_14, r94_4_l, s94_4_0, s94_4_1, s94_4_2, s94_4_3, s94_4_4, x94_15, x94_13, x94_16, x94_12, x94_10, x94_9, x94_7, x94_6, x94_5, x94_4, x94_2, x94_0, b_94, sH, iterA_succ, hd_pdq, hi, w1, g]
theorem sort_run {d B : Nat} {l : List Stone} {sg m : Int} (hs : sg = 1 ∨ sg = -1) (h0 : 0 < l.length) (h5 : l.length ≤ 5) (hp : Pos l)
    (hL : ∀ (site : Nat → Nat) seen, aBack site true seen (thaw (callA E fg 1000 (d + 3)) 95 [.int .u64 l.length] [] 0) = .pure (.int .i64 m, [])) :
    callA E fg 1000 (d + 4) 59 [.ref 15 0 l.length l.length (l.length * 4) 4 false, .clo 60 [.ptr 3 0 1]] (sH sg l) B = some (.tup [], sH sg (srt sg l)) := by
  change bodyA E (callA E fg 1000 (d + 3)) fg 1000 59 _ _ _ = _
  have hi := fun B => pdq_run (d := d) (B := B) (m := m) hs h0 h5 hp
  simp only [sH] at hi
  have w1 : wrp .u64 (l.length : Int) = l.length := wrp_id (by simp only [kLo]; omega) (by simp only [kHi]; omega)
  simp only [bodyX_normal, run_nil, run_cons, fget_cons', fput_cons', forget_nil, forget_cons', hget_cons', frame0, gcM_c, stp, justO, just, Rd.bind, Rd.run, upds, resA, resL, aLen, aBuiltin, Nat.reduceMul, Nat.reduceBEq, Nat.reduceEqDiff, Nat.reduceLeDiff, ↓reduceIte, reduceCtorEq, liveBlk_eq, Nat.zero_add, List.getElem?_toArray, putD_some, mutX, aCall, snaps, snap, List.append_nil, Option.map_some, List.elem_cons, List.elem_nil, List.getElem?_cons_zero, seqN, bindN, regN, T_3, T_22, T_146, x59_1, r59_0_l, s59_0_0, s59_0_1, s59_0_2, x59_2, r59_1_l, s59_1_0, s59_1_1, s59_1_2, s59_1_3, s59_1_4, s59_1_5, s59_1_6, x59_0, b_59, sH, aConv, w1, hL, hi, pcells_length]
end Go.AM.Ytmhbnflnlglljaa
end

section
namespace Go.AM.Ytmhbnflnlglljaa
open Go Go.AM
set_option maxRecDepth 100000
def sumS (f : Stone → Int) : List Stone → Int
  | [] => 0
  | s :: l => f s + sumS f l
theorem sumS_congr {f g : Stone → Int} : ∀ {l : List Stone}, (∀ s ∈ l, f s = g s) → sumS f l = sumS g l
  | [], _ => rfl
  | s :: l, h => by simp only [sumS]; rw [h s (by simp), sumS_congr fun t ht => h t (by simp [ht])]
theorem sumS_perm {f : Stone → Int} {l l' : List Stone} (h : l.Perm l') : sumS f l = sumS f l' := by
  induction h with
  | nil => rfl
  | cons x _ ih => simp only [sumS, ih]
  | swap x y l => simp only [sumS]; omega
  | trans _ _ h1 h2 => rw [h1, h2]
theorem sumS_append (f : Stone → Int) : ∀ (l l' : List Stone), sumS f (l ++ l') = sumS f l + sumS f l'
  | [], l' => by simp [sumS]
  | s :: l, l' => by simp only [List.cons_append, sumS, sumS_append f l l']; omega
/-- What a stone weighs if the centre is S / W. -/
def wS (sg S W : Int) (s : Stone) : Int := if sg * (s.pos * W - S) > 0 then s.most else s.least
/-- Stone by stone those beyond the centre become heavier. -/
def grd (sg : Int) : List Stone → Int → Int → Int × Int
  | [], S, W => (S, W)
  | s :: l, S, W => if sg * (s.pos * W - S) > 0 then grd sg l (S + (s.most - s.least) * s.pos) (W + (s.most - s.least)) else grd sg l S W
structure Fix (sg : Int) (l : List Stone) (S W : Int) : Prop where
  s : S = sumS (fun s => wS sg S W s * s.pos) l
  w : W = sumS (wS sg S W) l
theorem sg_mul {sg : Int} (h : sg = 1 ∨ sg = -1) (x : Int) : sg * x = x ∧ sg = 1 ∨ sg * x = -x ∧ sg = -1 := by
  rcases h with rfl | rfl
  · left; simp
  · right; simp
theorem raise_step {sg S W d : Int} {t s : Stone} (hsg : sg = 1 ∨ sg = -1) (hW : 0 < W) (hd : 0 ≤ d) (hp : sg * s.pos ≤ sg * t.pos) (hs : sg * (s.pos * W - S) > 0) :
    sg * (t.pos * W - S) > 0 ∧ sg * (t.pos * (W + d) - (S + d * s.pos)) > 0 := by
  have e : t.pos * (W + d) - (S + d * s.pos) = (t.pos * W - S) + d * (t.pos - s.pos) := by
    rw [Int.mul_add, Int.mul_sub, Int.mul_comm t.pos d]; omega
  rw [e]
  rcases hsg with rfl | rfl
  · simp only [Int.one_mul] at *
    have h1 : s.pos * W ≤ t.pos * W := Int.mul_le_mul_of_nonneg_right hp (by omega)
    have h2 : 0 ≤ d * (t.pos - s.pos) := Int.mul_nonneg hd (by omega)
    omega
  · have hp' : t.pos ≤ s.pos := by omega
    have h1 : t.pos * W ≤ s.pos * W := Int.mul_le_mul_of_nonneg_right hp' (by omega)
    have h2 : 0 ≤ d * (s.pos - t.pos) := Int.mul_nonneg hd (by omega)
    have h3 : d * (t.pos - s.pos) = -(d * (s.pos - t.pos)) := by rw [← Int.mul_neg]; congr 1; omega
    omega
theorem grd_fix {sg : Int} (hsg : sg = 1 ∨ sg = -1) : ∀ (r p : List Stone) (S W : Int), 0 < W → (∀ s ∈ r, s.least ≤ s.most) → (∀ t ∈ p, ∀ s ∈ r, sg * s.pos ≤ sg * t.pos) → r.Pairwise (fun t s => sg * s.pos ≤ sg * t.pos) →
    S = sumS (fun s => wS sg S W s * s.pos) p + sumS (fun s => s.least * s.pos) r → W = sumS (wS sg S W) p + sumS (fun s => s.least) r →
    Fix sg (p ++ r) (grd sg r S W).1 (grd sg r S W).2 ∧ 0 < (grd sg r S W).2 := by
  intro r
  induction r with
  | nil =>
    intro p S W hW _ _ _ hS hWe
    simp only [sumS, Int.add_zero] at hS hWe
    simp only [List.append_nil, grd]
    exact ⟨⟨hS, hWe⟩, hW⟩
  | cons s r ih =>
    intro p S W hW hm hp hs hS hWe
    have hs' := List.pairwise_cons.1 hs
    have hml := hm s (by simp)
    have hpp : ∀ t ∈ p ++ [s], ∀ x ∈ r, sg * x.pos ≤ sg * t.pos := by
      intro t ht x hx
      rcases List.mem_append.1 ht with ht | ht
      · exact hp t ht x (by simp [hx])
      · obtain rfl : t = s := by simpa using ht
        exact hs'.1 x hx
    rw [show p ++ s :: r = (p ++ [s]) ++ r by simp]
    simp only [sumS] at hS hWe
    by_cases h : sg * (s.pos * W - S) > 0
    · have e : grd sg (s :: r) S W = grd sg r (S + (s.most - s.least) * s.pos) (W + (s.most - s.least)) := by rw [grd, if_pos h]
      rw [e]
      have keep : ∀ t ∈ p, wS sg (S + (s.most - s.least) * s.pos) (W + (s.most - s.least)) t = wS sg S W t := by
        intro t ht
        obtain ⟨a, b⟩ := raise_step (d := s.most - s.least) hsg hW (by omega) (hp t ht s (by simp)) h
        unfold wS
        rw [if_pos a, if_pos b]
      have own : wS sg (S + (s.most - s.least) * s.pos) (W + (s.most - s.least)) s = s.most := by
        obtain ⟨_, b⟩ := raise_step (d := s.most - s.least) (t := s) hsg hW (by omega) (Int.le_refl _) h
        unfold wS
        rw [if_pos b]
      refine ih (p ++ [s]) _ _ (by omega) (fun x hx => hm x (by simp [hx])) hpp hs'.2 ?_ ?_
      · rw [sumS_append, sumS_congr (l := p) fun t ht => by rw [keep t ht]]
        simp only [sumS, own]
        rw [Int.sub_mul]
        omega
      · rw [sumS_append, sumS_congr (l := p) fun t ht => keep t ht]
        simp only [sumS, own]
        omega
    · have e : grd sg (s :: r) S W = grd sg r S W := by rw [grd, if_neg h]
      rw [e]
      have own : wS sg S W s = s.least := by unfold wS; rw [if_neg h]
      refine ih (p ++ [s]) _ _ hW (fun x hx => hm x (by simp [hx])) hpp hs'.2 ?_ ?_
      · rw [sumS_append]
        simp only [sumS, own]
        omega
      · rw [sumS_append]
        simp only [sumS, own]
        omega
theorem fix_perm {sg S W : Int} {l l' : List Stone} (h : l.Perm l') (f : Fix sg l S W) : Fix sg l' S W := ⟨by rw [← sumS_perm h]; exact f.s, by rw [← sumS_perm h]; exact f.w⟩
def InB : List Stone → List Int → Prop
  | [], [] => True
  | s :: l, w :: ws => (s.least ≤ w ∧ w ≤ s.most) ∧ InB l ws
  | _, _ => False
def dotS : List Stone → List Int → Int
  | s :: l, w :: ws => w * s.pos + dotS l ws
  | _, _ => 0
def totS : List Stone → List Int → Int
  | _ :: l, w :: ws => w + totS l ws
  | _, _ => 0
theorem fix_sum (sg S W : Int) (f : Stone → Int) : ∀ l : List Stone, sumS (fun s => f s * (sg * (s.pos * W - S))) l = sg * (sumS (fun s => f s * s.pos) l * W - S * sumS f l)
  | [] => by simp [sumS]
  | s :: l => by
    simp only [sumS, fix_sum sg S W f l]
    rw [Int.add_mul, Int.mul_add S, ← Int.mul_assoc (f s), Int.mul_comm (f s) sg, Int.mul_assoc sg, Int.mul_sub (f s), ← Int.mul_assoc (f s), Int.mul_comm (f s) S, ← Int.mul_add]
    congr 1
    omega
theorem ext_le {sg S W : Int} : ∀ {l : List Stone} {ws : List Int}, InB l ws → (∀ s ∈ l, s.least ≤ s.most) → sg * (dotS l ws * W - S * totS l ws) ≤ sumS (fun s => wS sg S W s * (sg * (s.pos * W - S))) l
  | [], [], _, _ => by simp [dotS, totS, sumS]
  | s :: l, w :: ws, ⟨⟨h1, h2⟩, h⟩, hm => by
    have ih := ext_le (sg := sg) (S := S) (W := W) h (fun t ht => hm t (by simp [ht]))
    simp only [dotS, totS, sumS]
    have e : sg * ((w * s.pos + dotS l ws) * W - S * (w + totS l ws)) = w * (sg * (s.pos * W - S)) + sg * (dotS l ws * W - S * totS l ws) := by
      have h1 : (w * s.pos + dotS l ws) * W = w * s.pos * W + dotS l ws * W := Int.add_mul ..
      have h2 : S * (w + totS l ws) = S * w + S * totS l ws := Int.mul_add ..
      have h3 : w * (sg * (s.pos * W - S)) = sg * (w * s.pos * W - S * w) := by rw [Int.mul_left_comm, Int.mul_sub, ← Int.mul_assoc w, Int.mul_comm w S]
      have h4 : w * s.pos * W + dotS l ws * W - (S * w + S * totS l ws) = (w * s.pos * W - S * w) + (dotS l ws * W - S * totS l ws) := by omega
      rw [h1, h2, h3, h4, Int.mul_add]
    rw [e]
    have : w * (sg * (s.pos * W - S)) ≤ wS sg S W s * (sg * (s.pos * W - S)) := by
      unfold wS
      split
      · rename_i g; exact Int.mul_le_mul_of_nonneg_right h2 (by omega)
      · rename_i g
        have := Int.mul_le_mul_of_nonneg_right h1 (show 0 ≤ -(sg * (s.pos * W - S)) by omega)
        rw [Int.mul_neg, Int.mul_neg] at this
        omega
    omega
  | [], _ :: _, h, _ => h.elim
  | _ :: _, [], h, _ => h.elim
/-- No truth has a centre beyond. -/
theorem fix_ext {sg S W : Int} {l : List Stone} (f : Fix sg l S W) {ws : List Int} (h : InB l ws) (hm : ∀ s ∈ l, s.least ≤ s.most) : sg * (dotS l ws * W - S * totS l ws) ≤ 0 := by
  have := ext_le (sg := sg) (S := S) (W := W) h hm
  rw [fix_sum, ← f.s, ← f.w, Int.mul_comm S W, Int.mul_comm W S, Int.sub_self, Int.mul_zero] at this
  exact this
/-- The centre is that of a truth. -/
def wsF (sg S W : Int) (l : List Stone) : List Int := l.map (wS sg S W)
theorem wsF_in {sg S W : Int} : ∀ {l : List Stone}, (∀ s ∈ l, s.least ≤ s.most) → InB l (wsF sg S W l)
  | [], _ => trivial
  | s :: l, hm => by
    have := hm s (by simp)
    refine ⟨by unfold wS; split <;> omega, wsF_in fun t ht => hm t (by simp [ht])⟩
theorem wsF_dot (sg S W : Int) : ∀ l : List Stone, dotS l (wsF sg S W l) = sumS (fun s => wS sg S W s * s.pos) l ∧ totS l (wsF sg S W l) = sumS (wS sg S W) l
  | [] => ⟨rfl, rfl⟩
  | s :: l => by
    obtain ⟨h1, h2⟩ := wsF_dot sg S W l
    simp only [wsF, List.map_cons, dotS, totS, sumS] at *
    rw [h1, h2]
    exact ⟨rfl, rfl⟩
theorem fix_truth {sg S W : Int} {l : List Stone} (f : Fix sg l S W) : dotS l (wsF sg S W l) = S ∧ totS l (wsF sg S W l) = W := by
  obtain ⟨h1, h2⟩ := wsF_dot sg S W l
  exact ⟨h1.trans f.s.symm, h2.trans f.w.symm⟩
theorem totS_pos : ∀ {l : List Stone} {ws : List Int}, InB l ws → (∀ s ∈ l, 1 ≤ s.least) → (l.length : Int) ≤ totS l ws
  | [], [], _, _ => by simp [totS]
  | s :: l, w :: ws, ⟨⟨h1, h2⟩, h⟩, hm => by
    have := totS_pos h (fun t ht => hm t (by simp [ht]))
    have := hm s (by simp)
    simp only [totS, List.length_cons]
    omega
  | [], _ :: _, h, _ => h.elim
  | _ :: _, [], h, _ => h.elim
end Go.AM.Ytmhbnflnlglljaa
end

section
namespace Go.AM.Ytmhbnflnlglljaa
open Go Go.AM
set_option maxRecDepth 100000
theorem swp_cons (x : Stone) (l : List Stone) (j : Nat) : swp (x :: l) (j + 1) = x :: swp l j := by simp [swp]
theorem swp_app : ∀ (p : List Stone) (a b : Stone) (r : List Stone), swp (p ++ a :: b :: r) p.length = p ++ b :: a :: r
  | [], a, b, r => by simp [swp]
  | x :: p, a, b, r => by rw [List.cons_append, List.length_cons, swp_cons, swp_app p a b r, List.cons_append]
theorem getD_app (p : List Stone) (a : Stone) (r : List Stone) (d : Stone) : (p ++ a :: r).getD p.length d = a := by simp
theorem insL_parts (sg : Int) : ∀ (n : Nat) (p : List Stone) (x : Stone) (r : List Stone), p.length = n →
    ∃ a b, p = a ++ b ∧ insL sg (p ++ x :: r) p.length = a ++ x :: b ++ r ∧ (∀ t ∈ b, cmpV sg x t < 0) ∧ (∀ t q, a = q ++ [t] → ¬ cmpV sg x t < 0)
  | 0, p, x, r, hp => by
    obtain rfl := List.length_eq_zero_iff.1 hp
    exact ⟨[], [], rfl, by simp [insL], by simp, by simp⟩
  | n + 1, p, x, r, hp => by
    obtain ⟨q, y, rfl⟩ : ∃ q y, p = q ++ [y] := by
      rcases List.eq_nil_or_concat p with h | ⟨q, y, h⟩
      · rw [h] at hp; simp at hp
      · exact ⟨q, y, by simpa using h⟩
    have hq : q.length = n := by simpa using hp
    have e0 : (q ++ [y] ++ x :: r) = q ++ y :: x :: r := by simp
    have gx : (q ++ [y] ++ x :: r).getD (q.length + 1) default = x := by
      have := getD_app (q ++ [y]) x r default
      rwa [show (q ++ [y]).length = q.length + 1 by simp] at this
    have gy : (q ++ [y] ++ x :: r).getD q.length default = y := by rw [e0]; exact getD_app q y _ _
    rw [show (q ++ [y]).length = q.length + 1 by simp, insL, gx, gy]
    by_cases h : cmpV sg x y < 0
    · obtain ⟨a, b, e1, e2, e3, e4⟩ := insL_parts sg n q x (y :: r) hq
      refine ⟨a, b ++ [y], by rw [e1]; simp, ?_, ?_, e4⟩
      · rw [if_pos h, e0, swp_app, e2]; simp
      · intro t ht
        rcases List.mem_append.1 ht with ht | ht
        · exact e3 t ht
        · obtain rfl : t = y := by simpa using ht
          exact h
    · refine ⟨q ++ [y], [], by simp, by rw [if_neg h]; simp, by simp, ?_⟩
      intro t q' e
      have := List.append_inj_right' e rfl
      obtain rfl : y = t := by simpa using this
      exact h
def Desc (sg : Int) (l : List Stone) : Prop := l.Pairwise (fun t s => sg * s.pos ≤ sg * t.pos)
theorem cmpV_neg {sg : Int} (x t : Stone) : cmpV sg x t < 0 ↔ sg * t.pos < sg * x.pos := by
  unfold cmpV; rw [Int.mul_sub]; omega
theorem ins_desc {sg : Int} {a b : List Stone} {x : Stone} (h : Desc sg (a ++ b)) (h1 : ∀ t ∈ b, cmpV sg x t < 0) (h2 : ∀ t q, a = q ++ [t] → ¬ cmpV sg x t < 0) : Desc sg (a ++ x :: b) := by
  obtain ⟨ha, hb, hab⟩ := List.pairwise_append.1 h
  have hax : ∀ t ∈ a, sg * x.pos ≤ sg * t.pos := by
    rcases List.eq_nil_or_concat a with e | ⟨q, y, e⟩
    · subst e; simp
    · have e : a = q ++ [y] := by simpa using e
      have hy := h2 y q e
      rw [cmpV_neg] at hy
      intro t ht
      rw [e] at ht ha
      obtain ⟨_, _, hqy⟩ := List.pairwise_append.1 ha
      rcases List.mem_append.1 ht with ht | ht
      · have := hqy t ht y (by simp); omega
      · obtain rfl : t = y := by simpa using ht
        omega
  refine List.pairwise_append.2 ⟨ha, List.pairwise_cons.2 ⟨fun t ht => ?_, hb⟩, fun t ht s hs => ?_⟩
  · have := (cmpV_neg x t).1 (h1 t ht); omega
  · rcases List.mem_cons.1 hs with rfl | hs
    · exact hax t ht
    · exact hab t ht s hs
theorem srtL_parts (sg : Int) (l : List Stone) : ∀ i, i < l.length → ∃ p, p.length = i + 1 ∧ srtL sg l i = p ++ l.drop (i + 1) ∧ p.Perm (l.take (i + 1)) ∧ Desc sg p
  | 0, h => by
    match l, h with
    | a :: l, _ => exact ⟨[a], rfl, by simp [srtL], by simp, List.pairwise_singleton ..⟩
  | i + 1, h => by
    obtain ⟨p, e1, e2, e3, e4⟩ := srtL_parts sg l i (by omega)
    have hd : l.drop (i + 1) = l[i + 1] :: l.drop (i + 1 + 1) := List.drop_eq_getElem_cons h
    obtain ⟨a, b, f1, f2, f3, f4⟩ := insL_parts sg p.length p l[i + 1] (l.drop (i + 1 + 1)) rfl
    refine ⟨a ++ l[i + 1] :: b, ?_, ?_, ?_, ?_⟩
    · have := congrArg List.length f1
      simp at this ⊢; omega
    · rw [e1] at f2
      rw [srtL, e2, hd, f2]
    · have ht : l.take (i + 1 + 1) = l.take (i + 1) ++ [l[i + 1]] := by rw [List.take_succ_eq_append_getElem h]
      rw [ht]
      refine List.perm_middle.trans ?_
      refine (List.Perm.cons _ (f1 ▸ e3 : (a ++ b).Perm (l.take (i + 1)))).trans ?_
      exact (List.perm_append_singleton _ _).symm
    · rw [f1] at e4
      exact ins_desc e4 f3 f4
theorem srt_perm (sg : Int) {l : List Stone} (h : 0 < l.length) : (srt sg l).Perm l ∧ Desc sg (srt sg l) := by
  obtain ⟨p, e1, e2, e3, e4⟩ := srtL_parts sg l (l.length - 1) (by omega)
  have hd : l.drop (l.length - 1 + 1) = [] := List.drop_eq_nil_of_le (by omega)
  have ht : l.take (l.length - 1 + 1) = l := List.take_of_length_le (by omega)
  rw [hd, List.append_nil] at e2
  rw [ht] at e3
  unfold srt
  rw [e2]
  exact ⟨e3, e4⟩
/-- Sum and weight of the greatest centre (or the smallest one). -/
def spS (sg : Int) (l : List Stone) : Int := (grd sg (srt sg l) (sumS (fun s => s.least * s.pos) (srt sg l)) (sumS (fun s => s.least) (srt sg l))).1
def spW (sg : Int) (l : List Stone) : Int := (grd sg (srt sg l) (sumS (fun s => s.least * s.pos) (srt sg l)) (sumS (fun s => s.least) (srt sg l))).2
theorem sumS_least : ∀ {l : List Stone}, (∀ s ∈ l, 1 ≤ s.least) → (l.length : Int) ≤ sumS (fun s => s.least) l
  | [], _ => by simp [sumS]
  | s :: l, h => by
    have := sumS_least (l := l) fun t ht => h t (by simp [ht])
    have := h s (by simp)
    simp only [sumS, List.length_cons]; omega
theorem sp_fix {sg : Int} (hsg : sg = 1 ∨ sg = -1) {l : List Stone} (h0 : 0 < l.length) (h1 : ∀ s ∈ l, 1 ≤ s.least) (hm : ∀ s ∈ l, s.least ≤ s.most) : Fix sg l (spS sg l) (spW sg l) ∧ 0 < spW sg l := by
  obtain ⟨hp, hd⟩ := srt_perm sg h0
  have hin : ∀ s ∈ srt sg l, s ∈ l := fun s hs => hp.mem_iff.1 hs
  have hpos := sumS_least (l := srt sg l) fun s hs => h1 s (hin s hs)
  rw [srt_length] at hpos
  have := grd_fix hsg (srt sg l) [] (sumS (fun s => s.least * s.pos) (srt sg l)) (sumS (fun s => s.least) (srt sg l)) (by omega) (fun s hs => hm s (hin s hs)) (by simp) hd (by simp [sumS]) (by simp [sumS])
  rw [List.nil_append] at this
  exact ⟨fix_perm hp this.1, this.2⟩
end Go.AM.Ytmhbnflnlglljaa
end

section
namespace Go.AM.Ytmhbnflnlglljaa
open Go Go.AM
set_option maxRecDepth 100000
variable {C : Callee} {B N : Nat} {E0 : AHeap} (φ : AFr) (H : AHeap) (s : St)
noncomputable def c61_0 : Code := kBody Proofs.Try.f61
noncomputable def c61_1 : Code := kL c61_0
noncomputable def r61_0 : Array Oper := kO c61_1
noncomputable def o61_0_0 : Oper := opN r61_0 0
theorem x61_1 : execA E C (fg 61) B 25 E0 N c61_1 s = regX (runA E C B 25 r61_0 r61_0.toList s) (fun s => gcM E0 [] (forget s.1 [], s.2)) := x_reg (ops := r61_0) (by rfl) (by rfl) s
theorem r61_0_l : r61_0.toList = [o61_0_0] := nrfl rfl
theorem s61_0_0 : stepA E C B 25 r61_0 o61_0_0 (φ, H) = stp (some 4) φ H (opBox (B + 4) (zeroCells E.T 27)) := nrfl rfl
noncomputable def c61_2 : Code := kR c61_0
noncomputable def c61_3 : Code := kL c61_2
noncomputable def r61_1 : Array Oper := kO c61_3
noncomputable def o61_1_0 : Oper := opN r61_1 0
noncomputable def o61_1_1 : Oper := opN r61_1 1
noncomputable def o61_1_2 : Oper := opN r61_1 2
noncomputable def o61_1_3 : Oper := opN r61_1 3
noncomputable def o61_1_4 : Oper := opN r61_1 4
noncomputable def o61_1_5 : Oper := opN r61_1 5
noncomputable def o61_1_6 : Oper := opN r61_1 6
theorem x61_3 : execA E C (fg 61) B 25 E0 N c61_3 s = regX (runA E C B 25 r61_1 r61_1.toList s) (fun s => gcM E0 [7, 8, 9, 10, 11] (forget s.1 [7, 8, 9, 10, 11], s.2)) := x_reg (ops := r61_1) (by rfl) (by rfl) s
theorem r61_1_l : r61_1.toList = [o61_1_0, o61_1_1, o61_1_2, o61_1_3, o61_1_4, o61_1_5, o61_1_6] := nrfl rfl
theorem s61_1_0 : stepA E C B 25 r61_1 o61_1_0 (φ, H) = some (fput φ 7 (fget φ 0), H) := nrfl rfl
theorem s61_1_1 : stepA E C B 25 r61_1 o61_1_1 (φ, H) = some (fput φ 8 (fget φ 0), H) := nrfl rfl
theorem s61_1_2 : stepA E C B 25 r61_1 o61_1_2 (φ, H) = stp (some 9) φ H (justO (aUn .neg (fget φ 8))) := nrfl rfl
theorem s61_1_3 : stepA E C B 25 r61_1 o61_1_3 (φ, H) = stp (some 10) φ H (aBuiltin E.T (B + 10) .max #[3, 3] [(fget φ 7), (fget φ 9)]) := nrfl rfl
theorem s61_1_4 : stepA E C B 25 r61_1 o61_1_4 (φ, H) = some (fput φ 11 (fget φ 1), H) := nrfl rfl
theorem s61_1_5 : stepA E C B 25 r61_1 o61_1_5 (φ, H) = some (fput φ 5 (fget φ 10), H) := nrfl rfl
theorem s61_1_6 : stepA E C B 25 r61_1 o61_1_6 (φ, H) = some (fput φ 6 (fget φ 11), H) := nrfl rfl
noncomputable def c61_4 : Code := kR c61_2
noncomputable def c61_5 : Code := kL c61_4
noncomputable def c61_6 : Code := kB c61_5
noncomputable def c61_7 : Code := kB c61_6
noncomputable def c61_8 : Code := kL c61_7
noncomputable def c61_9 : Code := kL c61_8
noncomputable def r61_2 : Array Oper := kO c61_9
noncomputable def o61_2_0 : Oper := opN r61_2 0
noncomputable def o61_2_1 : Oper := opN r61_2 1
theorem x61_9 : execA E C (fg 61) B 25 E0 N c61_9 s = regX (runA E C B 25 r61_2 r61_2.toList s) (fun s => gcM E0 [12] (forget s.1 [12], s.2)) := x_reg (ops := r61_2) (by rfl) (by rfl) s
theorem r61_2_l : r61_2.toList = [o61_2_0, o61_2_1] := nrfl rfl
theorem s61_2_0 : stepA E C B 25 r61_2 o61_2_0 (φ, H) = some (fput φ 12 (fget φ 6), H) := nrfl rfl
theorem s61_2_1 : stepA E C B 25 r61_2 o61_2_1 (φ, H) = stp (some 13) φ H (just (aBin E.T .neq 3 (fget φ 12) (.int .i64 0))) := nrfl rfl
noncomputable def c61_10 : Code := kR c61_8
noncomputable def c61_11 : Code := kT c61_10
theorem x61_11 : execA E C (fg 61) B 25 E0 N c61_11 s = some (.normal, s) := x_skip (by rfl) s
noncomputable def c61_12 : Code := kE c61_10
theorem x61_12 : execA E C (fg 61) B 25 E0 N c61_12 s = some (.exit 0, s) := x_exit (by rfl) s
theorem x61_10 : execA E C (fg 61) B 25 E0 N c61_10 (φ, H) = condX (fget φ 13) (execA E C (fg 61) B 25 E0 N c61_11 (φ, H)) (execA E C (fg 61) B 25 E0 N c61_12 (φ, H)) := x_cond (by rfl) _
theorem x61_8 : execA E C (fg 61) B 25 E0 N c61_8 s = seqX (execA E C (fg 61) B 25 E0 N c61_9 s) (execA E C (fg 61) B 25 E0 N c61_10) := x_seq (by rfl) s
noncomputable def c61_13 : Code := kR c61_7
noncomputable def c61_14 : Code := kB c61_13
noncomputable def r61_3 : Array Oper := kO c61_14
noncomputable def o61_3_0 : Oper := opN r61_3 0
noncomputable def o61_3_1 : Oper := opN r61_3 1
noncomputable def o61_3_2 : Oper := opN r61_3 2
noncomputable def o61_3_3 : Oper := opN r61_3 3
noncomputable def o61_3_4 : Oper := opN r61_3 4
noncomputable def o61_3_5 : Oper := opN r61_3 5
theorem x61_14 : execA E C (fg 61) B 25 E0 N c61_14 s = regX (drawA E C B 25 r61_3 s) (fun s => gcM E0 [13, 14, 15, 16, 17] (forget s.1 [13, 14, 15, 16, 17], s.2)) := x_draw (ops := r61_3) (by rfl) (by rfl) s
theorem r61_3_l : r61_3.toList = [o61_3_0, o61_3_1, o61_3_2, o61_3_3, o61_3_4, o61_3_5] := nrfl rfl
theorem r61_3_st : statOk r61_3 = true := by kernel_rfl
theorem r61_3_dr : drawA E C B 25 r61_3 s = if neat 25 s = true then drX r61_3 (runT E C B 25 r61_3 r61_3.toList 0 s) else none := draw_eq r61_3_st s
theorem r61_3_an (l : List (Nat × Tr)) : dynOk r61_3 l = (!writing l || dynPairs [[], [], [], [1, 2], [0, 1], [0, 1, 2, 3, 4]] (touching l)) := dynOk_eq (by kernel_rfl) l
theorem s61_3_0 : stepT E C B 25 r61_3 o61_3_0 (φ, H) = some ((fput φ 14 (fget φ 6), H), ⟨false, [], []⟩) := stT_go rfl (goT_mv rfl rfl)
theorem s61_3_1 : stepT E C B 25 r61_3 o61_3_1 (φ, H) = some ((fput φ 15 (fget φ 5), H), ⟨false, [], []⟩) := stT_go rfl (goT_mv rfl rfl)
theorem s61_3_2 : stepT E C B 25 r61_3 o61_3_2 (φ, H) = some ((fput φ 16 (fget φ 6), H), ⟨false, [], []⟩) := stT_go rfl (goT_mv rfl rfl)
theorem s61_3_3 : stepT E C B 25 r61_3 o61_3_3 (φ, H) = stpT (some 17) φ H (just (aBin E.T .rem 3 (fget φ 15) (fget φ 16))) := stT_go rfl (goT_R rfl rfl)
theorem s61_3_4 : stepT E C B 25 r61_3 o61_3_4 (φ, H) = some ((fput φ 5 (fget φ 14), H), ⟨false, [], []⟩) := stT_go rfl (goT_mv rfl rfl)
theorem s61_3_5 : stepT E C B 25 r61_3 o61_3_5 (φ, H) = some ((fput φ 6 (fget φ 17), H), ⟨false, [], []⟩) := stT_go rfl (goT_mv rfl rfl)
theorem x61_13 : execA E C (fg 61) B 25 E0 N c61_13 s = blockX 1 (fun s => (forget s.1 [], s.2)) (execA E C (fg 61) B 25 E0 N c61_14 s) := x_block (by rfl) (by rfl) s
theorem x61_7 : execA E C (fg 61) B 25 E0 N c61_7 s = seqX (execA E C (fg 61) B 25 E0 N c61_8 s) (execA E C (fg 61) B 25 E0 N c61_13) := x_seq (by rfl) s
theorem x61_6 : execA E C (fg 61) B 25 E0 N c61_6 s = iterA (execA E C (fg 61) B 25 E0 N c61_7) (headA E0) N s := x_loop (by rfl) s
theorem x61_5 : execA E C (fg 61) B 25 E0 N c61_5 s = blockX 0 (fun s => (forget s.1 [6, 13], s.2)) (execA E C (fg 61) B 25 E0 N c61_6 s) := x_block (by rfl) (by rfl) s
noncomputable def c61_15 : Code := kR c61_4
noncomputable def c61_16 : Code := kL c61_15
noncomputable def r61_4 : Array Oper := kO c61_16
noncomputable def o61_4_0 : Oper := opN r61_4 0
noncomputable def o61_4_1 : Oper := opN r61_4 1
noncomputable def o61_4_2 : Oper := opN r61_4 2
noncomputable def o61_4_3 : Oper := opN r61_4 3
noncomputable def o61_4_4 : Oper := opN r61_4 4
noncomputable def o61_4_5 : Oper := opN r61_4 5
noncomputable def o61_4_6 : Oper := opN r61_4 6
noncomputable def o61_4_7 : Oper := opN r61_4 7
theorem x61_16 : execA E C (fg 61) B 25 E0 N c61_16 s = regX (drawA E C B 25 r61_4 s) (fun s => gcM E0 [0, 1, 5, 18, 19, 20, 21, 22, 23, 24] (forget s.1 [0, 1, 5, 18, 19, 20, 21, 22, 23, 24], s.2)) := x_draw (ops := r61_4) (by rfl) (by rfl) s
theorem r61_4_l : r61_4.toList = [o61_4_0, o61_4_1, o61_4_2, o61_4_3, o61_4_4, o61_4_5, o61_4_6, o61_4_7] := nrfl rfl
theorem r61_4_st : statOk r61_4 = true := by kernel_rfl
theorem r61_4_dr : drawA E C B 25 r61_4 s = if neat 25 s = true then drX r61_4 (runT E C B 25 r61_4 r61_4.toList 0 s) else none := draw_eq r61_4_st s
theorem r61_4_an (l : List (Nat × Tr)) : dynOk r61_4 l = (!writing l || dynPairs [[], [], [0, 1], [], [], [3, 4], [0, 1, 2, 3, 4, 5], [0, 1, 2, 3, 4, 5, 6]] (touching l)) := dynOk_eq (by kernel_rfl) l
theorem s61_4_0 : stepT E C B 25 r61_4 o61_4_0 (φ, H) = some ((fput φ 18 (fget φ 0), H), ⟨false, [], []⟩) := stT_go rfl (goT_mv rfl rfl)
theorem s61_4_1 : stepT E C B 25 r61_4 o61_4_1 (φ, H) = some ((fput φ 19 (fget φ 5), H), ⟨false, [], []⟩) := stT_go rfl (goT_mv rfl rfl)
theorem s61_4_2 : stepT E C B 25 r61_4 o61_4_2 (φ, H) = stpT (some 20) φ H (just (aBin E.T .quo 3 (fget φ 18) (fget φ 19))) := stT_go rfl (goT_R rfl rfl)
theorem s61_4_3 : stepT E C B 25 r61_4 o61_4_3 (φ, H) = some ((fput φ 21 (fget φ 1), H), ⟨false, [], []⟩) := stT_go rfl (goT_mv rfl rfl)
theorem s61_4_4 : stepT E C B 25 r61_4 o61_4_4 (φ, H) = some ((fput φ 22 (fget φ 5), H), ⟨false, [], []⟩) := stT_go rfl (goT_mv rfl rfl)
theorem s61_4_5 : stepT E C B 25 r61_4 o61_4_5 (φ, H) = stpT (some 23) φ H (just (aBin E.T .quo 3 (fget φ 21) (fget φ 22))) := stT_go rfl (goT_R rfl rfl)
theorem s61_4_6 : stepT E C B 25 r61_4 o61_4_6 (φ, H) = stpT (some 24) φ H (justO (aBuild E.T 27 (evO E φ) [(0, Operand.tmp 20), (1, Operand.tmp 23)])) := stT_go rfl (goT_R rfl rfl)
theorem s61_4_7 : stepT E C B 25 r61_4 o61_4_7 (φ, H) = stpT none φ H (opStore E.T 27 (fget φ 4) (fget φ 24)) := stT_go rfl (goT_R rfl rfl)
noncomputable def c61_17 : Code := kR c61_15
theorem x61_17 : execA E C (fg 61) B 25 E0 N c61_17 s = some (.ret, s) := x_ret (by rfl) s
theorem x61_15 : execA E C (fg 61) B 25 E0 N c61_15 s = seqX (execA E C (fg 61) B 25 E0 N c61_16 s) (execA E C (fg 61) B 25 E0 N c61_17) := x_seq (by rfl) s
theorem x61_4 : execA E C (fg 61) B 25 E0 N c61_4 s = seqX (execA E C (fg 61) B 25 E0 N c61_5 s) (execA E C (fg 61) B 25 E0 N c61_15) := x_seq (by rfl) s
theorem x61_2 : execA E C (fg 61) B 25 E0 N c61_2 s = seqX (execA E C (fg 61) B 25 E0 N c61_3 s) (execA E C (fg 61) B 25 E0 N c61_4) := x_seq (by rfl) s
theorem x61_0 : execA E C (fg 61) B 25 E0 N c61_0 s = seqX (execA E C (fg 61) B 25 E0 N c61_1 s) (execA E C (fg 61) B 25 E0 N c61_2) := x_seq (by rfl) s
theorem fi_61 : fInfo E 61 = some ⟨25, #[.cell 4 27], c61_0⟩ := nrfl rfl
theorem b_61 (args : List AV) : bodyA E C fg N 61 args H B = bodyX E [.cell 4 27] (execA E C (fg 61) B 25 H N c61_0 (frame0 args 0 [], H)) := bodyA_eq fi_61 args H
noncomputable def c83_0 : Code := kBody Proofs.Try.f83
noncomputable def c83_1 : Code := kL c83_0
noncomputable def r83_0 : Array Oper := kO c83_1
noncomputable def o83_0_0 : Oper := opN r83_0 0
theorem x83_1 : execA E C (fg 83) B 20 E0 N c83_1 s = regX (runA E C B 20 r83_0 r83_0.toList s) (fun s => gcM E0 [4] (forget s.1 [4], s.2)) := x_reg (ops := r83_0) (by rfl) (by rfl) s
theorem r83_0_l : r83_0.toList = [o83_0_0] := nrfl rfl
theorem s83_0_0 : stepA E C B 20 r83_0 o83_0_0 (φ, H) = some (fput φ 4 (.int .i64 0), H) := nrfl rfl
noncomputable def c83_2 : Code := kR c83_0
noncomputable def c83_3 : Code := kL c83_2
noncomputable def r83_1 : Array Oper := kO c83_3
noncomputable def o83_1_0 : Oper := opN r83_1 0
noncomputable def o83_1_1 : Oper := opN r83_1 1
noncomputable def o83_1_2 : Oper := opN r83_1 2
noncomputable def o83_1_3 : Oper := opN r83_1 3
noncomputable def o83_1_4 : Oper := opN r83_1 4
noncomputable def o83_1_5 : Oper := opN r83_1 5
noncomputable def o83_1_6 : Oper := opN r83_1 6
noncomputable def o83_1_7 : Oper := opN r83_1 7
noncomputable def o83_1_8 : Oper := opN r83_1 8
noncomputable def o83_1_9 : Oper := opN r83_1 9
theorem x83_3 : execA E C (fg 83) B 20 E0 N c83_3 s = regX (runA E C B 20 r83_1 r83_1.toList s) (fun s => gcM E0 [5, 6, 7, 8, 9, 10, 11, 12] (forget s.1 [5, 6, 7, 8, 9, 10, 11, 12], s.2)) := x_reg (ops := r83_1) (by rfl) (by rfl) s
theorem r83_1_l : r83_1.toList = [o83_1_0, o83_1_1, o83_1_2, o83_1_3, o83_1_4, o83_1_5, o83_1_6, o83_1_7, o83_1_8, o83_1_9] := nrfl rfl
theorem s83_1_0 : stepA E C B 20 r83_1 o83_1_0 (φ, H) = some (fput φ 5 (fget φ 0), H) := nrfl rfl
theorem s83_1_1 : stepA E C B 20 r83_1 o83_1_1 (φ, H) = some (fput φ 6 (fget φ 0), H) := nrfl rfl
theorem s83_1_2 : stepA E C B 20 r83_1 o83_1_2 (φ, H) = stp (some 7) φ H (justO (aUn .neg (fget φ 6))) := nrfl rfl
theorem s83_1_3 : stepA E C B 20 r83_1 o83_1_3 (φ, H) = stp (some 8) φ H (aBuiltin E.T (B + 8) .max #[3, 3] [(fget φ 5), (fget φ 7)]) := nrfl rfl
theorem s83_1_4 : stepA E C B 20 r83_1 o83_1_4 (φ, H) = some (fput φ 9 (fget φ 1), H) := nrfl rfl
theorem s83_1_5 : stepA E C B 20 r83_1 o83_1_5 (φ, H) = some (fput φ 10 (fget φ 1), H) := nrfl rfl
theorem s83_1_6 : stepA E C B 20 r83_1 o83_1_6 (φ, H) = stp (some 11) φ H (justO (aUn .neg (fget φ 10))) := nrfl rfl
theorem s83_1_7 : stepA E C B 20 r83_1 o83_1_7 (φ, H) = stp (some 12) φ H (aBuiltin E.T (B + 12) .max #[3, 3] [(fget φ 9), (fget φ 11)]) := nrfl rfl
theorem s83_1_8 : stepA E C B 20 r83_1 o83_1_8 (φ, H) = some (fput φ 0 (fget φ 8), H) := nrfl rfl
theorem s83_1_9 : stepA E C B 20 r83_1 o83_1_9 (φ, H) = some (fput φ 1 (fget φ 12), H) := nrfl rfl
noncomputable def c83_4 : Code := kR c83_2
noncomputable def c83_5 : Code := kL c83_4
noncomputable def c83_6 : Code := kB c83_5
noncomputable def c83_7 : Code := kB c83_6
noncomputable def c83_8 : Code := kL c83_7
noncomputable def c83_9 : Code := kL c83_8
noncomputable def r83_2 : Array Oper := kO c83_9
noncomputable def o83_2_0 : Oper := opN r83_2 0
noncomputable def o83_2_1 : Oper := opN r83_2 1
theorem x83_9 : execA E C (fg 83) B 20 E0 N c83_9 s = regX (runA E C B 20 r83_2 r83_2.toList s) (fun s => gcM E0 [13] (forget s.1 [13], s.2)) := x_reg (ops := r83_2) (by rfl) (by rfl) s
theorem r83_2_l : r83_2.toList = [o83_2_0, o83_2_1] := nrfl rfl
theorem s83_2_0 : stepA E C B 20 r83_2 o83_2_0 (φ, H) = some (fput φ 13 (fget φ 1), H) := nrfl rfl
theorem s83_2_1 : stepA E C B 20 r83_2 o83_2_1 (φ, H) = stp (some 14) φ H (just (aBin E.T .neq 3 (fget φ 13) (.int .i64 0))) := nrfl rfl
noncomputable def c83_10 : Code := kR c83_8
noncomputable def c83_11 : Code := kT c83_10
theorem x83_11 : execA E C (fg 83) B 20 E0 N c83_11 s = some (.normal, s) := x_skip (by rfl) s
noncomputable def c83_12 : Code := kE c83_10
theorem x83_12 : execA E C (fg 83) B 20 E0 N c83_12 s = some (.exit 0, s) := x_exit (by rfl) s
theorem x83_10 : execA E C (fg 83) B 20 E0 N c83_10 (φ, H) = condX (fget φ 14) (execA E C (fg 83) B 20 E0 N c83_11 (φ, H)) (execA E C (fg 83) B 20 E0 N c83_12 (φ, H)) := x_cond (by rfl) _
theorem x83_8 : execA E C (fg 83) B 20 E0 N c83_8 s = seqX (execA E C (fg 83) B 20 E0 N c83_9 s) (execA E C (fg 83) B 20 E0 N c83_10) := x_seq (by rfl) s
noncomputable def c83_13 : Code := kR c83_7
noncomputable def c83_14 : Code := kB c83_13
noncomputable def r83_3 : Array Oper := kO c83_14
noncomputable def o83_3_0 : Oper := opN r83_3 0
noncomputable def o83_3_1 : Oper := opN r83_3 1
noncomputable def o83_3_2 : Oper := opN r83_3 2
noncomputable def o83_3_3 : Oper := opN r83_3 3
noncomputable def o83_3_4 : Oper := opN r83_3 4
noncomputable def o83_3_5 : Oper := opN r83_3 5
theorem x83_14 : execA E C (fg 83) B 20 E0 N c83_14 s = regX (drawA E C B 20 r83_3 s) (fun s => gcM E0 [14, 15, 16, 17, 18] (forget s.1 [14, 15, 16, 17, 18], s.2)) := x_draw (ops := r83_3) (by rfl) (by rfl) s
theorem r83_3_l : r83_3.toList = [o83_3_0, o83_3_1, o83_3_2, o83_3_3, o83_3_4, o83_3_5] := nrfl rfl
theorem r83_3_st : statOk r83_3 = true := by kernel_rfl
theorem r83_3_dr : drawA E C B 20 r83_3 s = if neat 20 s = true then drX r83_3 (runT E C B 20 r83_3 r83_3.toList 0 s) else none := draw_eq r83_3_st s
theorem r83_3_an (l : List (Nat × Tr)) : dynOk r83_3 l = (!writing l || dynPairs [[], [], [], [1, 2], [0, 1], [0, 1, 2, 3, 4]] (touching l)) := dynOk_eq (by kernel_rfl) l
theorem s83_3_0 : stepT E C B 20 r83_3 o83_3_0 (φ, H) = some ((fput φ 15 (fget φ 1), H), ⟨false, [], []⟩) := stT_go rfl (goT_mv rfl rfl)
theorem s83_3_1 : stepT E C B 20 r83_3 o83_3_1 (φ, H) = some ((fput φ 16 (fget φ 0), H), ⟨false, [], []⟩) := stT_go rfl (goT_mv rfl rfl)
theorem s83_3_2 : stepT E C B 20 r83_3 o83_3_2 (φ, H) = some ((fput φ 17 (fget φ 1), H), ⟨false, [], []⟩) := stT_go rfl (goT_mv rfl rfl)
theorem s83_3_3 : stepT E C B 20 r83_3 o83_3_3 (φ, H) = stpT (some 18) φ H (just (aBin E.T .rem 3 (fget φ 16) (fget φ 17))) := stT_go rfl (goT_R rfl rfl)
theorem s83_3_4 : stepT E C B 20 r83_3 o83_3_4 (φ, H) = some ((fput φ 0 (fget φ 15), H), ⟨false, [], []⟩) := stT_go rfl (goT_mv rfl rfl)
theorem s83_3_5 : stepT E C B 20 r83_3 o83_3_5 (φ, H) = some ((fput φ 1 (fget φ 18), H), ⟨false, [], []⟩) := stT_go rfl (goT_mv rfl rfl)
theorem x83_13 : execA E C (fg 83) B 20 E0 N c83_13 s = blockX 1 (fun s => (forget s.1 [], s.2)) (execA E C (fg 83) B 20 E0 N c83_14 s) := x_block (by rfl) (by rfl) s
theorem x83_7 : execA E C (fg 83) B 20 E0 N c83_7 s = seqX (execA E C (fg 83) B 20 E0 N c83_8 s) (execA E C (fg 83) B 20 E0 N c83_13) := x_seq (by rfl) s
theorem x83_6 : execA E C (fg 83) B 20 E0 N c83_6 s = iterA (execA E C (fg 83) B 20 E0 N c83_7) (headA E0) N s := x_loop (by rfl) s
theorem x83_5 : execA E C (fg 83) B 20 E0 N c83_5 s = blockX 0 (fun s => (forget s.1 [1, 14], s.2)) (execA E C (fg 83) B 20 E0 N c83_6 s) := x_block (by rfl) (by rfl) s
noncomputable def c83_15 : Code := kR c83_4
noncomputable def c83_16 : Code := kL c83_15
noncomputable def r83_4 : Array Oper := kO c83_16
noncomputable def o83_4_0 : Oper := opN r83_4 0
noncomputable def o83_4_1 : Oper := opN r83_4 1
theorem x83_16 : execA E C (fg 83) B 20 E0 N c83_16 s = regX (runA E C B 20 r83_4 r83_4.toList s) (fun s => gcM E0 [0, 19] (forget s.1 [0, 19], s.2)) := x_reg (ops := r83_4) (by rfl) (by rfl) s
theorem r83_4_l : r83_4.toList = [o83_4_0, o83_4_1] := nrfl rfl
theorem s83_4_0 : stepA E C B 20 r83_4 o83_4_0 (φ, H) = some (fput φ 19 (fget φ 0), H) := nrfl rfl
theorem s83_4_1 : stepA E C B 20 r83_4 o83_4_1 (φ, H) = some (fput φ 4 (fget φ 19), H) := nrfl rfl
noncomputable def c83_17 : Code := kR c83_15
theorem x83_17 : execA E C (fg 83) B 20 E0 N c83_17 s = some (.ret, s) := x_ret (by rfl) s
theorem x83_15 : execA E C (fg 83) B 20 E0 N c83_15 s = seqX (execA E C (fg 83) B 20 E0 N c83_16 s) (execA E C (fg 83) B 20 E0 N c83_17) := x_seq (by rfl) s
theorem x83_4 : execA E C (fg 83) B 20 E0 N c83_4 s = seqX (execA E C (fg 83) B 20 E0 N c83_5 s) (execA E C (fg 83) B 20 E0 N c83_15) := x_seq (by rfl) s
theorem x83_2 : execA E C (fg 83) B 20 E0 N c83_2 s = seqX (execA E C (fg 83) B 20 E0 N c83_3 s) (execA E C (fg 83) B 20 E0 N c83_4) := x_seq (by rfl) s
theorem x83_0 : execA E C (fg 83) B 20 E0 N c83_0 s = seqX (execA E C (fg 83) B 20 E0 N c83_1 s) (execA E C (fg 83) B 20 E0 N c83_2) := x_seq (by rfl) s
theorem fi_83 : fInfo E 83 = some ⟨20, #[.tmp 4], c83_0⟩ := nrfl rfl
theorem b_83 (args : List AV) : bodyA E C fg N 83 args H B = bodyX E [.tmp 4] (execA E C (fg 83) B 20 H N c83_0 (frame0 args 0 [], H)) := bodyA_eq fi_83 args H
noncomputable def c35_0 : Code := kBody Proofs.Try.f35
noncomputable def c35_1 : Code := kL c35_0
noncomputable def r35_0 : Array Oper := kO c35_1
noncomputable def o35_0_0 : Oper := opN r35_0 0
theorem x35_1 : execA E C (fg 35) B 16 E0 N c35_1 s = regX (runA E C B 16 r35_0 r35_0.toList s) (fun s => gcM E0 [] (forget s.1 [], s.2)) := x_reg (ops := r35_0) (by rfl) (by rfl) s
theorem r35_0_l : r35_0.toList = [o35_0_0] := nrfl rfl
theorem s35_0_0 : stepA E C B 16 r35_0 o35_0_0 (φ, H) = stp (some 4) φ H (opBox (B + 4) (zeroCells E.T 27)) := nrfl rfl
noncomputable def c35_2 : Code := kR c35_0
noncomputable def c35_3 : Code := kL c35_2
noncomputable def r35_1 : Array Oper := kO c35_3
noncomputable def o35_1_0 : Oper := opN r35_1 0
noncomputable def o35_1_1 : Oper := opN r35_1 1
noncomputable def o35_1_2 : Oper := opN r35_1 2
noncomputable def o35_1_3 : Oper := opN r35_1 3
theorem x35_3 : execA E C (fg 35) B 16 E0 N c35_3 s = regX (runA E C B 16 r35_1 r35_1.toList s) (fun s => gcM E0 [6, 7, 8] (forget s.1 [6, 7, 8], s.2)) := x_reg (ops := r35_1) (by rfl) (by rfl) s
theorem r35_1_l : r35_1.toList = [o35_1_0, o35_1_1, o35_1_2, o35_1_3] := nrfl rfl
theorem s35_1_0 : stepA E C B 16 r35_1 o35_1_0 (φ, H) = some (fput φ 6 (fget φ 0), H) := nrfl rfl
theorem s35_1_1 : stepA E C B 16 r35_1 o35_1_1 (φ, H) = some (fput φ 7 (fget φ 1), H) := nrfl rfl
theorem s35_1_2 : stepA E C B 16 r35_1 o35_1_2 (φ, H) = stp (some 8) φ H (aCall C (fun j => B + j * 16 + 8) true 83 [(fget φ 6), (fget φ 7)]) := nrfl rfl
theorem s35_1_3 : stepA E C B 16 r35_1 o35_1_3 (φ, H) = some (fput φ 5 (fget φ 8), H) := nrfl rfl
noncomputable def c35_4 : Code := kR c35_2
noncomputable def c35_5 : Code := kL c35_4
noncomputable def r35_2 : Array Oper := kO c35_5
noncomputable def o35_2_0 : Oper := opN r35_2 0
noncomputable def o35_2_1 : Oper := opN r35_2 1
noncomputable def o35_2_2 : Oper := opN r35_2 2
noncomputable def o35_2_3 : Oper := opN r35_2 3
noncomputable def o35_2_4 : Oper := opN r35_2 4
noncomputable def o35_2_5 : Oper := opN r35_2 5
noncomputable def o35_2_6 : Oper := opN r35_2 6
noncomputable def o35_2_7 : Oper := opN r35_2 7
theorem x35_5 : execA E C (fg 35) B 16 E0 N c35_5 s = regX (drawA E C B 16 r35_2 s) (fun s => gcM E0 [0, 1, 5, 9, 10, 11, 12, 13, 14, 15] (forget s.1 [0, 1, 5, 9, 10, 11, 12, 13, 14, 15], s.2)) := x_draw (ops := r35_2) (by rfl) (by rfl) s
theorem r35_2_l : r35_2.toList = [o35_2_0, o35_2_1, o35_2_2, o35_2_3, o35_2_4, o35_2_5, o35_2_6, o35_2_7] := nrfl rfl
theorem r35_2_st : statOk r35_2 = true := by kernel_rfl
theorem r35_2_dr : drawA E C B 16 r35_2 s = if neat 16 s = true then drX r35_2 (runT E C B 16 r35_2 r35_2.toList 0 s) else none := draw_eq r35_2_st s
theorem r35_2_an (l : List (Nat × Tr)) : dynOk r35_2 l = (!writing l || dynPairs [[], [], [0, 1], [], [], [3, 4], [0, 1, 2, 3, 4, 5], [0, 1, 2, 3, 4, 5, 6]] (touching l)) := dynOk_eq (by kernel_rfl) l
theorem s35_2_0 : stepT E C B 16 r35_2 o35_2_0 (φ, H) = some ((fput φ 9 (fget φ 0), H), ⟨false, [], []⟩) := stT_go rfl (goT_mv rfl rfl)
theorem s35_2_1 : stepT E C B 16 r35_2 o35_2_1 (φ, H) = some ((fput φ 10 (fget φ 5), H), ⟨false, [], []⟩) := stT_go rfl (goT_mv rfl rfl)
theorem s35_2_2 : stepT E C B 16 r35_2 o35_2_2 (φ, H) = stpT (some 11) φ H (just (aBin E.T .quo 3 (fget φ 9) (fget φ 10))) := stT_go rfl (goT_R rfl rfl)
theorem s35_2_3 : stepT E C B 16 r35_2 o35_2_3 (φ, H) = some ((fput φ 12 (fget φ 1), H), ⟨false, [], []⟩) := stT_go rfl (goT_mv rfl rfl)
theorem s35_2_4 : stepT E C B 16 r35_2 o35_2_4 (φ, H) = some ((fput φ 13 (fget φ 5), H), ⟨false, [], []⟩) := stT_go rfl (goT_mv rfl rfl)
theorem s35_2_5 : stepT E C B 16 r35_2 o35_2_5 (φ, H) = stpT (some 14) φ H (just (aBin E.T .quo 3 (fget φ 12) (fget φ 13))) := stT_go rfl (goT_R rfl rfl)
theorem s35_2_6 : stepT E C B 16 r35_2 o35_2_6 (φ, H) = stpT (some 15) φ H (aCall C (fun j => B + j * 16 + 15) true 40 [(fget φ 11), (fget φ 14)]) := stT_go rfl (goT_R rfl rfl)
theorem s35_2_7 : stepT E C B 16 r35_2 o35_2_7 (φ, H) = stpT none φ H (opStore E.T 27 (fget φ 4) (fget φ 15)) := stT_go rfl (goT_R rfl rfl)
noncomputable def c35_6 : Code := kR c35_4
theorem x35_6 : execA E C (fg 35) B 16 E0 N c35_6 s = some (.ret, s) := x_ret (by rfl) s
theorem x35_4 : execA E C (fg 35) B 16 E0 N c35_4 s = seqX (execA E C (fg 35) B 16 E0 N c35_5 s) (execA E C (fg 35) B 16 E0 N c35_6) := x_seq (by rfl) s
theorem x35_2 : execA E C (fg 35) B 16 E0 N c35_2 s = seqX (execA E C (fg 35) B 16 E0 N c35_3 s) (execA E C (fg 35) B 16 E0 N c35_4) := x_seq (by rfl) s
theorem x35_0 : execA E C (fg 35) B 16 E0 N c35_0 s = seqX (execA E C (fg 35) B 16 E0 N c35_1 s) (execA E C (fg 35) B 16 E0 N c35_2) := x_seq (by rfl) s
theorem fi_35 : fInfo E 35 = some ⟨16, #[.cell 4 27], c35_0⟩ := nrfl rfl
theorem b_35 (args : List AV) : bodyA E C fg N 35 args H B = bodyX E [.cell 4 27] (execA E C (fg 35) B 16 H N c35_0 (frame0 args 0 [], H)) := bodyA_eq fi_35 args H
noncomputable def c40_0 : Code := kBody Proofs.Try.f40
noncomputable def c40_1 : Code := kL c40_0
noncomputable def r40_0 : Array Oper := kO c40_1
noncomputable def o40_0_0 : Oper := opN r40_0 0
theorem x40_1 : execA E C (fg 40) B 8 E0 N c40_1 s = regX (runA E C B 8 r40_0 r40_0.toList s) (fun s => gcM E0 [] (forget s.1 [], s.2)) := x_reg (ops := r40_0) (by rfl) (by rfl) s
theorem r40_0_l : r40_0.toList = [o40_0_0] := nrfl rfl
theorem s40_0_0 : stepA E C B 8 r40_0 o40_0_0 (φ, H) = stp (some 4) φ H (opBox (B + 4) (zeroCells E.T 27)) := nrfl rfl
noncomputable def c40_2 : Code := kR c40_0
noncomputable def c40_3 : Code := kL c40_2
noncomputable def r40_1 : Array Oper := kO c40_3
noncomputable def o40_1_0 : Oper := opN r40_1 0
noncomputable def o40_1_1 : Oper := opN r40_1 1
noncomputable def o40_1_2 : Oper := opN r40_1 2
noncomputable def o40_1_3 : Oper := opN r40_1 3
theorem x40_3 : execA E C (fg 40) B 8 E0 N c40_3 s = regX (runA E C B 8 r40_1 r40_1.toList s) (fun s => gcM E0 [0, 1, 5, 6, 7] (forget s.1 [0, 1, 5, 6, 7], s.2)) := x_reg (ops := r40_1) (by rfl) (by rfl) s
theorem r40_1_l : r40_1.toList = [o40_1_0, o40_1_1, o40_1_2, o40_1_3] := nrfl rfl
theorem s40_1_0 : stepA E C B 8 r40_1 o40_1_0 (φ, H) = some (fput φ 5 (fget φ 0), H) := nrfl rfl
theorem s40_1_1 : stepA E C B 8 r40_1 o40_1_1 (φ, H) = some (fput φ 6 (fget φ 1), H) := nrfl rfl
theorem s40_1_2 : stepA E C B 8 r40_1 o40_1_2 (φ, H) = stp (some 7) φ H (justO (aBuild E.T 27 (evO E φ) [(0, Operand.tmp 5), (1, Operand.tmp 6)])) := nrfl rfl
theorem s40_1_3 : stepA E C B 8 r40_1 o40_1_3 (φ, H) = stp none φ H (opStore E.T 27 (fget φ 4) (fget φ 7)) := nrfl rfl
noncomputable def c40_4 : Code := kR c40_2
theorem x40_4 : execA E C (fg 40) B 8 E0 N c40_4 s = some (.ret, s) := x_ret (by rfl) s
theorem x40_2 : execA E C (fg 40) B 8 E0 N c40_2 s = seqX (execA E C (fg 40) B 8 E0 N c40_3 s) (execA E C (fg 40) B 8 E0 N c40_4) := x_seq (by rfl) s
theorem x40_0 : execA E C (fg 40) B 8 E0 N c40_0 s = seqX (execA E C (fg 40) B 8 E0 N c40_1 s) (execA E C (fg 40) B 8 E0 N c40_2) := x_seq (by rfl) s
theorem fi_40 : fInfo E 40 = some ⟨8, #[.cell 4 27], c40_0⟩ := nrfl rfl
theorem b_40 (args : List AV) : bodyA E C fg N 40 args H B = bodyX E [.cell 4 27] (execA E C (fg 40) B 8 H N c40_0 (frame0 args 0 [], H)) := bodyA_eq fi_40 args H
noncomputable def c39_0 : Code := kBody Proofs.Try.f39
noncomputable def c39_1 : Code := kL c39_0
noncomputable def r39_0 : Array Oper := kO c39_1
noncomputable def o39_0_0 : Oper := opN r39_0 0
noncomputable def o39_0_1 : Oper := opN r39_0 1
noncomputable def o39_0_2 : Oper := opN r39_0 2
theorem x39_1 : execA E C (fg 39) B 16 E0 N c39_1 s = regX (runA E C B 16 r39_0 r39_0.toList s) (fun s => gcM E0 [0, 1, 4] (forget s.1 [0, 1, 4], s.2)) := x_reg (ops := r39_0) (by rfl) (by rfl) s
theorem r39_0_l : r39_0.toList = [o39_0_0, o39_0_1, o39_0_2] := nrfl rfl
theorem s39_0_0 : stepA E C B 16 r39_0 o39_0_0 (φ, H) = stp (some 2) φ H (opBox (B + 2) (acells (fget φ 0))) := nrfl rfl
theorem s39_0_1 : stepA E C B 16 r39_0 o39_0_1 (φ, H) = stp (some 3) φ H (opBox (B + 3) (acells (fget φ 1))) := nrfl rfl
theorem s39_0_2 : stepA E C B 16 r39_0 o39_0_2 (φ, H) = some (fput φ 4 (.bool false), H) := nrfl rfl
noncomputable def c39_2 : Code := kR c39_0
noncomputable def c39_3 : Code := kL c39_2
noncomputable def r39_1 : Array Oper := kO c39_3
noncomputable def o39_1_0 : Oper := opN r39_1 0
noncomputable def o39_1_1 : Oper := opN r39_1 1
noncomputable def o39_1_2 : Oper := opN r39_1 2
noncomputable def o39_1_3 : Oper := opN r39_1 3
noncomputable def o39_1_4 : Oper := opN r39_1 4
noncomputable def o39_1_5 : Oper := opN r39_1 5
noncomputable def o39_1_6 : Oper := opN r39_1 6
noncomputable def o39_1_7 : Oper := opN r39_1 7
noncomputable def o39_1_8 : Oper := opN r39_1 8
noncomputable def o39_1_9 : Oper := opN r39_1 9
noncomputable def o39_1_10 : Oper := opN r39_1 10
noncomputable def o39_1_11 : Oper := opN r39_1 11
theorem x39_3 : execA E C (fg 39) B 16 E0 N c39_3 s = regX (runA E C B 16 r39_1 r39_1.toList s) (fun s => gcM E0 [2, 3, 5, 6, 7, 8, 9, 10, 11, 12, 13, 14, 15] (forget s.1 [2, 3, 5, 6, 7, 8, 9, 10, 11, 12, 13, 14, 15], s.2)) := x_reg (ops := r39_1) (by rfl) (by rfl) s
theorem r39_1_l : r39_1.toList = [o39_1_0, o39_1_1, o39_1_2, o39_1_3, o39_1_4, o39_1_5, o39_1_6, o39_1_7, o39_1_8, o39_1_9, o39_1_10, o39_1_11] := nrfl rfl
theorem s39_1_0 : stepA E C B 16 r39_1 o39_1_0 (φ, H) = stp (some 5) φ H (just (aFieldAddr E.T 27 (fget φ 2) 0)) := nrfl rfl
theorem s39_1_1 : stepA E C B 16 r39_1 o39_1_1 (φ, H) = stp (some 6) φ H (just (aLoad E.T 3 (fget φ 5))) := nrfl rfl
theorem s39_1_2 : stepA E C B 16 r39_1 o39_1_2 (φ, H) = stp (some 7) φ H (just (aFieldAddr E.T 27 (fget φ 3) 1)) := nrfl rfl
theorem s39_1_3 : stepA E C B 16 r39_1 o39_1_3 (φ, H) = stp (some 8) φ H (just (aLoad E.T 3 (fget φ 7))) := nrfl rfl
theorem s39_1_4 : stepA E C B 16 r39_1 o39_1_4 (φ, H) = stp (some 9) φ H (just (aBin E.T .mul 3 (fget φ 6) (fget φ 8))) := nrfl rfl
theorem s39_1_5 : stepA E C B 16 r39_1 o39_1_5 (φ, H) = stp (some 10) φ H (just (aFieldAddr E.T 27 (fget φ 3) 0)) := nrfl rfl
theorem s39_1_6 : stepA E C B 16 r39_1 o39_1_6 (φ, H) = stp (some 11) φ H (just (aLoad E.T 3 (fget φ 10))) := nrfl rfl
theorem s39_1_7 : stepA E C B 16 r39_1 o39_1_7 (φ, H) = stp (some 12) φ H (just (aFieldAddr E.T 27 (fget φ 2) 1)) := nrfl rfl
theorem s39_1_8 : stepA E C B 16 r39_1 o39_1_8 (φ, H) = stp (some 13) φ H (just (aLoad E.T 3 (fget φ 12))) := nrfl rfl
theorem s39_1_9 : stepA E C B 16 r39_1 o39_1_9 (φ, H) = stp (some 14) φ H (just (aBin E.T .mul 3 (fget φ 11) (fget φ 13))) := nrfl rfl
theorem s39_1_10 : stepA E C B 16 r39_1 o39_1_10 (φ, H) = stp (some 15) φ H (just (aBin E.T .lss 3 (fget φ 9) (fget φ 14))) := nrfl rfl
theorem s39_1_11 : stepA E C B 16 r39_1 o39_1_11 (φ, H) = some (fput φ 4 (fget φ 15), H) := nrfl rfl
noncomputable def c39_4 : Code := kR c39_2
theorem x39_4 : execA E C (fg 39) B 16 E0 N c39_4 s = some (.ret, s) := x_ret (by rfl) s
theorem x39_2 : execA E C (fg 39) B 16 E0 N c39_2 s = seqX (execA E C (fg 39) B 16 E0 N c39_3 s) (execA E C (fg 39) B 16 E0 N c39_4) := x_seq (by rfl) s
theorem x39_0 : execA E C (fg 39) B 16 E0 N c39_0 s = seqX (execA E C (fg 39) B 16 E0 N c39_1 s) (execA E C (fg 39) B 16 E0 N c39_2) := x_seq (by rfl) s
theorem fi_39 : fInfo E 39 = some ⟨16, #[.tmp 4], c39_0⟩ := nrfl rfl
theorem b_39 (args : List AV) : bodyA E C fg N 39 args H B = bodyX E [.tmp 4] (execA E C (fg 39) B 16 H N c39_0 (frame0 args 0 [], H)) := bodyA_eq fi_39 args H
noncomputable def c33_0 : Code := kBody Proofs.Try.f33
noncomputable def c33_1 : Code := kL c33_0
noncomputable def r33_0 : Array Oper := kO c33_1
noncomputable def o33_0_0 : Oper := opN r33_0 0
noncomputable def o33_0_1 : Oper := opN r33_0 1
theorem x33_1 : execA E C (fg 33) B 29 E0 N c33_1 s = regX (runA E C B 29 r33_0 r33_0.toList s) (fun s => gcM E0 [0, 2] (forget s.1 [0, 2], s.2)) := x_reg (ops := r33_0) (by rfl) (by rfl) s
theorem r33_0_l : r33_0.toList = [o33_0_0, o33_0_1] := nrfl rfl
theorem s33_0_0 : stepA E C B 29 r33_0 o33_0_0 (φ, H) = stp (some 1) φ H (opBox (B + 1) (acells (fget φ 0))) := nrfl rfl
theorem s33_0_1 : stepA E C B 29 r33_0 o33_0_1 (φ, H) = some (fput φ 2 (.bool false), H) := nrfl rfl
noncomputable def c33_2 : Code := kR c33_0
noncomputable def c33_3 : Code := kL c33_2
noncomputable def r33_1 : Array Oper := kO c33_3
noncomputable def o33_1_0 : Oper := opN r33_1 0
noncomputable def o33_1_1 : Oper := opN r33_1 1
noncomputable def o33_1_2 : Oper := opN r33_1 2
noncomputable def o33_1_3 : Oper := opN r33_1 3
noncomputable def o33_1_4 : Oper := opN r33_1 4
noncomputable def o33_1_5 : Oper := opN r33_1 5
noncomputable def o33_1_6 : Oper := opN r33_1 6
noncomputable def o33_1_7 : Oper := opN r33_1 7
noncomputable def o33_1_8 : Oper := opN r33_1 8
noncomputable def o33_1_9 : Oper := opN r33_1 9
noncomputable def o33_1_10 : Oper := opN r33_1 10
noncomputable def o33_1_11 : Oper := opN r33_1 11
noncomputable def o33_1_12 : Oper := opN r33_1 12
noncomputable def o33_1_13 : Oper := opN r33_1 13
noncomputable def o33_1_14 : Oper := opN r33_1 14
noncomputable def o33_1_15 : Oper := opN r33_1 15
noncomputable def o33_1_16 : Oper := opN r33_1 16
noncomputable def o33_1_17 : Oper := opN r33_1 17
noncomputable def o33_1_18 : Oper := opN r33_1 18
noncomputable def o33_1_19 : Oper := opN r33_1 19
noncomputable def o33_1_20 : Oper := opN r33_1 20
noncomputable def o33_1_21 : Oper := opN r33_1 21
noncomputable def o33_1_22 : Oper := opN r33_1 22
noncomputable def o33_1_23 : Oper := opN r33_1 23
noncomputable def o33_1_24 : Oper := opN r33_1 24
noncomputable def o33_1_25 : Oper := opN r33_1 25
noncomputable def o33_1_26 : Oper := opN r33_1 26
theorem x33_3 : execA E C (fg 33) B 29 E0 N c33_3 s = regX (runA E C B 29 r33_1 r33_1.toList s) (fun s => gcM E0 [1, 3, 4, 5, 6, 7, 8, 9, 10, 11, 12, 13, 14, 15, 16, 17, 18, 19, 20, 21, 22, 23, 24, 25, 26, 27, 28] (forget s.1 [1, 3, 4, 5, 6, 7, 8, 9, 10, 11, 12, 13, 14, 15, 16, 17, 18, 19, 20, 21, 22, 23, 24, 25, 26, 27, 28], s.2)) := x_reg (ops := r33_1) (by rfl) (by rfl) s
theorem r33_1_l : r33_1.toList = [o33_1_0, o33_1_1, o33_1_2, o33_1_3, o33_1_4, o33_1_5, o33_1_6, o33_1_7, o33_1_8, o33_1_9, o33_1_10, o33_1_11, o33_1_12, o33_1_13, o33_1_14, o33_1_15, o33_1_16, o33_1_17, o33_1_18, o33_1_19, o33_1_20, o33_1_21, o33_1_22, o33_1_23, o33_1_24, o33_1_25, o33_1_26] := nrfl rfl
theorem s33_1_0 : stepA E C B 29 r33_1 o33_1_0 (φ, H) = stp (some 3) φ H (just (aFieldAddr E.T 27 (fget φ 1) 1)) := nrfl rfl
theorem s33_1_1 : stepA E C B 29 r33_1 o33_1_1 (φ, H) = stp (some 4) φ H (just (aLoad E.T 3 (fget φ 3))) := nrfl rfl
theorem s33_1_2 : stepA E C B 29 r33_1 o33_1_2 (φ, H) = stp (some 5) φ H (just (aBin E.T .gtr 3 (fget φ 4) (.int .i64 0))) := nrfl rfl
theorem s33_1_3 : stepA E C B 29 r33_1 o33_1_3 (φ, H) = some (fput φ 6 (fget φ 5), H) := nrfl rfl
theorem s33_1_4 : stepA E C B 29 r33_1 o33_1_4 (φ, H) = gd φ 6 true (fun φ => some (fput φ 7 (.tup []), H)) (fun φ => stp (some 7) φ H (just (aFieldAddr E.T 27 (fget φ 1) 1))) := s_gd (j := 3) (oj := o33_1_3) rfl rfl rfl (fun _ => rfl) (fun _ => rfl)
theorem s33_1_5 : stepA E C B 29 r33_1 o33_1_5 (φ, H) = gd φ 6 true (fun φ => some (fput φ 8 (.tup []), H)) (fun φ => stp (some 8) φ H (just (aLoad E.T 3 (fget φ 7)))) := s_gd (j := 3) (oj := o33_1_3) rfl rfl rfl (fun _ => rfl) (fun _ => rfl)
theorem s33_1_6 : stepA E C B 29 r33_1 o33_1_6 (φ, H) = gd φ 6 true (fun φ => some (fput φ 9 (.tup []), H)) (fun φ => stp (some 9) φ H (just (aBin E.T .lss 3 (fget φ 8) (.int .i64 33554432)))) := s_gd (j := 3) (oj := o33_1_3) rfl rfl rfl (fun _ => rfl) (fun _ => rfl)
theorem s33_1_7 : stepA E C B 29 r33_1 o33_1_7 (φ, H) = stp (some 10) φ H (opPick (fget φ 6) (fget φ 9) (.bool false)) := nrfl rfl
theorem s33_1_8 : stepA E C B 29 r33_1 o33_1_8 (φ, H) = some (fput φ 11 (fget φ 10), H) := nrfl rfl
theorem s33_1_9 : stepA E C B 29 r33_1 o33_1_9 (φ, H) = gd φ 11 true (fun φ => some (fput φ 12 (.tup []), H)) (fun φ => stp (some 12) φ H (just (aFieldAddr E.T 27 (fget φ 1) 0))) := s_gd (j := 8) (oj := o33_1_8) rfl rfl rfl (fun _ => rfl) (fun _ => rfl)
theorem s33_1_10 : stepA E C B 29 r33_1 o33_1_10 (φ, H) = gd φ 11 true (fun φ => some (fput φ 13 (.tup []), H)) (fun φ => stp (some 13) φ H (just (aLoad E.T 3 (fget φ 12)))) := s_gd (j := 8) (oj := o33_1_8) rfl rfl rfl (fun _ => rfl) (fun _ => rfl)
theorem s33_1_11 : stepA E C B 29 r33_1 o33_1_11 (φ, H) = gd φ 11 true (fun φ => some (fput φ 14 (.tup []), H)) (fun φ => stp (some 14) φ H (just (aBin E.T .gtr 3 (fget φ 13) (.int .i64 (-68719476736))))) := s_gd (j := 8) (oj := o33_1_8) rfl rfl rfl (fun _ => rfl) (fun _ => rfl)
theorem s33_1_12 : stepA E C B 29 r33_1 o33_1_12 (φ, H) = stp (some 15) φ H (opPick (fget φ 11) (fget φ 14) (.bool false)) := nrfl rfl
theorem s33_1_13 : stepA E C B 29 r33_1 o33_1_13 (φ, H) = some (fput φ 16 (fget φ 15), H) := nrfl rfl
theorem s33_1_14 : stepA E C B 29 r33_1 o33_1_14 (φ, H) = gd φ 16 true (fun φ => some (fput φ 17 (.tup []), H)) (fun φ => stp (some 17) φ H (just (aFieldAddr E.T 27 (fget φ 1) 0))) := s_gd (j := 13) (oj := o33_1_13) rfl rfl rfl (fun _ => rfl) (fun _ => rfl)
theorem s33_1_15 : stepA E C B 29 r33_1 o33_1_15 (φ, H) = gd φ 16 true (fun φ => some (fput φ 18 (.tup []), H)) (fun φ => stp (some 18) φ H (just (aLoad E.T 3 (fget φ 17)))) := s_gd (j := 13) (oj := o33_1_13) rfl rfl rfl (fun _ => rfl) (fun _ => rfl)
theorem s33_1_16 : stepA E C B 29 r33_1 o33_1_16 (φ, H) = gd φ 16 true (fun φ => some (fput φ 19 (.tup []), H)) (fun φ => stp (some 19) φ H (just (aBin E.T .lss 3 (fget φ 18) (.int .i64 68719476736)))) := s_gd (j := 13) (oj := o33_1_13) rfl rfl rfl (fun _ => rfl) (fun _ => rfl)
theorem s33_1_17 : stepA E C B 29 r33_1 o33_1_17 (φ, H) = stp (some 20) φ H (opPick (fget φ 16) (fget φ 19) (.bool false)) := nrfl rfl
theorem s33_1_18 : stepA E C B 29 r33_1 o33_1_18 (φ, H) = some (fput φ 21 (fget φ 20), H) := nrfl rfl
theorem s33_1_19 : stepA E C B 29 r33_1 o33_1_19 (φ, H) = gd φ 21 true (fun φ => some (fput φ 22 (.tup []), H)) (fun φ => stp (some 22) φ H (just (aFieldAddr E.T 27 (fget φ 1) 0))) := s_gd (j := 18) (oj := o33_1_18) rfl rfl rfl (fun _ => rfl) (fun _ => rfl)
theorem s33_1_20 : stepA E C B 29 r33_1 o33_1_20 (φ, H) = gd φ 21 true (fun φ => some (fput φ 23 (.tup []), H)) (fun φ => stp (some 23) φ H (just (aLoad E.T 3 (fget φ 22)))) := s_gd (j := 18) (oj := o33_1_18) rfl rfl rfl (fun _ => rfl) (fun _ => rfl)
theorem s33_1_21 : stepA E C B 29 r33_1 o33_1_21 (φ, H) = gd φ 21 true (fun φ => some (fput φ 24 (.tup []), H)) (fun φ => stp (some 24) φ H (just (aFieldAddr E.T 27 (fget φ 1) 1))) := s_gd (j := 18) (oj := o33_1_18) rfl rfl rfl (fun _ => rfl) (fun _ => rfl)
theorem s33_1_22 : stepA E C B 29 r33_1 o33_1_22 (φ, H) = gd φ 21 true (fun φ => some (fput φ 25 (.tup []), H)) (fun φ => stp (some 25) φ H (just (aLoad E.T 3 (fget φ 24)))) := s_gd (j := 18) (oj := o33_1_18) rfl rfl rfl (fun _ => rfl) (fun _ => rfl)
theorem s33_1_23 : stepA E C B 29 r33_1 o33_1_23 (φ, H) = gd φ 21 true (fun φ => some (fput φ 26 (.tup []), H)) (fun φ => stp (some 26) φ H (aCall C (fun j => B + j * 29 + 26) true 83 [(fget φ 23), (fget φ 25)])) := s_gd (j := 18) (oj := o33_1_18) rfl rfl rfl (fun _ => rfl) (fun _ => rfl)
theorem s33_1_24 : stepA E C B 29 r33_1 o33_1_24 (φ, H) = gd φ 21 true (fun φ => some (fput φ 27 (.tup []), H)) (fun φ => stp (some 27) φ H (just (aBin E.T .eql 3 (fget φ 26) (.int .i64 1)))) := s_gd (j := 18) (oj := o33_1_18) rfl rfl rfl (fun _ => rfl) (fun _ => rfl)
theorem s33_1_25 : stepA E C B 29 r33_1 o33_1_25 (φ, H) = stp (some 28) φ H (opPick (fget φ 21) (fget φ 27) (.bool false)) := nrfl rfl
theorem s33_1_26 : stepA E C B 29 r33_1 o33_1_26 (φ, H) = some (fput φ 2 (fget φ 28), H) := nrfl rfl
noncomputable def c33_4 : Code := kR c33_2
theorem x33_4 : execA E C (fg 33) B 29 E0 N c33_4 s = some (.ret, s) := x_ret (by rfl) s
theorem x33_2 : execA E C (fg 33) B 29 E0 N c33_2 s = seqX (execA E C (fg 33) B 29 E0 N c33_3 s) (execA E C (fg 33) B 29 E0 N c33_4) := x_seq (by rfl) s
theorem x33_0 : execA E C (fg 33) B 29 E0 N c33_0 s = seqX (execA E C (fg 33) B 29 E0 N c33_1 s) (execA E C (fg 33) B 29 E0 N c33_2) := x_seq (by rfl) s
theorem fi_33 : fInfo E 33 = some ⟨29, #[.tmp 2], c33_0⟩ := nrfl rfl
theorem b_33 (args : List AV) : bodyA E C fg N 33 args H B = bodyX E [.tmp 2] (execA E C (fg 33) B 29 H N c33_0 (frame0 args 0 [], H)) := bodyA_eq fi_33 args H
end Go.AM.Ytmhbnflnlglljaa
end
