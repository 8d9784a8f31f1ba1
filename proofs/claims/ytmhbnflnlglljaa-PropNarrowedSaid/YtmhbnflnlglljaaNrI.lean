/- A part of the proof of propNarrowed_holds: SyH, PropA, PropB, PropC. Own work of this project; texts printed by own programs among it. -/
import Derived.KernelRfl
import Derived.Test.YtmhbnflnlglljaaNrH
section
namespace Go.AM.Ytmhbnflnlglljaa
open Go Go.AM
set_option maxRecDepth 100000
variable {C : Callee} {B N : Nat} {E0 : AHeap} (φ : AFr) (H : AHeap) (s : St)
noncomputable def c12_0 : Code := kBody Proofs.Try.f12
noncomputable def c12_1 : Code := kL c12_0
noncomputable def r12_0 : Array Oper := kO c12_1
noncomputable def o12_0_0 : Oper := opN r12_0 0
noncomputable def o12_0_1 : Oper := opN r12_0 1
noncomputable def o12_0_2 : Oper := opN r12_0 2
noncomputable def o12_0_3 : Oper := opN r12_0 3
noncomputable def o12_0_4 : Oper := opN r12_0 4
theorem x12_1 : execA E C (fg 12) B 22 E0 N c12_1 s = regX (runA E C B 22 r12_0 r12_0.toList s) (fun s => gcM E0 [0, 1, 6] (forget s.1 [0, 1, 6], s.2)) := x_reg (ops := r12_0) (by rfl) (by rfl) s
theorem r12_0_l : r12_0.toList = [o12_0_0, o12_0_1, o12_0_2, o12_0_3, o12_0_4] := nrfl rfl
theorem s12_0_0 : stepA E C B 22 r12_0 o12_0_0 (φ, H) = stp (some 2) φ H (opBox (B + 2) (acells (fget φ 0))) := nrfl rfl
theorem s12_0_1 : stepA E C B 22 r12_0 o12_0_1 (φ, H) = stp (some 3) φ H (opBox (B + 3) (acells (fget φ 1))) := nrfl rfl
theorem s12_0_2 : stepA E C B 22 r12_0 o12_0_2 (φ, H) = stp (some 4) φ H (opBox (B + 4) (zeroCells E.T 27)) := nrfl rfl
theorem s12_0_3 : stepA E C B 22 r12_0 o12_0_3 (φ, H) = stp (some 5) φ H (opBox (B + 5) (zeroCells E.T 27)) := nrfl rfl
theorem s12_0_4 : stepA E C B 22 r12_0 o12_0_4 (φ, H) = some (fput φ 6 (.int .i64 0), H) := nrfl rfl
noncomputable def c12_2 : Code := kR c12_0
noncomputable def c12_3 : Code := kL c12_2
noncomputable def c12_4 : Code := kL c12_3
noncomputable def r12_1 : Array Oper := kO c12_4
noncomputable def o12_1_0 : Oper := opN r12_1 0
noncomputable def o12_1_1 : Oper := opN r12_1 1
noncomputable def o12_1_2 : Oper := opN r12_1 2
noncomputable def o12_1_3 : Oper := opN r12_1 3
theorem x12_4 : execA E C (fg 12) B 22 E0 N c12_4 s = regX (runA E C B 22 r12_1 r12_1.toList s) (fun s => gcM E0 [9, 10, 11] (forget s.1 [9, 10, 11], s.2)) := x_reg (ops := r12_1) (by rfl) (by rfl) s
theorem r12_1_l : r12_1.toList = [o12_1_0, o12_1_1, o12_1_2, o12_1_3] := nrfl rfl
theorem s12_1_0 : stepA E C B 22 r12_1 o12_1_0 (φ, H) = stp (some 9) φ H (just (aLoad E.T 22 (fget φ 2))) := nrfl rfl
theorem s12_1_1 : stepA E C B 22 r12_1 o12_1_1 (φ, H) = stp (some 10) φ H (just (aLoad E.T 3 (fget φ 3))) := nrfl rfl
theorem s12_1_2 : stepA E C B 22 r12_1 o12_1_2 (φ, H) = stp (some 11) φ H (aCall C (fun j => B + j * 22 + 11) true 57 [(fget φ 9), (fget φ 10)]) := nrfl rfl
theorem s12_1_3 : stepA E C B 22 r12_1 o12_1_3 (φ, H) = some (fput φ 7 (fget φ 11), H) := nrfl rfl
noncomputable def c12_5 : Code := kR c12_3
noncomputable def c12_6 : Code := kL c12_5
noncomputable def r12_2 : Array Oper := kO c12_6
noncomputable def o12_2_0 : Oper := opN r12_2 0
noncomputable def o12_2_1 : Oper := opN r12_2 1
theorem x12_6 : execA E C (fg 12) B 22 E0 N c12_6 s = regX (runA E C B 22 r12_2 r12_2.toList s) (fun s => gcM E0 [12] (forget s.1 [12], s.2)) := x_reg (ops := r12_2) (by rfl) (by rfl) s
theorem r12_2_l : r12_2.toList = [o12_2_0, o12_2_1] := nrfl rfl
theorem s12_2_0 : stepA E C B 22 r12_2 o12_2_0 (φ, H) = some (fput φ 12 (fget φ 7), H) := nrfl rfl
theorem s12_2_1 : stepA E C B 22 r12_2 o12_2_1 (φ, H) = stp (some 13) φ H (just (aBin E.T .neq 28 (fget φ 12) (.int .i64 0))) := nrfl rfl
noncomputable def c12_7 : Code := kR c12_5
noncomputable def c12_8 : Code := kT c12_7
noncomputable def c12_9 : Code := kL c12_8
noncomputable def r12_3 : Array Oper := kO c12_9
noncomputable def o12_3_0 : Oper := opN r12_3 0
noncomputable def o12_3_1 : Oper := opN r12_3 1
noncomputable def o12_3_2 : Oper := opN r12_3 2
noncomputable def o12_3_3 : Oper := opN r12_3 3
noncomputable def o12_3_4 : Oper := opN r12_3 4
noncomputable def o12_3_5 : Oper := opN r12_3 5
theorem x12_9 : execA E C (fg 12) B 22 E0 N c12_9 s = regX (runA E C B 22 r12_3 r12_3.toList s) (fun s => gcM E0 [2, 3, 7, 13, 14, 15, 16] (forget s.1 [2, 3, 7, 13, 14, 15, 16], s.2)) := x_reg (ops := r12_3) (by rfl) (by rfl) s
theorem r12_3_l : r12_3.toList = [o12_3_0, o12_3_1, o12_3_2, o12_3_3, o12_3_4, o12_3_5] := nrfl rfl
theorem s12_3_0 : stepA E C B 22 r12_3 o12_3_0 (φ, H) = stp (some 14) φ H (justO (aBuild E.T 27 (evO E φ) [])) := nrfl rfl
theorem s12_3_1 : stepA E C B 22 r12_3 o12_3_1 (φ, H) = stp (some 15) φ H (justO (aBuild E.T 27 (evO E φ) [])) := nrfl rfl
theorem s12_3_2 : stepA E C B 22 r12_3 o12_3_2 (φ, H) = some (fput φ 16 (fget φ 7), H) := nrfl rfl
theorem s12_3_3 : stepA E C B 22 r12_3 o12_3_3 (φ, H) = stp none φ H (opStore E.T 27 (fget φ 4) (fget φ 14)) := nrfl rfl
theorem s12_3_4 : stepA E C B 22 r12_3 o12_3_4 (φ, H) = stp none φ H (opStore E.T 27 (fget φ 5) (fget φ 15)) := nrfl rfl
theorem s12_3_5 : stepA E C B 22 r12_3 o12_3_5 (φ, H) = some (fput φ 6 (fget φ 16), H) := nrfl rfl
noncomputable def c12_10 : Code := kR c12_8
theorem x12_10 : execA E C (fg 12) B 22 E0 N c12_10 s = some (.ret, s) := x_ret (by rfl) s
theorem x12_8 : execA E C (fg 12) B 22 E0 N c12_8 s = seqX (execA E C (fg 12) B 22 E0 N c12_9 s) (execA E C (fg 12) B 22 E0 N c12_10) := x_seq (by rfl) s
noncomputable def c12_11 : Code := kE c12_7
theorem x12_11 : execA E C (fg 12) B 22 E0 N c12_11 s = some (.normal, s) := x_skip (by rfl) s
theorem x12_7 : execA E C (fg 12) B 22 E0 N c12_7 (φ, H) = condX (fget φ 13) (execA E C (fg 12) B 22 E0 N c12_8 (φ, H)) (execA E C (fg 12) B 22 E0 N c12_11 (φ, H)) := x_cond (by rfl) _
theorem x12_5 : execA E C (fg 12) B 22 E0 N c12_5 s = seqX (execA E C (fg 12) B 22 E0 N c12_6 s) (execA E C (fg 12) B 22 E0 N c12_7) := x_seq (by rfl) s
theorem x12_3 : execA E C (fg 12) B 22 E0 N c12_3 s = seqX (execA E C (fg 12) B 22 E0 N c12_4 s) (execA E C (fg 12) B 22 E0 N c12_5) := x_seq (by rfl) s
noncomputable def c12_12 : Code := kR c12_2
noncomputable def c12_13 : Code := kL c12_12
noncomputable def r12_4 : Array Oper := kO c12_13
noncomputable def o12_4_0 : Oper := opN r12_4 0
noncomputable def o12_4_1 : Oper := opN r12_4 1
theorem x12_13 : execA E C (fg 12) B 22 E0 N c12_13 s = regX (runA E C B 22 r12_4 r12_4.toList s) (fun s => gcM E0 [2, 3, 7, 13, 17] (forget s.1 [2, 3, 7, 13, 17], s.2)) := x_reg (ops := r12_4) (by rfl) (by rfl) s
theorem r12_4_l : r12_4.toList = [o12_4_0, o12_4_1] := nrfl rfl
theorem s12_4_0 : stepA E C B 22 r12_4 o12_4_0 (φ, H) = stp (some 17) φ H (.pure (.clo 58 [(fget φ 2), (fget φ 3)], [])) := nrfl rfl
theorem s12_4_1 : stepA E C B 22 r12_4 o12_4_1 (φ, H) = some (fput φ 8 (fget φ 17), H) := nrfl rfl
noncomputable def c12_14 : Code := kR c12_12
noncomputable def c12_15 : Code := kL c12_14
noncomputable def r12_5 : Array Oper := kO c12_15
noncomputable def o12_5_0 : Oper := opN r12_5 0
noncomputable def o12_5_1 : Oper := opN r12_5 1
noncomputable def o12_5_2 : Oper := opN r12_5 2
noncomputable def o12_5_3 : Oper := opN r12_5 3
noncomputable def o12_5_4 : Oper := opN r12_5 4
noncomputable def o12_5_5 : Oper := opN r12_5 5
noncomputable def o12_5_6 : Oper := opN r12_5 6
theorem x12_15 : execA E C (fg 12) B 22 E0 N c12_15 s = regX (runA E C B 22 r12_5 r12_5.toList s) (fun s => gcM E0 [8, 18, 19, 20, 21] (forget s.1 [8, 18, 19, 20, 21], s.2)) := x_reg (ops := r12_5) (by rfl) (by rfl) s
theorem r12_5_l : r12_5.toList = [o12_5_0, o12_5_1, o12_5_2, o12_5_3, o12_5_4, o12_5_5, o12_5_6] := nrfl rfl
theorem s12_5_0 : stepA E C B 22 r12_5 o12_5_0 (φ, H) = some (fput φ 18 (fget φ 8), H) := nrfl rfl
theorem s12_5_1 : stepA E C B 22 r12_5 o12_5_1 (φ, H) = callV E C (B + 22 * 8) (some 19) (fun j => B + j * 22 + 19) φ H (fget φ 18) [(.int .i64 (-1))] true := nrfl rfl
theorem s12_5_2 : stepA E C B 22 r12_5 o12_5_2 (φ, H) = some (fput φ 20 (fget φ 8), H) := nrfl rfl
theorem s12_5_3 : stepA E C B 22 r12_5 o12_5_3 (φ, H) = callV E C (B + 22 * 8) (some 21) (fun j => B + j * 22 + 21) φ H (fget φ 20) [(.int .i64 1)] true := nrfl rfl
theorem s12_5_4 : stepA E C B 22 r12_5 o12_5_4 (φ, H) = stp none φ H (opStore E.T 27 (fget φ 4) (fget φ 19)) := nrfl rfl
theorem s12_5_5 : stepA E C B 22 r12_5 o12_5_5 (φ, H) = stp none φ H (opStore E.T 27 (fget φ 5) (fget φ 21)) := nrfl rfl
theorem s12_5_6 : stepA E C B 22 r12_5 o12_5_6 (φ, H) = some (fput φ 6 (.int .i64 0), H) := nrfl rfl
noncomputable def c12_16 : Code := kR c12_14
theorem x12_16 : execA E C (fg 12) B 22 E0 N c12_16 s = some (.ret, s) := x_ret (by rfl) s
theorem x12_14 : execA E C (fg 12) B 22 E0 N c12_14 s = seqX (execA E C (fg 12) B 22 E0 N c12_15 s) (execA E C (fg 12) B 22 E0 N c12_16) := x_seq (by rfl) s
theorem x12_12 : execA E C (fg 12) B 22 E0 N c12_12 s = seqX (execA E C (fg 12) B 22 E0 N c12_13 s) (execA E C (fg 12) B 22 E0 N c12_14) := x_seq (by rfl) s
theorem x12_2 : execA E C (fg 12) B 22 E0 N c12_2 s = seqX (execA E C (fg 12) B 22 E0 N c12_3 s) (execA E C (fg 12) B 22 E0 N c12_12) := x_seq (by rfl) s
theorem x12_0 : execA E C (fg 12) B 22 E0 N c12_0 s = seqX (execA E C (fg 12) B 22 E0 N c12_1 s) (execA E C (fg 12) B 22 E0 N c12_2) := x_seq (by rfl) s
theorem fi_12 : fInfo E 12 = some ⟨22, #[.cell 4 27, .cell 5 27, .tmp 6], c12_0⟩ := nrfl rfl
theorem b_12 (args : List AV) : bodyA E C fg N 12 args H B = bodyX E [.cell 4 27, .cell 5 27, .tmp 6] (execA E C (fg 12) B 22 H N c12_0 (frame0 args 0 [], H)) := bodyA_eq fi_12 args H
noncomputable def c58_0 : Code := kBody Proofs.Try.f58
noncomputable def c58_1 : Code := kL c58_0
noncomputable def r58_0 : Array Oper := kO c58_1
noncomputable def o58_0_0 : Oper := opN r58_0 0
noncomputable def o58_0_1 : Oper := opN r58_0 1
theorem x58_1 : execA E C (fg 58) B 73 E0 N c58_1 s = regX (runA E C B 73 r58_0 r58_0.toList s) (fun s => gcM E0 [0] (forget s.1 [0], s.2)) := x_reg (ops := r58_0) (by rfl) (by rfl) s
theorem r58_0_l : r58_0.toList = [o58_0_0, o58_0_1] := nrfl rfl
theorem s58_0_0 : stepA E C B 73 r58_0 o58_0_0 (φ, H) = stp (some 3) φ H (opBox (B + 3) (acells (fget φ 0))) := nrfl rfl
theorem s58_0_1 : stepA E C B 73 r58_0 o58_0_1 (φ, H) = stp (some 4) φ H (opBox (B + 4) (zeroCells E.T 27)) := nrfl rfl
noncomputable def c58_2 : Code := kR c58_0
noncomputable def c58_3 : Code := kL c58_2
noncomputable def r58_1 : Array Oper := kO c58_3
noncomputable def o58_1_0 : Oper := opN r58_1 0
noncomputable def o58_1_1 : Oper := opN r58_1 1
noncomputable def o58_1_2 : Oper := opN r58_1 2
noncomputable def o58_1_3 : Oper := opN r58_1 3
noncomputable def o58_1_4 : Oper := opN r58_1 4
theorem x58_3 : execA E C (fg 58) B 73 E0 N c58_3 s = regX (runA E C B 73 r58_1 r58_1.toList s) (fun s => gcM E0 [1, 2, 12, 13, 14, 15] (forget s.1 [1, 2, 12, 13, 14, 15], s.2)) := x_reg (ops := r58_1) (by rfl) (by rfl) s
theorem r58_1_l : r58_1.toList = [o58_1_0, o58_1_1, o58_1_2, o58_1_3, o58_1_4] := nrfl rfl
theorem s58_1_0 : stepA E C B 73 r58_1 o58_1_0 (φ, H) = stp (some 12) φ H (just (aLoad E.T 22 (fget φ 1))) := nrfl rfl
theorem s58_1_1 : stepA E C B 73 r58_1 o58_1_1 (φ, H) = stp (some 13) φ H (just (aLoad E.T 3 (fget φ 2))) := nrfl rfl
theorem s58_1_2 : stepA E C B 73 r58_1 o58_1_2 (φ, H) = stp (some 14) φ H (just (aSlice E.T 22 (fget φ 12) (some (fget φ 13)) none none)) := nrfl rfl
theorem s58_1_3 : stepA E C B 73 r58_1 o58_1_3 (φ, H) = stp (some 15) φ H (aCall C (fun j => B + j * 73 + 15) true 41 [(fget φ 14)]) := nrfl rfl
theorem s58_1_4 : stepA E C B 73 r58_1 o58_1_4 (φ, H) = some (fput φ 5 (fget φ 15), H) := nrfl rfl
noncomputable def c58_4 : Code := kR c58_2
noncomputable def c58_5 : Code := kL c58_4
noncomputable def r58_2 : Array Oper := kO c58_5
noncomputable def o58_2_0 : Oper := opN r58_2 0
noncomputable def o58_2_1 : Oper := opN r58_2 1
noncomputable def o58_2_2 : Oper := opN r58_2 2
theorem x58_5 : execA E C (fg 58) B 73 E0 N c58_5 s = regX (runA E C B 73 r58_2 r58_2.toList s) (fun s => gcM E0 [16, 17, 18] (forget s.1 [16, 17, 18], s.2)) := x_reg (ops := r58_2) (by rfl) (by rfl) s
theorem r58_2_l : r58_2.toList = [o58_2_0, o58_2_1, o58_2_2] := nrfl rfl
theorem s58_2_0 : stepA E C B 73 r58_2 o58_2_0 (φ, H) = some (fput φ 16 (fget φ 5), H) := nrfl rfl
theorem s58_2_1 : stepA E C B 73 r58_2 o58_2_1 (φ, H) = stp (some 17) φ H (.pure (.clo 60 [(fget φ 3)], [])) := nrfl rfl
theorem s58_2_2 : stepA E C B 73 r58_2 o58_2_2 (φ, H) = mutX (some 18) φ (C 59 [(fget φ 16), (fget φ 17)] H (B + 73 * 8)) := nrfl rfl
noncomputable def c58_6 : Code := kR c58_4
noncomputable def c58_7 : Code := kL c58_6
noncomputable def r58_3 : Array Oper := kO c58_7
noncomputable def o58_3_0 : Oper := opN r58_3 0
noncomputable def o58_3_1 : Oper := opN r58_3 1
theorem x58_7 : execA E C (fg 58) B 73 E0 N c58_7 s = regX (runA E C B 73 r58_3 r58_3.toList s) (fun s => gcM E0 [] (forget s.1 [], s.2)) := x_reg (ops := r58_3) (by rfl) (by rfl) s
theorem r58_3_l : r58_3.toList = [o58_3_0, o58_3_1] := nrfl rfl
theorem s58_3_0 : stepA E C B 73 r58_3 o58_3_0 (φ, H) = some (fput φ 6 (.int .i64 0), H) := nrfl rfl
theorem s58_3_1 : stepA E C B 73 r58_3 o58_3_1 (φ, H) = some (fput φ 7 (.int .i64 0), H) := nrfl rfl
noncomputable def c58_8 : Code := kR c58_6
noncomputable def c58_9 : Code := kL c58_8
noncomputable def c58_10 : Code := kL c58_9
noncomputable def r58_4 : Array Oper := kO c58_10
noncomputable def o58_4_0 : Oper := opN r58_4 0
noncomputable def o58_4_1 : Oper := opN r58_4 1
noncomputable def o58_4_2 : Oper := opN r58_4 2
theorem x58_10 : execA E C (fg 58) B 73 E0 N c58_10 s = regX (runA E C B 73 r58_4 r58_4.toList s) (fun s => gcM E0 [] (forget s.1 [], s.2)) := x_reg (ops := r58_4) (by rfl) (by rfl) s
theorem r58_4_l : r58_4.toList = [o58_4_0, o58_4_1, o58_4_2] := nrfl rfl
theorem s58_4_0 : stepA E C B 73 r58_4 o58_4_0 (φ, H) = some (fput φ 19 (fget φ 5), H) := nrfl rfl
theorem s58_4_1 : stepA E C B 73 r58_4 o58_4_1 (φ, H) = stp (some 20) φ H (aBuiltin E.T (B + 20) .len #[22] [(fget φ 19)]) := nrfl rfl
theorem s58_4_2 : stepA E C B 73 r58_4 o58_4_2 (φ, H) = some (fput φ 21 (.int .i64 0), H) := nrfl rfl
noncomputable def c58_11 : Code := kR c58_9
noncomputable def c58_12 : Code := kB c58_11
noncomputable def c58_13 : Code := kB c58_12
noncomputable def c58_14 : Code := kL c58_13
noncomputable def r58_5 : Array Oper := kO c58_14
noncomputable def o58_5_0 : Oper := opN r58_5 0
theorem x58_14 : execA E C (fg 58) B 73 E0 N c58_14 s = regX (runA E C B 73 r58_5 r58_5.toList s) (fun s => gcM E0 [] (forget s.1 [], s.2)) := x_reg (ops := r58_5) (by rfl) (by rfl) s
theorem r58_5_l : r58_5.toList = [o58_5_0] := nrfl rfl
theorem s58_5_0 : stepA E C B 73 r58_5 o58_5_0 (φ, H) = stp (some 22) φ H (just (aBin E.T .lss 3 (fget φ 21) (fget φ 20))) := nrfl rfl
noncomputable def c58_15 : Code := kR c58_13
noncomputable def c58_16 : Code := kL c58_15
noncomputable def c58_17 : Code := kT c58_16
theorem x58_17 : execA E C (fg 58) B 73 E0 N c58_17 s = some (.normal, s) := x_skip (by rfl) s
noncomputable def c58_18 : Code := kE c58_16
theorem x58_18 : execA E C (fg 58) B 73 E0 N c58_18 s = some (.exit 0, s) := x_exit (by rfl) s
theorem x58_16 : execA E C (fg 58) B 73 E0 N c58_16 (φ, H) = condX (fget φ 22) (execA E C (fg 58) B 73 E0 N c58_17 (φ, H)) (execA E C (fg 58) B 73 E0 N c58_18 (φ, H)) := x_cond (by rfl) _
noncomputable def c58_19 : Code := kR c58_15
noncomputable def c58_20 : Code := kL c58_19
noncomputable def c58_21 : Code := kB c58_20
noncomputable def c58_22 : Code := kL c58_21
noncomputable def r58_6 : Array Oper := kO c58_22
noncomputable def o58_6_0 : Oper := opN r58_6 0
noncomputable def o58_6_1 : Oper := opN r58_6 1
noncomputable def o58_6_2 : Oper := opN r58_6 2
noncomputable def o58_6_3 : Oper := opN r58_6 3
theorem x58_22 : execA E C (fg 58) B 73 E0 N c58_22 s = regX (runA E C B 73 r58_6 r58_6.toList s) (fun s => gcM E0 [22, 23, 24] (forget s.1 [22, 23, 24], s.2)) := x_reg (ops := r58_6) (by rfl) (by rfl) s
theorem r58_6_l : r58_6.toList = [o58_6_0, o58_6_1, o58_6_2, o58_6_3] := nrfl rfl
theorem s58_6_0 : stepA E C B 73 r58_6 o58_6_0 (φ, H) = stp (some 23) φ H (just (aIndexAddr E.T 22 (fget φ 19) (fget φ 21))) := nrfl rfl
theorem s58_6_1 : stepA E C B 73 r58_6 o58_6_1 (φ, H) = stp (some 24) φ H (just (aLoad E.T 45 (fget φ 23))) := nrfl rfl
theorem s58_6_2 : stepA E C B 73 r58_6 o58_6_2 (φ, H) = stp (some 9) φ H (opBox (B + 9) (zeroCells E.T 45)) := nrfl rfl
theorem s58_6_3 : stepA E C B 73 r58_6 o58_6_3 (φ, H) = stp none φ H (opStore E.T 45 (fget φ 9) (fget φ 24)) := nrfl rfl
noncomputable def c58_23 : Code := kR c58_21
noncomputable def c58_24 : Code := kL c58_23
noncomputable def r58_7 : Array Oper := kO c58_24
noncomputable def o58_7_0 : Oper := opN r58_7 0
noncomputable def o58_7_1 : Oper := opN r58_7 1
noncomputable def o58_7_2 : Oper := opN r58_7 2
noncomputable def o58_7_3 : Oper := opN r58_7 3
noncomputable def o58_7_4 : Oper := opN r58_7 4
noncomputable def o58_7_5 : Oper := opN r58_7 5
noncomputable def o58_7_6 : Oper := opN r58_7 6
noncomputable def o58_7_7 : Oper := opN r58_7 7
theorem x58_24 : execA E C (fg 58) B 73 E0 N c58_24 s = regX (runA E C B 73 r58_7 r58_7.toList s) (fun s => gcM E0 [25, 26, 27, 28, 29, 30, 31] (forget s.1 [25, 26, 27, 28, 29, 30, 31], s.2)) := x_reg (ops := r58_7) (by rfl) (by rfl) s
theorem r58_7_l : r58_7.toList = [o58_7_0, o58_7_1, o58_7_2, o58_7_3, o58_7_4, o58_7_5, o58_7_6, o58_7_7] := nrfl rfl
theorem s58_7_0 : stepA E C B 73 r58_7 o58_7_0 (φ, H) = some (fput φ 25 (fget φ 6), H) := nrfl rfl
theorem s58_7_1 : stepA E C B 73 r58_7 o58_7_1 (φ, H) = stp (some 26) φ H (just (aFieldAddr E.T 45 (fget φ 9) 2)) := nrfl rfl
theorem s58_7_2 : stepA E C B 73 r58_7 o58_7_2 (φ, H) = stp (some 27) φ H (just (aLoad E.T 3 (fget φ 26))) := nrfl rfl
theorem s58_7_3 : stepA E C B 73 r58_7 o58_7_3 (φ, H) = stp (some 28) φ H (just (aFieldAddr E.T 45 (fget φ 9) 1)) := nrfl rfl
theorem s58_7_4 : stepA E C B 73 r58_7 o58_7_4 (φ, H) = stp (some 29) φ H (just (aLoad E.T 3 (fget φ 28))) := nrfl rfl
theorem s58_7_5 : stepA E C B 73 r58_7 o58_7_5 (φ, H) = stp (some 30) φ H (just (aBin E.T .mul 3 (fget φ 27) (fget φ 29))) := nrfl rfl
theorem s58_7_6 : stepA E C B 73 r58_7 o58_7_6 (φ, H) = stp (some 31) φ H (just (aBin E.T .add 3 (fget φ 25) (fget φ 30))) := nrfl rfl
theorem s58_7_7 : stepA E C B 73 r58_7 o58_7_7 (φ, H) = some (fput φ 6 (fget φ 31), H) := nrfl rfl
noncomputable def c58_25 : Code := kR c58_23
noncomputable def r58_8 : Array Oper := kO c58_25
noncomputable def o58_8_0 : Oper := opN r58_8 0
noncomputable def o58_8_1 : Oper := opN r58_8 1
noncomputable def o58_8_2 : Oper := opN r58_8 2
noncomputable def o58_8_3 : Oper := opN r58_8 3
noncomputable def o58_8_4 : Oper := opN r58_8 4
theorem x58_25 : execA E C (fg 58) B 73 E0 N c58_25 s = regX (runA E C B 73 r58_8 r58_8.toList s) (fun s => gcM E0 [9, 32, 33, 34, 35] (forget s.1 [9, 32, 33, 34, 35], s.2)) := x_reg (ops := r58_8) (by rfl) (by rfl) s
theorem r58_8_l : r58_8.toList = [o58_8_0, o58_8_1, o58_8_2, o58_8_3, o58_8_4] := nrfl rfl
theorem s58_8_0 : stepA E C B 73 r58_8 o58_8_0 (φ, H) = some (fput φ 32 (fget φ 7), H) := nrfl rfl
theorem s58_8_1 : stepA E C B 73 r58_8 o58_8_1 (φ, H) = stp (some 33) φ H (just (aFieldAddr E.T 45 (fget φ 9) 2)) := nrfl rfl
theorem s58_8_2 : stepA E C B 73 r58_8 o58_8_2 (φ, H) = stp (some 34) φ H (just (aLoad E.T 3 (fget φ 33))) := nrfl rfl
theorem s58_8_3 : stepA E C B 73 r58_8 o58_8_3 (φ, H) = stp (some 35) φ H (just (aBin E.T .add 3 (fget φ 32) (fget φ 34))) := nrfl rfl
theorem s58_8_4 : stepA E C B 73 r58_8 o58_8_4 (φ, H) = some (fput φ 7 (fget φ 35), H) := nrfl rfl
theorem x58_23 : execA E C (fg 58) B 73 E0 N c58_23 s = seqX (execA E C (fg 58) B 73 E0 N c58_24 s) (execA E C (fg 58) B 73 E0 N c58_25) := x_seq (by rfl) s
theorem x58_21 : execA E C (fg 58) B 73 E0 N c58_21 s = seqX (execA E C (fg 58) B 73 E0 N c58_22 s) (execA E C (fg 58) B 73 E0 N c58_23) := x_seq (by rfl) s
theorem x58_20 : execA E C (fg 58) B 73 E0 N c58_20 s = blockX 1 (fun s => (forget s.1 [], s.2)) (execA E C (fg 58) B 73 E0 N c58_21 s) := x_block (by rfl) (by rfl) s
noncomputable def c58_26 : Code := kR c58_19
noncomputable def r58_9 : Array Oper := kO c58_26
noncomputable def o58_9_0 : Oper := opN r58_9 0
noncomputable def o58_9_1 : Oper := opN r58_9 1
theorem x58_26 : execA E C (fg 58) B 73 E0 N c58_26 s = regX (runA E C B 73 r58_9 r58_9.toList s) (fun s => gcM E0 [36] (forget s.1 [36], s.2)) := x_reg (ops := r58_9) (by rfl) (by rfl) s
theorem r58_9_l : r58_9.toList = [o58_9_0, o58_9_1] := nrfl rfl
theorem s58_9_0 : stepA E C B 73 r58_9 o58_9_0 (φ, H) = stp (some 36) φ H (just (aBin E.T .add 3 (fget φ 21) (.int .i64 1))) := nrfl rfl
theorem s58_9_1 : stepA E C B 73 r58_9 o58_9_1 (φ, H) = some (fput φ 21 (fget φ 36), H) := nrfl rfl
theorem x58_19 : execA E C (fg 58) B 73 E0 N c58_19 s = seqX (execA E C (fg 58) B 73 E0 N c58_20 s) (execA E C (fg 58) B 73 E0 N c58_26) := x_seq (by rfl) s
theorem x58_15 : execA E C (fg 58) B 73 E0 N c58_15 s = seqX (execA E C (fg 58) B 73 E0 N c58_16 s) (execA E C (fg 58) B 73 E0 N c58_19) := x_seq (by rfl) s
theorem x58_13 : execA E C (fg 58) B 73 E0 N c58_13 s = seqX (execA E C (fg 58) B 73 E0 N c58_14 s) (execA E C (fg 58) B 73 E0 N c58_15) := x_seq (by rfl) s
theorem x58_12 : execA E C (fg 58) B 73 E0 N c58_12 s = iterA (execA E C (fg 58) B 73 E0 N c58_13) (headA E0) N s := x_loop (by rfl) s
theorem x58_11 : execA E C (fg 58) B 73 E0 N c58_11 s = blockX 0 (fun s => (forget s.1 [19, 20, 21, 22], s.2)) (execA E C (fg 58) B 73 E0 N c58_12 s) := x_block (by rfl) (by rfl) s
theorem x58_9 : execA E C (fg 58) B 73 E0 N c58_9 s = seqX (execA E C (fg 58) B 73 E0 N c58_10 s) (execA E C (fg 58) B 73 E0 N c58_11) := x_seq (by rfl) s
noncomputable def c58_27 : Code := kR c58_8
noncomputable def c58_28 : Code := kL c58_27
noncomputable def c58_29 : Code := kL c58_28
noncomputable def r58_10 : Array Oper := kO c58_29
noncomputable def o58_10_0 : Oper := opN r58_10 0
noncomputable def o58_10_1 : Oper := opN r58_10 1
noncomputable def o58_10_2 : Oper := opN r58_10 2
theorem x58_29 : execA E C (fg 58) B 73 E0 N c58_29 s = regX (runA E C B 73 r58_10 r58_10.toList s) (fun s => gcM E0 [5] (forget s.1 [5], s.2)) := x_reg (ops := r58_10) (by rfl) (by rfl) s
theorem r58_10_l : r58_10.toList = [o58_10_0, o58_10_1, o58_10_2] := nrfl rfl
theorem s58_10_0 : stepA E C B 73 r58_10 o58_10_0 (φ, H) = some (fput φ 37 (fget φ 5), H) := nrfl rfl
theorem s58_10_1 : stepA E C B 73 r58_10 o58_10_1 (φ, H) = stp (some 38) φ H (aBuiltin E.T (B + 38) .len #[22] [(fget φ 37)]) := nrfl rfl
theorem s58_10_2 : stepA E C B 73 r58_10 o58_10_2 (φ, H) = some (fput φ 39 (.int .i64 0), H) := nrfl rfl
noncomputable def c58_30 : Code := kR c58_28
noncomputable def c58_31 : Code := kB c58_30
noncomputable def c58_32 : Code := kB c58_31
noncomputable def c58_33 : Code := kL c58_32
noncomputable def r58_11 : Array Oper := kO c58_33
noncomputable def o58_11_0 : Oper := opN r58_11 0
theorem x58_33 : execA E C (fg 58) B 73 E0 N c58_33 s = regX (runA E C B 73 r58_11 r58_11.toList s) (fun s => gcM E0 [] (forget s.1 [], s.2)) := x_reg (ops := r58_11) (by rfl) (by rfl) s
theorem r58_11_l : r58_11.toList = [o58_11_0] := nrfl rfl
theorem s58_11_0 : stepA E C B 73 r58_11 o58_11_0 (φ, H) = stp (some 40) φ H (just (aBin E.T .lss 3 (fget φ 39) (fget φ 38))) := nrfl rfl
noncomputable def c58_34 : Code := kR c58_32
noncomputable def c58_35 : Code := kL c58_34
noncomputable def c58_36 : Code := kT c58_35
theorem x58_36 : execA E C (fg 58) B 73 E0 N c58_36 s = some (.normal, s) := x_skip (by rfl) s
noncomputable def c58_37 : Code := kE c58_35
theorem x58_37 : execA E C (fg 58) B 73 E0 N c58_37 s = some (.exit 2, s) := x_exit (by rfl) s
theorem x58_35 : execA E C (fg 58) B 73 E0 N c58_35 (φ, H) = condX (fget φ 40) (execA E C (fg 58) B 73 E0 N c58_36 (φ, H)) (execA E C (fg 58) B 73 E0 N c58_37 (φ, H)) := x_cond (by rfl) _
noncomputable def c58_38 : Code := kR c58_34
noncomputable def c58_39 : Code := kL c58_38
noncomputable def c58_40 : Code := kB c58_39
noncomputable def c58_41 : Code := kL c58_40
noncomputable def r58_12 : Array Oper := kO c58_41
noncomputable def o58_12_0 : Oper := opN r58_12 0
noncomputable def o58_12_1 : Oper := opN r58_12 1
noncomputable def o58_12_2 : Oper := opN r58_12 2
noncomputable def o58_12_3 : Oper := opN r58_12 3
theorem x58_41 : execA E C (fg 58) B 73 E0 N c58_41 s = regX (runA E C B 73 r58_12 r58_12.toList s) (fun s => gcM E0 [40, 41, 42] (forget s.1 [40, 41, 42], s.2)) := x_reg (ops := r58_12) (by rfl) (by rfl) s
theorem r58_12_l : r58_12.toList = [o58_12_0, o58_12_1, o58_12_2, o58_12_3] := nrfl rfl
theorem s58_12_0 : stepA E C B 73 r58_12 o58_12_0 (φ, H) = stp (some 41) φ H (just (aIndexAddr E.T 22 (fget φ 37) (fget φ 39))) := nrfl rfl
theorem s58_12_1 : stepA E C B 73 r58_12 o58_12_1 (φ, H) = stp (some 42) φ H (just (aLoad E.T 45 (fget φ 41))) := nrfl rfl
theorem s58_12_2 : stepA E C B 73 r58_12 o58_12_2 (φ, H) = stp (some 11) φ H (opBox (B + 11) (zeroCells E.T 45)) := nrfl rfl
theorem s58_12_3 : stepA E C B 73 r58_12 o58_12_3 (φ, H) = stp none φ H (opStore E.T 45 (fget φ 11) (fget φ 42)) := nrfl rfl
noncomputable def c58_42 : Code := kR c58_40
noncomputable def c58_43 : Code := kL c58_42
noncomputable def r58_13 : Array Oper := kO c58_43
noncomputable def o58_13_0 : Oper := opN r58_13 0
noncomputable def o58_13_1 : Oper := opN r58_13 1
noncomputable def o58_13_2 : Oper := opN r58_13 2
noncomputable def o58_13_3 : Oper := opN r58_13 3
noncomputable def o58_13_4 : Oper := opN r58_13 4
noncomputable def o58_13_5 : Oper := opN r58_13 5
noncomputable def o58_13_6 : Oper := opN r58_13 6
noncomputable def o58_13_7 : Oper := opN r58_13 7
noncomputable def o58_13_8 : Oper := opN r58_13 8
theorem x58_43 : execA E C (fg 58) B 73 E0 N c58_43 s = regX (runA E C B 73 r58_13 r58_13.toList s) (fun s => gcM E0 [43, 44, 45, 46, 47, 48, 49, 50] (forget s.1 [43, 44, 45, 46, 47, 48, 49, 50], s.2)) := x_reg (ops := r58_13) (by rfl) (by rfl) s
theorem r58_13_l : r58_13.toList = [o58_13_0, o58_13_1, o58_13_2, o58_13_3, o58_13_4, o58_13_5, o58_13_6, o58_13_7, o58_13_8] := nrfl rfl
theorem s58_13_0 : stepA E C B 73 r58_13 o58_13_0 (φ, H) = stp (some 43) φ H (just (aLoad E.T 3 (fget φ 3))) := nrfl rfl
theorem s58_13_1 : stepA E C B 73 r58_13 o58_13_1 (φ, H) = stp (some 44) φ H (just (aFieldAddr E.T 45 (fget φ 11) 1)) := nrfl rfl
theorem s58_13_2 : stepA E C B 73 r58_13 o58_13_2 (φ, H) = stp (some 45) φ H (just (aLoad E.T 3 (fget φ 44))) := nrfl rfl
theorem s58_13_3 : stepA E C B 73 r58_13 o58_13_3 (φ, H) = some (fput φ 46 (fget φ 7), H) := nrfl rfl
theorem s58_13_4 : stepA E C B 73 r58_13 o58_13_4 (φ, H) = stp (some 47) φ H (just (aBin E.T .mul 3 (fget φ 45) (fget φ 46))) := nrfl rfl
theorem s58_13_5 : stepA E C B 73 r58_13 o58_13_5 (φ, H) = some (fput φ 48 (fget φ 6), H) := nrfl rfl
theorem s58_13_6 : stepA E C B 73 r58_13 o58_13_6 (φ, H) = stp (some 49) φ H (just (aBin E.T .sub 3 (fget φ 47) (fget φ 48))) := nrfl rfl
theorem s58_13_7 : stepA E C B 73 r58_13 o58_13_7 (φ, H) = stp (some 50) φ H (just (aBin E.T .mul 3 (fget φ 43) (fget φ 49))) := nrfl rfl
theorem s58_13_8 : stepA E C B 73 r58_13 o58_13_8 (φ, H) = stp (some 51) φ H (just (aBin E.T .gtr 3 (fget φ 50) (.int .i64 0))) := nrfl rfl
noncomputable def c58_44 : Code := kR c58_42
noncomputable def c58_45 : Code := kT c58_44
noncomputable def c58_46 : Code := kL c58_45
noncomputable def r58_14 : Array Oper := kO c58_46
noncomputable def o58_14_0 : Oper := opN r58_14 0
noncomputable def o58_14_1 : Oper := opN r58_14 1
noncomputable def o58_14_2 : Oper := opN r58_14 2
noncomputable def o58_14_3 : Oper := opN r58_14 3
noncomputable def o58_14_4 : Oper := opN r58_14 4
noncomputable def o58_14_5 : Oper := opN r58_14 5
noncomputable def o58_14_6 : Oper := opN r58_14 6
noncomputable def o58_14_7 : Oper := opN r58_14 7
noncomputable def o58_14_8 : Oper := opN r58_14 8
noncomputable def o58_14_9 : Oper := opN r58_14 9
noncomputable def o58_14_10 : Oper := opN r58_14 10
theorem x58_46 : execA E C (fg 58) B 73 E0 N c58_46 s = regX (runA E C B 73 r58_14 r58_14.toList s) (fun s => gcM E0 [51, 52, 53, 54, 55, 56, 57, 58, 59, 60, 61] (forget s.1 [51, 52, 53, 54, 55, 56, 57, 58, 59, 60, 61], s.2)) := x_reg (ops := r58_14) (by rfl) (by rfl) s
theorem r58_14_l : r58_14.toList = [o58_14_0, o58_14_1, o58_14_2, o58_14_3, o58_14_4, o58_14_5, o58_14_6, o58_14_7, o58_14_8, o58_14_9, o58_14_10] := nrfl rfl
theorem s58_14_0 : stepA E C B 73 r58_14 o58_14_0 (φ, H) = some (fput φ 52 (fget φ 6), H) := nrfl rfl
theorem s58_14_1 : stepA E C B 73 r58_14 o58_14_1 (φ, H) = stp (some 53) φ H (just (aFieldAddr E.T 45 (fget φ 11) 3)) := nrfl rfl
theorem s58_14_2 : stepA E C B 73 r58_14 o58_14_2 (φ, H) = stp (some 54) φ H (just (aLoad E.T 3 (fget φ 53))) := nrfl rfl
theorem s58_14_3 : stepA E C B 73 r58_14 o58_14_3 (φ, H) = stp (some 55) φ H (just (aFieldAddr E.T 45 (fget φ 11) 2)) := nrfl rfl
theorem s58_14_4 : stepA E C B 73 r58_14 o58_14_4 (φ, H) = stp (some 56) φ H (just (aLoad E.T 3 (fget φ 55))) := nrfl rfl
theorem s58_14_5 : stepA E C B 73 r58_14 o58_14_5 (φ, H) = stp (some 57) φ H (just (aBin E.T .sub 3 (fget φ 54) (fget φ 56))) := nrfl rfl
theorem s58_14_6 : stepA E C B 73 r58_14 o58_14_6 (φ, H) = stp (some 58) φ H (just (aFieldAddr E.T 45 (fget φ 11) 1)) := nrfl rfl
theorem s58_14_7 : stepA E C B 73 r58_14 o58_14_7 (φ, H) = stp (some 59) φ H (just (aLoad E.T 3 (fget φ 58))) := nrfl rfl
theorem s58_14_8 : stepA E C B 73 r58_14 o58_14_8 (φ, H) = stp (some 60) φ H (just (aBin E.T .mul 3 (fget φ 57) (fget φ 59))) := nrfl rfl
theorem s58_14_9 : stepA E C B 73 r58_14 o58_14_9 (φ, H) = stp (some 61) φ H (just (aBin E.T .add 3 (fget φ 52) (fget φ 60))) := nrfl rfl
theorem s58_14_10 : stepA E C B 73 r58_14 o58_14_10 (φ, H) = some (fput φ 6 (fget φ 61), H) := nrfl rfl
noncomputable def c58_47 : Code := kR c58_45
noncomputable def r58_15 : Array Oper := kO c58_47
noncomputable def o58_15_0 : Oper := opN r58_15 0
noncomputable def o58_15_1 : Oper := opN r58_15 1
noncomputable def o58_15_2 : Oper := opN r58_15 2
noncomputable def o58_15_3 : Oper := opN r58_15 3
noncomputable def o58_15_4 : Oper := opN r58_15 4
noncomputable def o58_15_5 : Oper := opN r58_15 5
noncomputable def o58_15_6 : Oper := opN r58_15 6
noncomputable def o58_15_7 : Oper := opN r58_15 7
theorem x58_47 : execA E C (fg 58) B 73 E0 N c58_47 s = regX (runA E C B 73 r58_15 r58_15.toList s) (fun s => gcM E0 [11, 62, 63, 64, 65, 66, 67, 68] (forget s.1 [11, 62, 63, 64, 65, 66, 67, 68], s.2)) := x_reg (ops := r58_15) (by rfl) (by rfl) s
theorem r58_15_l : r58_15.toList = [o58_15_0, o58_15_1, o58_15_2, o58_15_3, o58_15_4, o58_15_5, o58_15_6, o58_15_7] := nrfl rfl
theorem s58_15_0 : stepA E C B 73 r58_15 o58_15_0 (φ, H) = some (fput φ 62 (fget φ 7), H) := nrfl rfl
theorem s58_15_1 : stepA E C B 73 r58_15 o58_15_1 (φ, H) = stp (some 63) φ H (just (aFieldAddr E.T 45 (fget φ 11) 3)) := nrfl rfl
theorem s58_15_2 : stepA E C B 73 r58_15 o58_15_2 (φ, H) = stp (some 64) φ H (just (aLoad E.T 3 (fget φ 63))) := nrfl rfl
theorem s58_15_3 : stepA E C B 73 r58_15 o58_15_3 (φ, H) = stp (some 65) φ H (just (aFieldAddr E.T 45 (fget φ 11) 2)) := nrfl rfl
theorem s58_15_4 : stepA E C B 73 r58_15 o58_15_4 (φ, H) = stp (some 66) φ H (just (aLoad E.T 3 (fget φ 65))) := nrfl rfl
theorem s58_15_5 : stepA E C B 73 r58_15 o58_15_5 (φ, H) = stp (some 67) φ H (just (aBin E.T .sub 3 (fget φ 64) (fget φ 66))) := nrfl rfl
theorem s58_15_6 : stepA E C B 73 r58_15 o58_15_6 (φ, H) = stp (some 68) φ H (just (aBin E.T .add 3 (fget φ 62) (fget φ 67))) := nrfl rfl
theorem s58_15_7 : stepA E C B 73 r58_15 o58_15_7 (φ, H) = some (fput φ 7 (fget φ 68), H) := nrfl rfl
theorem x58_45 : execA E C (fg 58) B 73 E0 N c58_45 s = seqX (execA E C (fg 58) B 73 E0 N c58_46 s) (execA E C (fg 58) B 73 E0 N c58_47) := x_seq (by rfl) s
noncomputable def c58_48 : Code := kE c58_44
theorem x58_48 : execA E C (fg 58) B 73 E0 N c58_48 s = some (.normal, s) := x_skip (by rfl) s
theorem x58_44 : execA E C (fg 58) B 73 E0 N c58_44 (φ, H) = condX (fget φ 51) (execA E C (fg 58) B 73 E0 N c58_45 (φ, H)) (execA E C (fg 58) B 73 E0 N c58_48 (φ, H)) := x_cond (by rfl) _
theorem x58_42 : execA E C (fg 58) B 73 E0 N c58_42 s = seqX (execA E C (fg 58) B 73 E0 N c58_43 s) (execA E C (fg 58) B 73 E0 N c58_44) := x_seq (by rfl) s
theorem x58_40 : execA E C (fg 58) B 73 E0 N c58_40 s = seqX (execA E C (fg 58) B 73 E0 N c58_41 s) (execA E C (fg 58) B 73 E0 N c58_42) := x_seq (by rfl) s
theorem x58_39 : execA E C (fg 58) B 73 E0 N c58_39 s = blockX 3 (fun s => (forget s.1 [11, 51], s.2)) (execA E C (fg 58) B 73 E0 N c58_40 s) := x_block (by rfl) (by rfl) s
noncomputable def c58_49 : Code := kR c58_38
noncomputable def r58_16 : Array Oper := kO c58_49
noncomputable def o58_16_0 : Oper := opN r58_16 0
noncomputable def o58_16_1 : Oper := opN r58_16 1
theorem x58_49 : execA E C (fg 58) B 73 E0 N c58_49 s = regX (runA E C B 73 r58_16 r58_16.toList s) (fun s => gcM E0 [69] (forget s.1 [69], s.2)) := x_reg (ops := r58_16) (by rfl) (by rfl) s
theorem r58_16_l : r58_16.toList = [o58_16_0, o58_16_1] := nrfl rfl
theorem s58_16_0 : stepA E C B 73 r58_16 o58_16_0 (φ, H) = stp (some 69) φ H (just (aBin E.T .add 3 (fget φ 39) (.int .i64 1))) := nrfl rfl
theorem s58_16_1 : stepA E C B 73 r58_16 o58_16_1 (φ, H) = some (fput φ 39 (fget φ 69), H) := nrfl rfl
theorem x58_38 : execA E C (fg 58) B 73 E0 N c58_38 s = seqX (execA E C (fg 58) B 73 E0 N c58_39 s) (execA E C (fg 58) B 73 E0 N c58_49) := x_seq (by rfl) s
theorem x58_34 : execA E C (fg 58) B 73 E0 N c58_34 s = seqX (execA E C (fg 58) B 73 E0 N c58_35 s) (execA E C (fg 58) B 73 E0 N c58_38) := x_seq (by rfl) s
theorem x58_32 : execA E C (fg 58) B 73 E0 N c58_32 s = seqX (execA E C (fg 58) B 73 E0 N c58_33 s) (execA E C (fg 58) B 73 E0 N c58_34) := x_seq (by rfl) s
theorem x58_31 : execA E C (fg 58) B 73 E0 N c58_31 s = iterA (execA E C (fg 58) B 73 E0 N c58_32) (headA E0) N s := x_loop (by rfl) s
theorem x58_30 : execA E C (fg 58) B 73 E0 N c58_30 s = blockX 2 (fun s => (forget s.1 [3, 37, 38, 39, 40], s.2)) (execA E C (fg 58) B 73 E0 N c58_31 s) := x_block (by rfl) (by rfl) s
theorem x58_28 : execA E C (fg 58) B 73 E0 N c58_28 s = seqX (execA E C (fg 58) B 73 E0 N c58_29 s) (execA E C (fg 58) B 73 E0 N c58_30) := x_seq (by rfl) s
noncomputable def c58_50 : Code := kR c58_27
noncomputable def c58_51 : Code := kL c58_50
noncomputable def r58_17 : Array Oper := kO c58_51
noncomputable def o58_17_0 : Oper := opN r58_17 0
noncomputable def o58_17_1 : Oper := opN r58_17 1
noncomputable def o58_17_2 : Oper := opN r58_17 2
noncomputable def o58_17_3 : Oper := opN r58_17 3
theorem x58_51 : execA E C (fg 58) B 73 E0 N c58_51 s = regX (runA E C B 73 r58_17 r58_17.toList s) (fun s => gcM E0 [6, 7, 70, 71, 72] (forget s.1 [6, 7, 70, 71, 72], s.2)) := x_reg (ops := r58_17) (by rfl) (by rfl) s
theorem r58_17_l : r58_17.toList = [o58_17_0, o58_17_1, o58_17_2, o58_17_3] := nrfl rfl
theorem s58_17_0 : stepA E C B 73 r58_17 o58_17_0 (φ, H) = some (fput φ 70 (fget φ 6), H) := nrfl rfl
theorem s58_17_1 : stepA E C B 73 r58_17 o58_17_1 (φ, H) = some (fput φ 71 (fget φ 7), H) := nrfl rfl
theorem s58_17_2 : stepA E C B 73 r58_17 o58_17_2 (φ, H) = stp (some 72) φ H (aCall C (fun j => B + j * 73 + 72) true 61 [(fget φ 70), (fget φ 71)]) := nrfl rfl
theorem s58_17_3 : stepA E C B 73 r58_17 o58_17_3 (φ, H) = stp none φ H (opStore E.T 27 (fget φ 4) (fget φ 72)) := nrfl rfl
noncomputable def c58_52 : Code := kR c58_50
theorem x58_52 : execA E C (fg 58) B 73 E0 N c58_52 s = some (.ret, s) := x_ret (by rfl) s
theorem x58_50 : execA E C (fg 58) B 73 E0 N c58_50 s = seqX (execA E C (fg 58) B 73 E0 N c58_51 s) (execA E C (fg 58) B 73 E0 N c58_52) := x_seq (by rfl) s
theorem x58_27 : execA E C (fg 58) B 73 E0 N c58_27 s = seqX (execA E C (fg 58) B 73 E0 N c58_28 s) (execA E C (fg 58) B 73 E0 N c58_50) := x_seq (by rfl) s
theorem x58_8 : execA E C (fg 58) B 73 E0 N c58_8 s = seqX (execA E C (fg 58) B 73 E0 N c58_9 s) (execA E C (fg 58) B 73 E0 N c58_27) := x_seq (by rfl) s
theorem x58_6 : execA E C (fg 58) B 73 E0 N c58_6 s = seqX (execA E C (fg 58) B 73 E0 N c58_7 s) (execA E C (fg 58) B 73 E0 N c58_8) := x_seq (by rfl) s
theorem x58_4 : execA E C (fg 58) B 73 E0 N c58_4 s = seqX (execA E C (fg 58) B 73 E0 N c58_5 s) (execA E C (fg 58) B 73 E0 N c58_6) := x_seq (by rfl) s
theorem x58_2 : execA E C (fg 58) B 73 E0 N c58_2 s = seqX (execA E C (fg 58) B 73 E0 N c58_3 s) (execA E C (fg 58) B 73 E0 N c58_4) := x_seq (by rfl) s
theorem x58_0 : execA E C (fg 58) B 73 E0 N c58_0 s = seqX (execA E C (fg 58) B 73 E0 N c58_1 s) (execA E C (fg 58) B 73 E0 N c58_2) := x_seq (by rfl) s
theorem fi_58 : fInfo E 58 = some ⟨73, #[.cell 4 27], c58_0⟩ := nrfl rfl
theorem b_58 (args : List AV) : bodyA E C fg N 58 args H B = bodyX E [.cell 4 27] (execA E C (fg 58) B 73 H N c58_0 (frame0 args 0 [], H)) := bodyA_eq fi_58 args H
noncomputable def c60_0 : Code := kBody Proofs.Try.f60
noncomputable def c60_1 : Code := kL c60_0
noncomputable def r60_0 : Array Oper := kO c60_1
noncomputable def o60_0_0 : Oper := opN r60_0 0
noncomputable def o60_0_1 : Oper := opN r60_0 1
noncomputable def o60_0_2 : Oper := opN r60_0 2
theorem x60_1 : execA E C (fg 60) B 13 E0 N c60_1 s = regX (runA E C B 13 r60_0 r60_0.toList s) (fun s => gcM E0 [0, 1, 5] (forget s.1 [0, 1, 5], s.2)) := x_reg (ops := r60_0) (by rfl) (by rfl) s
theorem r60_0_l : r60_0.toList = [o60_0_0, o60_0_1, o60_0_2] := nrfl rfl
theorem s60_0_0 : stepA E C B 13 r60_0 o60_0_0 (φ, H) = stp (some 3) φ H (opBox (B + 3) (acells (fget φ 0))) := nrfl rfl
theorem s60_0_1 : stepA E C B 13 r60_0 o60_0_1 (φ, H) = stp (some 4) φ H (opBox (B + 4) (acells (fget φ 1))) := nrfl rfl
theorem s60_0_2 : stepA E C B 13 r60_0 o60_0_2 (φ, H) = some (fput φ 5 (.int .i64 0), H) := nrfl rfl
noncomputable def c60_2 : Code := kR c60_0
noncomputable def c60_3 : Code := kL c60_2
noncomputable def r60_1 : Array Oper := kO c60_3
noncomputable def o60_1_0 : Oper := opN r60_1 0
noncomputable def o60_1_1 : Oper := opN r60_1 1
noncomputable def o60_1_2 : Oper := opN r60_1 2
noncomputable def o60_1_3 : Oper := opN r60_1 3
noncomputable def o60_1_4 : Oper := opN r60_1 4
noncomputable def o60_1_5 : Oper := opN r60_1 5
noncomputable def o60_1_6 : Oper := opN r60_1 6
noncomputable def o60_1_7 : Oper := opN r60_1 7
theorem x60_3 : execA E C (fg 60) B 13 E0 N c60_3 s = regX (runA E C B 13 r60_1 r60_1.toList s) (fun s => gcM E0 [2, 3, 4, 6, 7, 8, 9, 10, 11, 12] (forget s.1 [2, 3, 4, 6, 7, 8, 9, 10, 11, 12], s.2)) := x_reg (ops := r60_1) (by rfl) (by rfl) s
theorem r60_1_l : r60_1.toList = [o60_1_0, o60_1_1, o60_1_2, o60_1_3, o60_1_4, o60_1_5, o60_1_6, o60_1_7] := nrfl rfl
theorem s60_1_0 : stepA E C B 13 r60_1 o60_1_0 (φ, H) = stp (some 6) φ H (just (aLoad E.T 3 (fget φ 2))) := nrfl rfl
theorem s60_1_1 : stepA E C B 13 r60_1 o60_1_1 (φ, H) = stp (some 7) φ H (just (aFieldAddr E.T 45 (fget φ 4) 1)) := nrfl rfl
theorem s60_1_2 : stepA E C B 13 r60_1 o60_1_2 (φ, H) = stp (some 8) φ H (just (aLoad E.T 3 (fget φ 7))) := nrfl rfl
theorem s60_1_3 : stepA E C B 13 r60_1 o60_1_3 (φ, H) = stp (some 9) φ H (just (aFieldAddr E.T 45 (fget φ 3) 1)) := nrfl rfl
theorem s60_1_4 : stepA E C B 13 r60_1 o60_1_4 (φ, H) = stp (some 10) φ H (just (aLoad E.T 3 (fget φ 9))) := nrfl rfl
theorem s60_1_5 : stepA E C B 13 r60_1 o60_1_5 (φ, H) = stp (some 11) φ H (just (aBin E.T .sub 3 (fget φ 8) (fget φ 10))) := nrfl rfl
theorem s60_1_6 : stepA E C B 13 r60_1 o60_1_6 (φ, H) = stp (some 12) φ H (just (aBin E.T .mul 3 (fget φ 6) (fget φ 11))) := nrfl rfl
theorem s60_1_7 : stepA E C B 13 r60_1 o60_1_7 (φ, H) = some (fput φ 5 (fget φ 12), H) := nrfl rfl
noncomputable def c60_4 : Code := kR c60_2
theorem x60_4 : execA E C (fg 60) B 13 E0 N c60_4 s = some (.ret, s) := x_ret (by rfl) s
theorem x60_2 : execA E C (fg 60) B 13 E0 N c60_2 s = seqX (execA E C (fg 60) B 13 E0 N c60_3 s) (execA E C (fg 60) B 13 E0 N c60_4) := x_seq (by rfl) s
theorem x60_0 : execA E C (fg 60) B 13 E0 N c60_0 s = seqX (execA E C (fg 60) B 13 E0 N c60_1 s) (execA E C (fg 60) B 13 E0 N c60_2) := x_seq (by rfl) s
theorem fi_60 : fInfo E 60 = some ⟨13, #[.tmp 5], c60_0⟩ := nrfl rfl
theorem b_60 (args : List AV) : bodyA E C fg N 60 args H B = bodyX E [.tmp 5] (execA E C (fg 60) B 13 H N c60_0 (frame0 args 0 [], H)) := bodyA_eq fi_60 args H
noncomputable def c59_0 : Code := kBody Proofs.Try.f59
noncomputable def c59_1 : Code := kL c59_0
noncomputable def r59_0 : Array Oper := kO c59_1
noncomputable def o59_0_0 : Oper := opN r59_0 0
noncomputable def o59_0_1 : Oper := opN r59_0 1
noncomputable def o59_0_2 : Oper := opN r59_0 2
theorem x59_1 : execA E C (fg 59) B 14 E0 N c59_1 s = regX (runA E C B 14 r59_0 r59_0.toList s) (fun s => gcM E0 [5, 6] (forget s.1 [5, 6], s.2)) := x_reg (ops := r59_0) (by rfl) (by rfl) s
theorem r59_0_l : r59_0.toList = [o59_0_0, o59_0_1, o59_0_2] := nrfl rfl
theorem s59_0_0 : stepA E C B 14 r59_0 o59_0_0 (φ, H) = some (fput φ 5 (fget φ 0), H) := nrfl rfl
theorem s59_0_1 : stepA E C B 14 r59_0 o59_0_1 (φ, H) = stp (some 6) φ H (aBuiltin E.T (B + 6) .len #[22] [(fget φ 5)]) := nrfl rfl
theorem s59_0_2 : stepA E C B 14 r59_0 o59_0_2 (φ, H) = some (fput φ 4 (fget φ 6), H) := nrfl rfl
noncomputable def c59_2 : Code := kR c59_0
noncomputable def r59_1 : Array Oper := kO c59_2
noncomputable def o59_1_0 : Oper := opN r59_1 0
noncomputable def o59_1_1 : Oper := opN r59_1 1
noncomputable def o59_1_2 : Oper := opN r59_1 2
noncomputable def o59_1_3 : Oper := opN r59_1 3
noncomputable def o59_1_4 : Oper := opN r59_1 4
noncomputable def o59_1_5 : Oper := opN r59_1 5
noncomputable def o59_1_6 : Oper := opN r59_1 6
theorem x59_2 : execA E C (fg 59) B 14 E0 N c59_2 s = regX (runA E C B 14 r59_1 r59_1.toList s) (fun s => gcM E0 [0, 1, 4, 7, 8, 9, 10, 11, 12, 13] (forget s.1 [0, 1, 4, 7, 8, 9, 10, 11, 12, 13], s.2)) := x_reg (ops := r59_1) (by rfl) (by rfl) s
theorem r59_1_l : r59_1.toList = [o59_1_0, o59_1_1, o59_1_2, o59_1_3, o59_1_4, o59_1_5, o59_1_6] := nrfl rfl
theorem s59_1_0 : stepA E C B 14 r59_1 o59_1_0 (φ, H) = some (fput φ 7 (fget φ 0), H) := nrfl rfl
theorem s59_1_1 : stepA E C B 14 r59_1 o59_1_1 (φ, H) = some (fput φ 8 (fget φ 4), H) := nrfl rfl
theorem s59_1_2 : stepA E C B 14 r59_1 o59_1_2 (φ, H) = some (fput φ 9 (fget φ 4), H) := nrfl rfl
theorem s59_1_3 : stepA E C B 14 r59_1 o59_1_3 (φ, H) = stp (some 10) φ H (justO (aConv E.T 3 146 (fget φ 9))) := nrfl rfl
theorem s59_1_4 : stepA E C B 14 r59_1 o59_1_4 (φ, H) = stp (some 11) φ H (aCall C (fun j => B + j * 14 + 11) true 95 [(fget φ 10)]) := nrfl rfl
theorem s59_1_5 : stepA E C B 14 r59_1 o59_1_5 (φ, H) = some (fput φ 12 (fget φ 1), H) := nrfl rfl
theorem s59_1_6 : stepA E C B 14 r59_1 o59_1_6 (φ, H) = mutX (some 13) φ (C 94 [(fget φ 7), (.int .i64 0), (fget φ 8), (fget φ 11), (fget φ 12)] H (B + 14 * 8)) := nrfl rfl
theorem x59_0 : execA E C (fg 59) B 14 E0 N c59_0 s = seqX (execA E C (fg 59) B 14 E0 N c59_1 s) (execA E C (fg 59) B 14 E0 N c59_2) := x_seq (by rfl) s
theorem fi_59 : fInfo E 59 = some ⟨14, #[], c59_0⟩ := nrfl rfl
theorem b_59 (args : List AV) : bodyA E C fg N 59 args H B = bodyX E [] (execA E C (fg 59) B 14 H N c59_0 (frame0 args 0 [], H)) := bodyA_eq fi_59 args H
noncomputable def c94_0 : Code := kBody Proofs.Try.f94
noncomputable def c94_1 : Code := kL c94_0
noncomputable def r94_0 : Array Oper := kO c94_1
noncomputable def o94_0_0 : Oper := opN r94_0 0
theorem x94_1 : execA E C (fg 94) B 148 E0 N c94_1 s = regX (runA E C B 148 r94_0 r94_0.toList s) (fun s => gcM E0 [] (forget s.1 [], s.2)) := x_reg (ops := r94_0) (by rfl) (by rfl) s
theorem r94_0_l : r94_0.toList = [o94_0_0] := nrfl rfl
theorem s94_0_0 : stepA E C B 148 r94_0 o94_0_0 (φ, H) = some (fput φ 10 (.bool true), H) := nrfl rfl
noncomputable def c94_2 : Code := kR c94_0
noncomputable def c94_3 : Code := kL c94_2
noncomputable def r94_1 : Array Oper := kO c94_3
noncomputable def o94_1_0 : Oper := opN r94_1 0
theorem x94_3 : execA E C (fg 94) B 148 E0 N c94_3 s = regX (runA E C B 148 r94_1 r94_1.toList s) (fun s => gcM E0 [] (forget s.1 [], s.2)) := x_reg (ops := r94_1) (by rfl) (by rfl) s
theorem r94_1_l : r94_1.toList = [o94_1_0] := nrfl rfl
theorem s94_1_0 : stepA E C B 148 r94_1 o94_1_0 (φ, H) = some (fput φ 11 (.bool true), H) := nrfl rfl
noncomputable def c94_4 : Code := kR c94_2
noncomputable def c94_5 : Code := kB c94_4
noncomputable def c94_6 : Code := kB c94_5
noncomputable def c94_7 : Code := kB c94_6
noncomputable def c94_8 : Code := kL c94_7
noncomputable def r94_2 : Array Oper := kO c94_8
noncomputable def o94_2_0 : Oper := opN r94_2 0
noncomputable def o94_2_1 : Oper := opN r94_2 1
noncomputable def o94_2_2 : Oper := opN r94_2 2
noncomputable def o94_2_3 : Oper := opN r94_2 3
theorem x94_8 : execA E C (fg 94) B 148 E0 N c94_8 s = regX (runA E C B 148 r94_2 r94_2.toList s) (fun s => gcM E0 [21, 22, 23] (forget s.1 [21, 22, 23], s.2)) := x_reg (ops := r94_2) (by rfl) (by rfl) s
theorem r94_2_l : r94_2.toList = [o94_2_0, o94_2_1, o94_2_2, o94_2_3] := nrfl rfl
theorem s94_2_0 : stepA E C B 148 r94_2 o94_2_0 (φ, H) = some (fput φ 21 (fget φ 2), H) := nrfl rfl
theorem s94_2_1 : stepA E C B 148 r94_2 o94_2_1 (φ, H) = some (fput φ 22 (fget φ 1), H) := nrfl rfl
theorem s94_2_2 : stepA E C B 148 r94_2 o94_2_2 (φ, H) = stp (some 23) φ H (just (aBin E.T .sub 3 (fget φ 21) (fget φ 22))) := nrfl rfl
theorem s94_2_3 : stepA E C B 148 r94_2 o94_2_3 (φ, H) = some (fput φ 12 (fget φ 23), H) := nrfl rfl
noncomputable def c94_9 : Code := kR c94_7
noncomputable def c94_10 : Code := kL c94_9
noncomputable def c94_11 : Code := kL c94_10
noncomputable def r94_3 : Array Oper := kO c94_11
noncomputable def o94_3_0 : Oper := opN r94_3 0
noncomputable def o94_3_1 : Oper := opN r94_3 1
theorem x94_11 : execA E C (fg 94) B 148 E0 N c94_11 s = regX (runA E C B 148 r94_3 r94_3.toList s) (fun s => gcM E0 [24] (forget s.1 [24], s.2)) := x_reg (ops := r94_3) (by rfl) (by rfl) s
theorem r94_3_l : r94_3.toList = [o94_3_0, o94_3_1] := nrfl rfl
theorem s94_3_0 : stepA E C B 148 r94_3 o94_3_0 (φ, H) = some (fput φ 24 (fget φ 12), H) := nrfl rfl
theorem s94_3_1 : stepA E C B 148 r94_3 o94_3_1 (φ, H) = stp (some 25) φ H (just (aBin E.T .leq 3 (fget φ 24) (.int .i64 12))) := nrfl rfl
noncomputable def c94_12 : Code := kR c94_10
noncomputable def c94_13 : Code := kT c94_12
noncomputable def c94_14 : Code := kL c94_13
noncomputable def r94_4 : Array Oper := kO c94_14
noncomputable def o94_4_0 : Oper := opN r94_4 0
noncomputable def o94_4_1 : Oper := opN r94_4 1
noncomputable def o94_4_2 : Oper := opN r94_4 2
noncomputable def o94_4_3 : Oper := opN r94_4 3
noncomputable def o94_4_4 : Oper := opN r94_4 4
theorem x94_14 : execA E C (fg 94) B 148 E0 N c94_14 s = regX (runA E C B 148 r94_4 r94_4.toList s) (fun s => gcM E0 [0, 1, 2, 3, 4, 10, 11, 12, 25, 26, 27, 28, 29, 30] (forget s.1 [0, 1, 2, 3, 4, 10, 11, 12, 25, 26, 27, 28, 29, 30], s.2)) := x_reg (ops := r94_4) (by rfl) (by rfl) s
theorem r94_4_l : r94_4.toList = [o94_4_0, o94_4_1, o94_4_2, o94_4_3, o94_4_4] := nrfl rfl
theorem s94_4_0 : stepA E C B 148 r94_4 o94_4_0 (φ, H) = some (fput φ 26 (fget φ 0), H) := nrfl rfl
theorem s94_4_1 : stepA E C B 148 r94_4 o94_4_1 (φ, H) = some (fput φ 27 (fget φ 1), H) := nrfl rfl
theorem s94_4_2 : stepA E C B 148 r94_4 o94_4_2 (φ, H) = some (fput φ 28 (fget φ 2), H) := nrfl rfl
theorem s94_4_3 : stepA E C B 148 r94_4 o94_4_3 (φ, H) = some (fput φ 29 (fget φ 4), H) := nrfl rfl
theorem s94_4_4 : stepA E C B 148 r94_4 o94_4_4 (φ, H) = mutX (some 30) φ (C 104 [(fget φ 26), (fget φ 27), (fget φ 28), (fget φ 29)] H (B + 148 * 8)) := nrfl rfl
noncomputable def c94_15 : Code := kR c94_13
theorem x94_15 : execA E C (fg 94) B 148 E0 N c94_15 s = some (.ret, s) := x_ret (by rfl) s
theorem x94_13 : execA E C (fg 94) B 148 E0 N c94_13 s = seqX (execA E C (fg 94) B 148 E0 N c94_14 s) (execA E C (fg 94) B 148 E0 N c94_15) := x_seq (by rfl) s
noncomputable def c94_16 : Code := kE c94_12
theorem x94_16 : execA E C (fg 94) B 148 E0 N c94_16 s = some (.normal, s) := x_skip (by rfl) s
theorem x94_12 : execA E C (fg 94) B 148 E0 N c94_12 (φ, H) = condX (fget φ 25) (execA E C (fg 94) B 148 E0 N c94_13 (φ, H)) (execA E C (fg 94) B 148 E0 N c94_16 (φ, H)) := x_cond (by rfl) _
theorem x94_10 : execA E C (fg 94) B 148 E0 N c94_10 s = seqX (execA E C (fg 94) B 148 E0 N c94_11 s) (execA E C (fg 94) B 148 E0 N c94_12) := x_seq (by rfl) s
noncomputable def c94_17 : Code := kR c94_9
noncomputable def c94_18 : Code := kL c94_17
noncomputable def c94_19 : Code := kL c94_18
noncomputable def r94_5 : Array Oper := kO c94_19
noncomputable def o94_5_0 : Oper := opN r94_5 0
noncomputable def o94_5_1 : Oper := opN r94_5 1
theorem x94_19 : execA E C (fg 94) B 148 E0 N c94_19 s = regX (runA E C B 148 r94_5 r94_5.toList s) (fun s => gcM E0 [25, 31] (forget s.1 [25, 31], s.2)) := x_reg (ops := r94_5) (by rfl) (by rfl) s
theorem r94_5_l : r94_5.toList = [o94_5_0, o94_5_1] := nrfl rfl
theorem s94_5_0 : stepA E C B 148 r94_5 o94_5_0 (φ, H) = some (fput φ 31 (fget φ 3), H) := nrfl rfl
theorem s94_5_1 : stepA E C B 148 r94_5 o94_5_1 (φ, H) = stp (some 32) φ H (just (aBin E.T .eql 3 (fget φ 31) (.int .i64 0))) := nrfl rfl
noncomputable def c94_20 : Code := kR c94_18
noncomputable def c94_21 : Code := kT c94_20
noncomputable def c94_22 : Code := kL c94_21
noncomputable def r94_6 : Array Oper := kO c94_22
noncomputable def o94_6_0 : Oper := opN r94_6 0
noncomputable def o94_6_1 : Oper := opN r94_6 1
noncomputable def o94_6_2 : Oper := opN r94_6 2
noncomputable def o94_6_3 : Oper := opN r94_6 3
noncomputable def o94_6_4 : Oper := opN r94_6 4
theorem x94_22 : execA E C (fg 94) B 148 E0 N c94_22 s = regX (runA E C B 148 r94_6 r94_6.toList s) (fun s => gcM E0 [0, 1, 2, 3, 4, 10, 11, 12, 32, 33, 34, 35, 36, 37] (forget s.1 [0, 1, 2, 3, 4, 10, 11, 12, 32, 33, 34, 35, 36, 37], s.2)) := x_reg (ops := r94_6) (by rfl) (by rfl) s
theorem r94_6_l : r94_6.toList = [o94_6_0, o94_6_1, o94_6_2, o94_6_3, o94_6_4] := nrfl rfl
theorem s94_6_0 : stepA E C B 148 r94_6 o94_6_0 (φ, H) = some (fput φ 33 (fget φ 0), H) := nrfl rfl
theorem s94_6_1 : stepA E C B 148 r94_6 o94_6_1 (φ, H) = some (fput φ 34 (fget φ 1), H) := nrfl rfl
theorem s94_6_2 : stepA E C B 148 r94_6 o94_6_2 (φ, H) = some (fput φ 35 (fget φ 2), H) := nrfl rfl
theorem s94_6_3 : stepA E C B 148 r94_6 o94_6_3 (φ, H) = some (fput φ 36 (fget φ 4), H) := nrfl rfl
theorem s94_6_4 : stepA E C B 148 r94_6 o94_6_4 (φ, H) = mutX (some 37) φ (C 105 [(fget φ 33), (fget φ 34), (fget φ 35), (fget φ 36)] H (B + 148 * 8)) := nrfl rfl
noncomputable def c94_23 : Code := kR c94_21
theorem x94_23 : execA E C (fg 94) B 148 E0 N c94_23 s = some (.ret, s) := x_ret (by rfl) s
theorem x94_21 : execA E C (fg 94) B 148 E0 N c94_21 s = seqX (execA E C (fg 94) B 148 E0 N c94_22 s) (execA E C (fg 94) B 148 E0 N c94_23) := x_seq (by rfl) s
noncomputable def c94_24 : Code := kE c94_20
theorem x94_24 : execA E C (fg 94) B 148 E0 N c94_24 s = some (.normal, s) := x_skip (by rfl) s
theorem x94_20 : execA E C (fg 94) B 148 E0 N c94_20 (φ, H) = condX (fget φ 32) (execA E C (fg 94) B 148 E0 N c94_21 (φ, H)) (execA E C (fg 94) B 148 E0 N c94_24 (φ, H)) := x_cond (by rfl) _
theorem x94_18 : execA E C (fg 94) B 148 E0 N c94_18 s = seqX (execA E C (fg 94) B 148 E0 N c94_19 s) (execA E C (fg 94) B 148 E0 N c94_20) := x_seq (by rfl) s
noncomputable def c94_25 : Code := kR c94_17
noncomputable def c94_26 : Code := kL c94_25
noncomputable def c94_27 : Code := kL c94_26
noncomputable def r94_7 : Array Oper := kO c94_27
noncomputable def o94_7_0 : Oper := opN r94_7 0
noncomputable def o94_7_1 : Oper := opN r94_7 1
theorem x94_27 : execA E C (fg 94) B 148 E0 N c94_27 s = regX (runA E C B 148 r94_7 r94_7.toList s) (fun s => gcM E0 [32, 38] (forget s.1 [32, 38], s.2)) := x_reg (ops := r94_7) (by rfl) (by rfl) s
theorem r94_7_l : r94_7.toList = [o94_7_0, o94_7_1] := nrfl rfl
theorem s94_7_0 : stepA E C B 148 r94_7 o94_7_0 (φ, H) = some (fput φ 38 (fget φ 10), H) := nrfl rfl
theorem s94_7_1 : stepA E C B 148 r94_7 o94_7_1 (φ, H) = stp (some 39) φ H (justO (aUn .not (fget φ 38))) := nrfl rfl
noncomputable def c94_28 : Code := kR c94_26
noncomputable def c94_29 : Code := kT c94_28
noncomputable def c94_30 : Code := kL c94_29
noncomputable def r94_8 : Array Oper := kO c94_30
noncomputable def o94_8_0 : Oper := opN r94_8 0
noncomputable def o94_8_1 : Oper := opN r94_8 1
noncomputable def o94_8_2 : Oper := opN r94_8 2
noncomputable def o94_8_3 : Oper := opN r94_8 3
noncomputable def o94_8_4 : Oper := opN r94_8 4
theorem x94_30 : execA E C (fg 94) B 148 E0 N c94_30 s = regX (runA E C B 148 r94_8 r94_8.toList s) (fun s => gcM E0 [39, 40, 41, 42, 43, 44] (forget s.1 [39, 40, 41, 42, 43, 44], s.2)) := x_reg (ops := r94_8) (by rfl) (by rfl) s
theorem r94_8_l : r94_8.toList = [o94_8_0, o94_8_1, o94_8_2, o94_8_3, o94_8_4] := nrfl rfl
theorem s94_8_0 : stepA E C B 148 r94_8 o94_8_0 (φ, H) = some (fput φ 40 (fget φ 0), H) := nrfl rfl
theorem s94_8_1 : stepA E C B 148 r94_8 o94_8_1 (φ, H) = some (fput φ 41 (fget φ 1), H) := nrfl rfl
theorem s94_8_2 : stepA E C B 148 r94_8 o94_8_2 (φ, H) = some (fput φ 42 (fget φ 2), H) := nrfl rfl
theorem s94_8_3 : stepA E C B 148 r94_8 o94_8_3 (φ, H) = some (fput φ 43 (fget φ 4), H) := nrfl rfl
theorem s94_8_4 : stepA E C B 148 r94_8 o94_8_4 (φ, H) = mutX (some 44) φ (C 106 [(fget φ 40), (fget φ 41), (fget φ 42), (fget φ 43)] H (B + 148 * 8)) := nrfl rfl
noncomputable def c94_31 : Code := kR c94_29
noncomputable def r94_9 : Array Oper := kO c94_31
noncomputable def o94_9_0 : Oper := opN r94_9 0
noncomputable def o94_9_1 : Oper := opN r94_9 1
noncomputable def o94_9_2 : Oper := opN r94_9 2
theorem x94_31 : execA E C (fg 94) B 148 E0 N c94_31 s = regX (runA E C B 148 r94_9 r94_9.toList s) (fun s => gcM E0 [45, 46] (forget s.1 [45, 46], s.2)) := x_reg (ops := r94_9) (by rfl) (by rfl) s
theorem r94_9_l : r94_9.toList = [o94_9_0, o94_9_1, o94_9_2] := nrfl rfl
theorem s94_9_0 : stepA E C B 148 r94_9 o94_9_0 (φ, H) = some (fput φ 45 (fget φ 3), H) := nrfl rfl
theorem s94_9_1 : stepA E C B 148 r94_9 o94_9_1 (φ, H) = stp (some 46) φ H (just (aBin E.T .sub 3 (fget φ 45) (.int .i64 1))) := nrfl rfl
theorem s94_9_2 : stepA E C B 148 r94_9 o94_9_2 (φ, H) = some (fput φ 3 (fget φ 46), H) := nrfl rfl
theorem x94_29 : execA E C (fg 94) B 148 E0 N c94_29 s = seqX (execA E C (fg 94) B 148 E0 N c94_30 s) (execA E C (fg 94) B 148 E0 N c94_31) := x_seq (by rfl) s
noncomputable def c94_32 : Code := kE c94_28
theorem x94_32 : execA E C (fg 94) B 148 E0 N c94_32 s = some (.normal, s) := x_skip (by rfl) s
theorem x94_28 : execA E C (fg 94) B 148 E0 N c94_28 (φ, H) = condX (fget φ 39) (execA E C (fg 94) B 148 E0 N c94_29 (φ, H)) (execA E C (fg 94) B 148 E0 N c94_32 (φ, H)) := x_cond (by rfl) _
theorem x94_26 : execA E C (fg 94) B 148 E0 N c94_26 s = seqX (execA E C (fg 94) B 148 E0 N c94_27 s) (execA E C (fg 94) B 148 E0 N c94_28) := x_seq (by rfl) s
noncomputable def c94_33 : Code := kR c94_25
noncomputable def c94_34 : Code := kL c94_33
noncomputable def r94_10 : Array Oper := kO c94_34
noncomputable def o94_10_0 : Oper := opN r94_10 0
noncomputable def o94_10_1 : Oper := opN r94_10 1
noncomputable def o94_10_2 : Oper := opN r94_10 2
noncomputable def o94_10_3 : Oper := opN r94_10 3
noncomputable def o94_10_4 : Oper := opN r94_10 4
noncomputable def o94_10_5 : Oper := opN r94_10 5
noncomputable def o94_10_6 : Oper := opN r94_10 6
noncomputable def o94_10_7 : Oper := opN r94_10 7
noncomputable def o94_10_8 : Oper := opN r94_10 8
noncomputable def o94_10_9 : Oper := opN r94_10 9
theorem x94_34 : execA E C (fg 94) B 148 E0 N c94_34 s = regX (runA E C B 148 r94_10 r94_10.toList s) (fun s => gcM E0 [39, 47, 48, 49, 50, 51, 52, 53, 54] (forget s.1 [39, 47, 48, 49, 50, 51, 52, 53, 54], s.2)) := x_reg (ops := r94_10) (by rfl) (by rfl) s
theorem r94_10_l : r94_10.toList = [o94_10_0, o94_10_1, o94_10_2, o94_10_3, o94_10_4, o94_10_5, o94_10_6, o94_10_7, o94_10_8, o94_10_9] := nrfl rfl
theorem s94_10_0 : stepA E C B 148 r94_10 o94_10_0 (φ, H) = some (fput φ 48 (fget φ 0), H) := nrfl rfl
theorem s94_10_1 : stepA E C B 148 r94_10 o94_10_1 (φ, H) = some (fput φ 49 (fget φ 1), H) := nrfl rfl
theorem s94_10_2 : stepA E C B 148 r94_10 o94_10_2 (φ, H) = some (fput φ 50 (fget φ 2), H) := nrfl rfl
theorem s94_10_3 : stepA E C B 148 r94_10 o94_10_3 (φ, H) = some (fput φ 51 (fget φ 4), H) := nrfl rfl
theorem s94_10_4 : stepA E C B 148 r94_10 o94_10_4 (φ, H) = mutX (some 52) φ (C 107 [(fget φ 48), (fget φ 49), (fget φ 50), (fget φ 51)] H (B + 148 * 8)) := nrfl rfl
theorem s94_10_5 : stepA E C B 148 r94_10 o94_10_5 (φ, H) = some (fput φ 47 (fget φ 52), H) := nrfl rfl
theorem s94_10_6 : stepA E C B 148 r94_10 o94_10_6 (φ, H) = stp (some 53) φ H (opExtract (fget φ 47) 0) := nrfl rfl
theorem s94_10_7 : stepA E C B 148 r94_10 o94_10_7 (φ, H) = stp (some 54) φ H (opExtract (fget φ 47) 1) := nrfl rfl
theorem s94_10_8 : stepA E C B 148 r94_10 o94_10_8 (φ, H) = some (fput φ 13 (fget φ 53), H) := nrfl rfl
theorem s94_10_9 : stepA E C B 148 r94_10 o94_10_9 (φ, H) = some (fput φ 14 (fget φ 54), H) := nrfl rfl
noncomputable def c94_35 : Code := kR c94_33
noncomputable def c94_36 : Code := kL c94_35
noncomputable def c94_37 : Code := kL c94_36
noncomputable def r94_11 : Array Oper := kO c94_37
noncomputable def o94_11_0 : Oper := opN r94_11 0
noncomputable def o94_11_1 : Oper := opN r94_11 1
theorem x94_37 : execA E C (fg 94) B 148 E0 N c94_37 s = regX (runA E C B 148 r94_11 r94_11.toList s) (fun s => gcM E0 [55] (forget s.1 [55], s.2)) := x_reg (ops := r94_11) (by rfl) (by rfl) s
theorem r94_11_l : r94_11.toList = [o94_11_0, o94_11_1] := nrfl rfl
theorem s94_11_0 : stepA E C B 148 r94_11 o94_11_0 (φ, H) = some (fput φ 55 (fget φ 14), H) := nrfl rfl
theorem s94_11_1 : stepA E C B 148 r94_11 o94_11_1 (φ, H) = stp (some 56) φ H (just (aBin E.T .eql 153 (fget φ 55) (.int .i64 2))) := nrfl rfl
noncomputable def c94_38 : Code := kR c94_36
noncomputable def c94_39 : Code := kT c94_38
noncomputable def c94_40 : Code := kL c94_39
noncomputable def r94_12 : Array Oper := kO c94_40
noncomputable def o94_12_0 : Oper := opN r94_12 0
noncomputable def o94_12_1 : Oper := opN r94_12 1
noncomputable def o94_12_2 : Oper := opN r94_12 2
noncomputable def o94_12_3 : Oper := opN r94_12 3
noncomputable def o94_12_4 : Oper := opN r94_12 4
theorem x94_40 : execA E C (fg 94) B 148 E0 N c94_40 s = regX (runA E C B 148 r94_12 r94_12.toList s) (fun s => gcM E0 [14, 56, 57, 58, 59, 60, 61] (forget s.1 [14, 56, 57, 58, 59, 60, 61], s.2)) := x_reg (ops := r94_12) (by rfl) (by rfl) s
theorem r94_12_l : r94_12.toList = [o94_12_0, o94_12_1, o94_12_2, o94_12_3, o94_12_4] := nrfl rfl
theorem s94_12_0 : stepA E C B 148 r94_12 o94_12_0 (φ, H) = some (fput φ 57 (fget φ 0), H) := nrfl rfl
theorem s94_12_1 : stepA E C B 148 r94_12 o94_12_1 (φ, H) = some (fput φ 58 (fget φ 1), H) := nrfl rfl
theorem s94_12_2 : stepA E C B 148 r94_12 o94_12_2 (φ, H) = some (fput φ 59 (fget φ 2), H) := nrfl rfl
theorem s94_12_3 : stepA E C B 148 r94_12 o94_12_3 (φ, H) = some (fput φ 60 (fget φ 4), H) := nrfl rfl
theorem s94_12_4 : stepA E C B 148 r94_12 o94_12_4 (φ, H) = mutX (some 61) φ (C 108 [(fget φ 57), (fget φ 58), (fget φ 59), (fget φ 60)] H (B + 148 * 8)) := nrfl rfl
noncomputable def c94_41 : Code := kR c94_39
noncomputable def c94_42 : Code := kL c94_41
noncomputable def r94_13 : Array Oper := kO c94_42
noncomputable def o94_13_0 : Oper := opN r94_13 0
noncomputable def o94_13_1 : Oper := opN r94_13 1
noncomputable def o94_13_2 : Oper := opN r94_13 2
noncomputable def o94_13_3 : Oper := opN r94_13 3
noncomputable def o94_13_4 : Oper := opN r94_13 4
noncomputable def o94_13_5 : Oper := opN r94_13 5
noncomputable def o94_13_6 : Oper := opN r94_13 6
theorem x94_42 : execA E C (fg 94) B 148 E0 N c94_42 s = regX (runA E C B 148 r94_13 r94_13.toList s) (fun s => gcM E0 [62, 63, 64, 65, 66, 67] (forget s.1 [62, 63, 64, 65, 66, 67], s.2)) := x_reg (ops := r94_13) (by rfl) (by rfl) s
theorem r94_13_l : r94_13.toList = [o94_13_0, o94_13_1, o94_13_2, o94_13_3, o94_13_4, o94_13_5, o94_13_6] := nrfl rfl
theorem s94_13_0 : stepA E C B 148 r94_13 o94_13_0 (φ, H) = some (fput φ 62 (fget φ 2), H) := nrfl rfl
theorem s94_13_1 : stepA E C B 148 r94_13 o94_13_1 (φ, H) = stp (some 63) φ H (just (aBin E.T .sub 3 (fget φ 62) (.int .i64 1))) := nrfl rfl
theorem s94_13_2 : stepA E C B 148 r94_13 o94_13_2 (φ, H) = some (fput φ 64 (fget φ 13), H) := nrfl rfl
theorem s94_13_3 : stepA E C B 148 r94_13 o94_13_3 (φ, H) = some (fput φ 65 (fget φ 1), H) := nrfl rfl
theorem s94_13_4 : stepA E C B 148 r94_13 o94_13_4 (φ, H) = stp (some 66) φ H (just (aBin E.T .sub 3 (fget φ 64) (fget φ 65))) := nrfl rfl
theorem s94_13_5 : stepA E C B 148 r94_13 o94_13_5 (φ, H) = stp (some 67) φ H (just (aBin E.T .sub 3 (fget φ 63) (fget φ 66))) := nrfl rfl
theorem s94_13_6 : stepA E C B 148 r94_13 o94_13_6 (φ, H) = some (fput φ 13 (fget φ 67), H) := nrfl rfl
noncomputable def c94_43 : Code := kR c94_41
noncomputable def r94_14 : Array Oper := kO c94_43
noncomputable def o94_14_0 : Oper := opN r94_14 0
theorem x94_43 : execA E C (fg 94) B 148 E0 N c94_43 s = regX (runA E C B 148 r94_14 r94_14.toList s) (fun s => gcM E0 [] (forget s.1 [], s.2)) := x_reg (ops := r94_14) (by rfl) (by rfl) s
theorem r94_14_l : r94_14.toList = [o94_14_0] := nrfl rfl
theorem s94_14_0 : stepA E C B 148 r94_14 o94_14_0 (φ, H) = some (fput φ 14 (.int .i64 1), H) := nrfl rfl
theorem x94_41 : execA E C (fg 94) B 148 E0 N c94_41 s = seqX (execA E C (fg 94) B 148 E0 N c94_42 s) (execA E C (fg 94) B 148 E0 N c94_43) := x_seq (by rfl) s
theorem x94_39 : execA E C (fg 94) B 148 E0 N c94_39 s = seqX (execA E C (fg 94) B 148 E0 N c94_40 s) (execA E C (fg 94) B 148 E0 N c94_41) := x_seq (by rfl) s
noncomputable def c94_44 : Code := kE c94_38
theorem x94_44 : execA E C (fg 94) B 148 E0 N c94_44 s = some (.normal, s) := x_skip (by rfl) s
theorem x94_38 : execA E C (fg 94) B 148 E0 N c94_38 (φ, H) = condX (fget φ 56) (execA E C (fg 94) B 148 E0 N c94_39 (φ, H)) (execA E C (fg 94) B 148 E0 N c94_44 (φ, H)) := x_cond (by rfl) _
theorem x94_36 : execA E C (fg 94) B 148 E0 N c94_36 s = seqX (execA E C (fg 94) B 148 E0 N c94_37 s) (execA E C (fg 94) B 148 E0 N c94_38) := x_seq (by rfl) s
noncomputable def c94_45 : Code := kR c94_35
noncomputable def c94_46 : Code := kL c94_45
noncomputable def c94_47 : Code := kL c94_46
noncomputable def r94_15 : Array Oper := kO c94_47
noncomputable def o94_15_0 : Oper := opN r94_15 0
noncomputable def o94_15_1 : Oper := opN r94_15 1
noncomputable def o94_15_2 : Oper := opN r94_15 2
noncomputable def o94_15_3 : Oper := opN r94_15 3
noncomputable def o94_15_4 : Oper := opN r94_15 4
noncomputable def o94_15_5 : Oper := opN r94_15 5
noncomputable def o94_15_6 : Oper := opN r94_15 6
noncomputable def o94_15_7 : Oper := opN r94_15 7
theorem x94_47 : execA E C (fg 94) B 148 E0 N c94_47 s = regX (runA E C B 148 r94_15 r94_15.toList s) (fun s => gcM E0 [14, 56, 68, 69, 70, 71, 72, 73, 74] (forget s.1 [14, 56, 68, 69, 70, 71, 72, 73, 74], s.2)) := x_reg (ops := r94_15) (by rfl) (by rfl) s
theorem r94_15_l : r94_15.toList = [o94_15_0, o94_15_1, o94_15_2, o94_15_3, o94_15_4, o94_15_5, o94_15_6, o94_15_7] := nrfl rfl
theorem s94_15_0 : stepA E C B 148 r94_15 o94_15_0 (φ, H) = some (fput φ 68 (fget φ 10), H) := nrfl rfl
theorem s94_15_1 : stepA E C B 148 r94_15 o94_15_1 (φ, H) = some (fput φ 69 (fget φ 68), H) := nrfl rfl
theorem s94_15_2 : stepA E C B 148 r94_15 o94_15_2 (φ, H) = gd φ 69 true (fun φ => some (fput φ 70 (.tup []), H)) (fun φ => some (fput φ 70 (fget φ 11), H)) := s_gd (j := 1) (oj := o94_15_1) rfl rfl rfl (fun _ => rfl) (fun _ => rfl)
theorem s94_15_3 : stepA E C B 148 r94_15 o94_15_3 (φ, H) = stp (some 71) φ H (opPick (fget φ 69) (fget φ 70) (.bool false)) := nrfl rfl
theorem s94_15_4 : stepA E C B 148 r94_15 o94_15_4 (φ, H) = some (fput φ 72 (fget φ 71), H) := nrfl rfl
theorem s94_15_5 : stepA E C B 148 r94_15 o94_15_5 (φ, H) = gd φ 72 true (fun φ => some (fput φ 73 (.tup []), H)) (fun φ => some (fput φ 73 (fget φ 14), H)) := s_gd (j := 4) (oj := o94_15_4) rfl rfl rfl (fun _ => rfl) (fun _ => rfl)
theorem s94_15_6 : stepA E C B 148 r94_15 o94_15_6 (φ, H) = gd φ 72 true (fun φ => some (fput φ 74 (.tup []), H)) (fun φ => stp (some 74) φ H (just (aBin E.T .eql 153 (fget φ 73) (.int .i64 1)))) := s_gd (j := 4) (oj := o94_15_4) rfl rfl rfl (fun _ => rfl) (fun _ => rfl)
theorem s94_15_7 : stepA E C B 148 r94_15 o94_15_7 (φ, H) = stp (some 75) φ H (opPick (fget φ 72) (fget φ 74) (.bool false)) := nrfl rfl
noncomputable def c94_48 : Code := kR c94_46
noncomputable def c94_49 : Code := kT c94_48
noncomputable def c94_50 : Code := kL c94_49
noncomputable def r94_16 : Array Oper := kO c94_50
noncomputable def o94_16_0 : Oper := opN r94_16 0
noncomputable def o94_16_1 : Oper := opN r94_16 1
noncomputable def o94_16_2 : Oper := opN r94_16 2
noncomputable def o94_16_3 : Oper := opN r94_16 3
noncomputable def o94_16_4 : Oper := opN r94_16 4
theorem x94_50 : execA E C (fg 94) B 148 E0 N c94_50 s = regX (runA E C B 148 r94_16 r94_16.toList s) (fun s => gcM E0 [75, 76, 77, 78, 79] (forget s.1 [75, 76, 77, 78, 79], s.2)) := x_reg (ops := r94_16) (by rfl) (by rfl) s
theorem r94_16_l : r94_16.toList = [o94_16_0, o94_16_1, o94_16_2, o94_16_3, o94_16_4] := nrfl rfl
theorem s94_16_0 : stepA E C B 148 r94_16 o94_16_0 (φ, H) = some (fput φ 76 (fget φ 0), H) := nrfl rfl
theorem s94_16_1 : stepA E C B 148 r94_16 o94_16_1 (φ, H) = some (fput φ 77 (fget φ 1), H) := nrfl rfl
theorem s94_16_2 : stepA E C B 148 r94_16 o94_16_2 (φ, H) = some (fput φ 78 (fget φ 2), H) := nrfl rfl
theorem s94_16_3 : stepA E C B 148 r94_16 o94_16_3 (φ, H) = some (fput φ 79 (fget φ 4), H) := nrfl rfl
theorem s94_16_4 : stepA E C B 148 r94_16 o94_16_4 (φ, H) = mutX (some 80) φ (C 109 [(fget φ 76), (fget φ 77), (fget φ 78), (fget φ 79)] H (B + 148 * 8)) := nrfl rfl
noncomputable def c94_51 : Code := kR c94_49
noncomputable def c94_52 : Code := kT c94_51
theorem x94_52 : execA E C (fg 94) B 148 E0 N c94_52 s = some (.ret, s) := x_ret (by rfl) s
noncomputable def c94_53 : Code := kE c94_51
theorem x94_53 : execA E C (fg 94) B 148 E0 N c94_53 s = some (.normal, s) := x_skip (by rfl) s
theorem x94_51 : execA E C (fg 94) B 148 E0 N c94_51 (φ, H) = condX (fget φ 80) (execA E C (fg 94) B 148 E0 N c94_52 (φ, H)) (execA E C (fg 94) B 148 E0 N c94_53 (φ, H)) := x_cond (by rfl) _
theorem x94_49 : execA E C (fg 94) B 148 E0 N c94_49 s = seqX (execA E C (fg 94) B 148 E0 N c94_50 s) (execA E C (fg 94) B 148 E0 N c94_51) := x_seq (by rfl) s
noncomputable def c94_54 : Code := kE c94_48
theorem x94_54 : execA E C (fg 94) B 148 E0 N c94_54 s = some (.normal, s) := x_skip (by rfl) s
theorem x94_48 : execA E C (fg 94) B 148 E0 N c94_48 (φ, H) = condX (fget φ 75) (execA E C (fg 94) B 148 E0 N c94_49 (φ, H)) (execA E C (fg 94) B 148 E0 N c94_54 (φ, H)) := x_cond (by rfl) _
theorem x94_46 : execA E C (fg 94) B 148 E0 N c94_46 s = seqX (execA E C (fg 94) B 148 E0 N c94_47 s) (execA E C (fg 94) B 148 E0 N c94_48) := x_seq (by rfl) s
noncomputable def c94_55 : Code := kR c94_45
noncomputable def c94_56 : Code := kL c94_55
noncomputable def c94_57 : Code := kL c94_56
noncomputable def r94_17 : Array Oper := kO c94_57
noncomputable def o94_17_0 : Oper := opN r94_17 0
noncomputable def o94_17_1 : Oper := opN r94_17 1
noncomputable def o94_17_2 : Oper := opN r94_17 2
noncomputable def o94_17_3 : Oper := opN r94_17 3
noncomputable def o94_17_4 : Oper := opN r94_17 4
noncomputable def o94_17_5 : Oper := opN r94_17 5
noncomputable def o94_17_6 : Oper := opN r94_17 6
noncomputable def o94_17_7 : Oper := opN r94_17 7
noncomputable def o94_17_8 : Oper := opN r94_17 8
noncomputable def o94_17_9 : Oper := opN r94_17 9
noncomputable def o94_17_10 : Oper := opN r94_17 10
noncomputable def o94_17_11 : Oper := opN r94_17 11
noncomputable def o94_17_12 : Oper := opN r94_17 12
noncomputable def o94_17_13 : Oper := opN r94_17 13
noncomputable def o94_17_14 : Oper := opN r94_17 14
noncomputable def o94_17_15 : Oper := opN r94_17 15
noncomputable def o94_17_16 : Oper := opN r94_17 16
theorem x94_57 : execA E C (fg 94) B 148 E0 N c94_57 s = regX (drawA E C B 148 r94_17 s) (fun s => gcM E0 [75, 80, 81, 82, 83, 84, 85, 86, 87, 88, 89, 90, 91, 92, 93, 94, 95, 96] (forget s.1 [75, 80, 81, 82, 83, 84, 85, 86, 87, 88, 89, 90, 91, 92, 93, 94, 95, 96], s.2)) := x_draw (ops := r94_17) (by rfl) (by rfl) s
theorem r94_17_l : r94_17.toList = [o94_17_0, o94_17_1, o94_17_2, o94_17_3, o94_17_4, o94_17_5, o94_17_6, o94_17_7, o94_17_8, o94_17_9, o94_17_10, o94_17_11, o94_17_12, o94_17_13, o94_17_14, o94_17_15, o94_17_16] := nrfl rfl
theorem r94_17_st : statOk r94_17 = true := by kernel_rfl
theorem r94_17_dr : drawA E C B 148 r94_17 s = if neat 148 s = true then drX r94_17 (runT E C B 148 r94_17 r94_17.toList 0 s) else none := draw_eq r94_17_st s
theorem r94_17_an (l : List (Nat × Tr)) : dynOk r94_17 l = (!writing l || dynPairs [[], [0], [0, 1], [0, 1, 2], [0, 1, 2], [0, 1, 2], [0, 1, 2, 5], [0, 1, 2, 4, 5, 6], [0, 1, 2, 4, 5, 6, 7], [0, 1, 2], [0, 1, 2], [0, 1, 2, 9, 10], [0, 1, 2, 9, 10, 11], [0, 1, 2, 3, 4, 5, 6, 7, 8, 9, 10, 11, 12], [0, 1, 2, 3, 4, 5, 6, 7, 8, 9, 10, 11, 12, 13], [0, 1, 2, 3, 4, 5, 6, 7, 8, 9, 10, 11, 12, 13, 14], [0, 1, 2, 3, 4, 5, 6, 7, 8, 9, 10, 11, 12, 13, 14, 15]] (touching l)) := dynOk_eq (by kernel_rfl) l
theorem s94_17_0 : stepT E C B 148 r94_17 o94_17_0 (φ, H) = some ((fput φ 81 (fget φ 1), H), ⟨false, [], []⟩) := stT_go rfl (goT_mv rfl rfl)
theorem s94_17_1 : stepT E C B 148 r94_17 o94_17_1 (φ, H) = stpT (some 82) φ H (just (aBin E.T .gtr 3 (fget φ 81) (.int .i64 0))) := stT_go rfl (goT_R rfl rfl)
theorem s94_17_2 : stepT E C B 148 r94_17 o94_17_2 (φ, H) = some ((fput φ 83 (fget φ 82), H), ⟨false, [], []⟩) := stT_go rfl (goT_mv rfl rfl)
theorem s94_17_3 : stepT E C B 148 r94_17 o94_17_3 (φ, H) = gdT φ 83 true (fun φ => (some (fput φ 84 (.tup []), H)).map fun s => (s, ⟨false, [], []⟩)) (fun φ => some ((fput φ 84 (fget φ 4), H), ⟨false, [], []⟩)) := stT_gd (j := 2) (oj := o94_17_2) rfl rfl rfl (fun _ => rfl) (fun _ => goT_mv rfl rfl)
theorem s94_17_4 : stepT E C B 148 r94_17 o94_17_4 (φ, H) = gdT φ 83 true (fun φ => (some (fput φ 85 (.tup []), H)).map fun s => (s, ⟨false, [], []⟩)) (fun φ => some ((fput φ 85 (fget φ 0), H), ⟨false, [], []⟩)) := stT_gd (j := 2) (oj := o94_17_2) rfl rfl rfl (fun _ => rfl) (fun _ => goT_mv rfl rfl)
theorem s94_17_5 : stepT E C B 148 r94_17 o94_17_5 (φ, H) = gdT φ 83 true (fun φ => (some (fput φ 86 (.tup []), H)).map fun s => (s, ⟨false, [], []⟩)) (fun φ => some ((fput φ 86 (fget φ 1), H), ⟨false, [], []⟩)) := stT_gd (j := 2) (oj := o94_17_2) rfl rfl rfl (fun _ => rfl) (fun _ => goT_mv rfl rfl)
theorem s94_17_6 : stepT E C B 148 r94_17 o94_17_6 (φ, H) = gdT φ 83 true (fun φ => (some (fput φ 87 (.tup []), H)).map fun s => (s, ⟨false, [], []⟩)) (fun φ => stpT (some 87) φ H (just (aBin E.T .sub 3 (fget φ 86) (.int .i64 1)))) := stT_gd (j := 2) (oj := o94_17_2) rfl rfl rfl (fun _ => rfl) (fun _ => goT_R rfl rfl)
theorem s94_17_7 : stepT E C B 148 r94_17 o94_17_7 (φ, H) = gdT φ 83 true (fun φ => (some (fput φ 88 (.tup []), H)).map fun s => (s, ⟨false, [], []⟩)) (fun φ => stpT (some 88) φ H (just (aIndexAddr E.T 22 (fget φ 85) (fget φ 87)))) := stT_gd (j := 2) (oj := o94_17_2) rfl rfl rfl (fun _ => rfl) (fun _ => goT_R rfl rfl)
theorem s94_17_8 : stepT E C B 148 r94_17 o94_17_8 (φ, H) = gdT φ 83 true (fun φ => (some (fput φ 89 (.tup []), H)).map fun s => (s, ⟨false, [], []⟩)) (fun φ => stpT (some 89) φ H (just (aLoad E.T 45 (fget φ 88)))) := stT_gd (j := 2) (oj := o94_17_2) rfl rfl rfl (fun _ => rfl) (fun _ => goT_R rfl rfl)
theorem s94_17_9 : stepT E C B 148 r94_17 o94_17_9 (φ, H) = gdT φ 83 true (fun φ => (some (fput φ 90 (.tup []), H)).map fun s => (s, ⟨false, [], []⟩)) (fun φ => some ((fput φ 90 (fget φ 0), H), ⟨false, [], []⟩)) := stT_gd (j := 2) (oj := o94_17_2) rfl rfl rfl (fun _ => rfl) (fun _ => goT_mv rfl rfl)
theorem s94_17_10 : stepT E C B 148 r94_17 o94_17_10 (φ, H) = gdT φ 83 true (fun φ => (some (fput φ 91 (.tup []), H)).map fun s => (s, ⟨false, [], []⟩)) (fun φ => some ((fput φ 91 (fget φ 13), H), ⟨false, [], []⟩)) := stT_gd (j := 2) (oj := o94_17_2) rfl rfl rfl (fun _ => rfl) (fun _ => goT_mv rfl rfl)
theorem s94_17_11 : stepT E C B 148 r94_17 o94_17_11 (φ, H) = gdT φ 83 true (fun φ => (some (fput φ 92 (.tup []), H)).map fun s => (s, ⟨false, [], []⟩)) (fun φ => stpT (some 92) φ H (just (aIndexAddr E.T 22 (fget φ 90) (fget φ 91)))) := stT_gd (j := 2) (oj := o94_17_2) rfl rfl rfl (fun _ => rfl) (fun _ => goT_R rfl rfl)
theorem s94_17_12 : stepT E C B 148 r94_17 o94_17_12 (φ, H) = gdT φ 83 true (fun φ => (some (fput φ 93 (.tup []), H)).map fun s => (s, ⟨false, [], []⟩)) (fun φ => stpT (some 93) φ H (just (aLoad E.T 45 (fget φ 92)))) := stT_gd (j := 2) (oj := o94_17_2) rfl rfl rfl (fun _ => rfl) (fun _ => goT_R rfl rfl)
theorem s94_17_13 : stepT E C B 148 r94_17 o94_17_13 (φ, H) = gdT φ 83 true (fun φ => (some (fput φ 94 (.tup []), H)).map fun s => (s, ⟨false, [], []⟩)) (fun φ => callVT E C (B + 148 * 8) (some 94) (fun j => B + j * 148 + 94) φ H (fget φ 84) [(fget φ 89), (fget φ 93)] true) := stT_gd (j := 2) (oj := o94_17_2) rfl rfl rfl (fun _ => rfl) (fun _ => goT_V rfl rfl)
theorem s94_17_14 : stepT E C B 148 r94_17 o94_17_14 (φ, H) = gdT φ 83 true (fun φ => (some (fput φ 95 (.tup []), H)).map fun s => (s, ⟨false, [], []⟩)) (fun φ => stpT (some 95) φ H (just (aBin E.T .lss 3 (fget φ 94) (.int .i64 0)))) := stT_gd (j := 2) (oj := o94_17_2) rfl rfl rfl (fun _ => rfl) (fun _ => goT_R rfl rfl)
theorem s94_17_15 : stepT E C B 148 r94_17 o94_17_15 (φ, H) = gdT φ 83 true (fun φ => (some (fput φ 96 (.tup []), H)).map fun s => (s, ⟨false, [], []⟩)) (fun φ => stpT (some 96) φ H (justO (aUn .not (fget φ 95)))) := stT_gd (j := 2) (oj := o94_17_2) rfl rfl rfl (fun _ => rfl) (fun _ => goT_R rfl rfl)
theorem s94_17_16 : stepT E C B 148 r94_17 o94_17_16 (φ, H) = stpT (some 97) φ H (opPick (fget φ 83) (fget φ 96) (.bool false)) := stT_go rfl (goT_R rfl rfl)
noncomputable def c94_58 : Code := kR c94_56
noncomputable def c94_59 : Code := kT c94_58
noncomputable def c94_60 : Code := kL c94_59
noncomputable def r94_18 : Array Oper := kO c94_60
noncomputable def o94_18_0 : Oper := opN r94_18 0
noncomputable def o94_18_1 : Oper := opN r94_18 1
noncomputable def o94_18_2 : Oper := opN r94_18 2
noncomputable def o94_18_3 : Oper := opN r94_18 3
noncomputable def o94_18_4 : Oper := opN r94_18 4
noncomputable def o94_18_5 : Oper := opN r94_18 5
noncomputable def o94_18_6 : Oper := opN r94_18 6
theorem x94_60 : execA E C (fg 94) B 148 E0 N c94_60 s = regX (runA E C B 148 r94_18 r94_18.toList s) (fun s => gcM E0 [1, 12, 13, 97, 98, 99, 100, 101, 102, 103] (forget s.1 [1, 12, 13, 97, 98, 99, 100, 101, 102, 103], s.2)) := x_reg (ops := r94_18) (by rfl) (by rfl) s
theorem r94_18_l : r94_18.toList = [o94_18_0, o94_18_1, o94_18_2, o94_18_3, o94_18_4, o94_18_5, o94_18_6] := nrfl rfl
theorem s94_18_0 : stepA E C B 148 r94_18 o94_18_0 (φ, H) = some (fput φ 98 (fget φ 0), H) := nrfl rfl
theorem s94_18_1 : stepA E C B 148 r94_18 o94_18_1 (φ, H) = some (fput φ 99 (fget φ 1), H) := nrfl rfl
theorem s94_18_2 : stepA E C B 148 r94_18 o94_18_2 (φ, H) = some (fput φ 100 (fget φ 2), H) := nrfl rfl
theorem s94_18_3 : stepA E C B 148 r94_18 o94_18_3 (φ, H) = some (fput φ 101 (fget φ 13), H) := nrfl rfl
theorem s94_18_4 : stepA E C B 148 r94_18 o94_18_4 (φ, H) = some (fput φ 102 (fget φ 4), H) := nrfl rfl
theorem s94_18_5 : stepA E C B 148 r94_18 o94_18_5 (φ, H) = mutX (some 103) φ (C 110 [(fget φ 98), (fget φ 99), (fget φ 100), (fget φ 101), (fget φ 102)] H (B + 148 * 8)) := nrfl rfl
theorem s94_18_6 : stepA E C B 148 r94_18 o94_18_6 (φ, H) = some (fput φ 15 (fget φ 103), H) := nrfl rfl
noncomputable def c94_61 : Code := kR c94_59
noncomputable def c94_62 : Code := kL c94_61
noncomputable def r94_19 : Array Oper := kO c94_62
noncomputable def o94_19_0 : Oper := opN r94_19 0
noncomputable def o94_19_1 : Oper := opN r94_19 1
theorem x94_62 : execA E C (fg 94) B 148 E0 N c94_62 s = regX (runA E C B 148 r94_19 r94_19.toList s) (fun s => gcM E0 [15, 104] (forget s.1 [15, 104], s.2)) := x_reg (ops := r94_19) (by rfl) (by rfl) s
theorem r94_19_l : r94_19.toList = [o94_19_0, o94_19_1] := nrfl rfl
theorem s94_19_0 : stepA E C B 148 r94_19 o94_19_0 (φ, H) = some (fput φ 104 (fget φ 15), H) := nrfl rfl
theorem s94_19_1 : stepA E C B 148 r94_19 o94_19_1 (φ, H) = some (fput φ 1 (fget φ 104), H) := nrfl rfl
noncomputable def c94_63 : Code := kR c94_61
theorem x94_63 : execA E C (fg 94) B 148 E0 N c94_63 s = some (.exit 1, s) := x_exit (by rfl) s
theorem x94_61 : execA E C (fg 94) B 148 E0 N c94_61 s = seqX (execA E C (fg 94) B 148 E0 N c94_62 s) (execA E C (fg 94) B 148 E0 N c94_63) := x_seq (by rfl) s
theorem x94_59 : execA E C (fg 94) B 148 E0 N c94_59 s = seqX (execA E C (fg 94) B 148 E0 N c94_60 s) (execA E C (fg 94) B 148 E0 N c94_61) := x_seq (by rfl) s
noncomputable def c94_64 : Code := kE c94_58
theorem x94_64 : execA E C (fg 94) B 148 E0 N c94_64 s = some (.normal, s) := x_skip (by rfl) s
theorem x94_58 : execA E C (fg 94) B 148 E0 N c94_58 (φ, H) = condX (fget φ 97) (execA E C (fg 94) B 148 E0 N c94_59 (φ, H)) (execA E C (fg 94) B 148 E0 N c94_64 (φ, H)) := x_cond (by rfl) _
theorem x94_56 : execA E C (fg 94) B 148 E0 N c94_56 s = seqX (execA E C (fg 94) B 148 E0 N c94_57 s) (execA E C (fg 94) B 148 E0 N c94_58) := x_seq (by rfl) s
noncomputable def c94_65 : Code := kR c94_55
noncomputable def c94_66 : Code := kL c94_65
noncomputable def r94_20 : Array Oper := kO c94_66
noncomputable def o94_20_0 : Oper := opN r94_20 0
noncomputable def o94_20_1 : Oper := opN r94_20 1
noncomputable def o94_20_2 : Oper := opN r94_20 2
noncomputable def o94_20_3 : Oper := opN r94_20 3
noncomputable def o94_20_4 : Oper := opN r94_20 4
noncomputable def o94_20_5 : Oper := opN r94_20 5
noncomputable def o94_20_6 : Oper := opN r94_20 6
noncomputable def o94_20_7 : Oper := opN r94_20 7
noncomputable def o94_20_8 : Oper := opN r94_20 8
noncomputable def o94_20_9 : Oper := opN r94_20 9
noncomputable def o94_20_10 : Oper := opN r94_20 10
theorem x94_66 : execA E C (fg 94) B 148 E0 N c94_66 s = regX (runA E C B 148 r94_20 r94_20.toList s) (fun s => gcM E0 [10, 11, 13, 97, 105, 106, 107, 108, 109, 110, 111, 112, 113] (forget s.1 [10, 11, 13, 97, 105, 106, 107, 108, 109, 110, 111, 112, 113], s.2)) := x_reg (ops := r94_20) (by rfl) (by rfl) s
theorem r94_20_l : r94_20.toList = [o94_20_0, o94_20_1, o94_20_2, o94_20_3, o94_20_4, o94_20_5, o94_20_6, o94_20_7, o94_20_8, o94_20_9, o94_20_10] := nrfl rfl
theorem s94_20_0 : stepA E C B 148 r94_20 o94_20_0 (φ, H) = some (fput φ 106 (fget φ 0), H) := nrfl rfl
theorem s94_20_1 : stepA E C B 148 r94_20 o94_20_1 (φ, H) = some (fput φ 107 (fget φ 1), H) := nrfl rfl
theorem s94_20_2 : stepA E C B 148 r94_20 o94_20_2 (φ, H) = some (fput φ 108 (fget φ 2), H) := nrfl rfl
theorem s94_20_3 : stepA E C B 148 r94_20 o94_20_3 (φ, H) = some (fput φ 109 (fget φ 13), H) := nrfl rfl
theorem s94_20_4 : stepA E C B 148 r94_20 o94_20_4 (φ, H) = some (fput φ 110 (fget φ 4), H) := nrfl rfl
theorem s94_20_5 : stepA E C B 148 r94_20 o94_20_5 (φ, H) = mutX (some 111) φ (C 111 [(fget φ 106), (fget φ 107), (fget φ 108), (fget φ 109), (fget φ 110)] H (B + 148 * 8)) := nrfl rfl
theorem s94_20_6 : stepA E C B 148 r94_20 o94_20_6 (φ, H) = some (fput φ 105 (fget φ 111), H) := nrfl rfl
theorem s94_20_7 : stepA E C B 148 r94_20 o94_20_7 (φ, H) = stp (some 112) φ H (opExtract (fget φ 105) 0) := nrfl rfl
theorem s94_20_8 : stepA E C B 148 r94_20 o94_20_8 (φ, H) = stp (some 113) φ H (opExtract (fget φ 105) 1) := nrfl rfl
theorem s94_20_9 : stepA E C B 148 r94_20 o94_20_9 (φ, H) = some (fput φ 16 (fget φ 112), H) := nrfl rfl
theorem s94_20_10 : stepA E C B 148 r94_20 o94_20_10 (φ, H) = some (fput φ 17 (fget φ 113), H) := nrfl rfl
noncomputable def c94_67 : Code := kR c94_65
noncomputable def c94_68 : Code := kL c94_67
noncomputable def r94_21 : Array Oper := kO c94_68
noncomputable def o94_21_0 : Oper := opN r94_21 0
noncomputable def o94_21_1 : Oper := opN r94_21 1
theorem x94_68 : execA E C (fg 94) B 148 E0 N c94_68 s = regX (runA E C B 148 r94_21 r94_21.toList s) (fun s => gcM E0 [17, 114] (forget s.1 [17, 114], s.2)) := x_reg (ops := r94_21) (by rfl) (by rfl) s
theorem r94_21_l : r94_21.toList = [o94_21_0, o94_21_1] := nrfl rfl
theorem s94_21_0 : stepA E C B 148 r94_21 o94_21_0 (φ, H) = some (fput φ 114 (fget φ 17), H) := nrfl rfl
theorem s94_21_1 : stepA E C B 148 r94_21 o94_21_1 (φ, H) = some (fput φ 11 (fget φ 114), H) := nrfl rfl
noncomputable def c94_69 : Code := kR c94_67
noncomputable def c94_70 : Code := kL c94_69
noncomputable def r94_22 : Array Oper := kO c94_70
noncomputable def o94_22_0 : Oper := opN r94_22 0
noncomputable def o94_22_1 : Oper := opN r94_22 1
noncomputable def o94_22_2 : Oper := opN r94_22 2
noncomputable def o94_22_3 : Oper := opN r94_22 3
noncomputable def o94_22_4 : Oper := opN r94_22 4
noncomputable def o94_22_5 : Oper := opN r94_22 5
noncomputable def o94_22_6 : Oper := opN r94_22 6
noncomputable def o94_22_7 : Oper := opN r94_22 7
theorem x94_70 : execA E C (fg 94) B 148 E0 N c94_70 s = regX (runA E C B 148 r94_22 r94_22.toList s) (fun s => gcM E0 [115, 116, 117, 118, 119, 120] (forget s.1 [115, 116, 117, 118, 119, 120], s.2)) := x_reg (ops := r94_22) (by rfl) (by rfl) s
theorem r94_22_l : r94_22.toList = [o94_22_0, o94_22_1, o94_22_2, o94_22_3, o94_22_4, o94_22_5, o94_22_6, o94_22_7] := nrfl rfl
theorem s94_22_0 : stepA E C B 148 r94_22 o94_22_0 (φ, H) = some (fput φ 115 (fget φ 16), H) := nrfl rfl
theorem s94_22_1 : stepA E C B 148 r94_22 o94_22_1 (φ, H) = some (fput φ 116 (fget φ 1), H) := nrfl rfl
theorem s94_22_2 : stepA E C B 148 r94_22 o94_22_2 (φ, H) = stp (some 117) φ H (just (aBin E.T .sub 3 (fget φ 115) (fget φ 116))) := nrfl rfl
theorem s94_22_3 : stepA E C B 148 r94_22 o94_22_3 (φ, H) = some (fput φ 118 (fget φ 2), H) := nrfl rfl
theorem s94_22_4 : stepA E C B 148 r94_22 o94_22_4 (φ, H) = some (fput φ 119 (fget φ 16), H) := nrfl rfl
theorem s94_22_5 : stepA E C B 148 r94_22 o94_22_5 (φ, H) = stp (some 120) φ H (just (aBin E.T .sub 3 (fget φ 118) (fget φ 119))) := nrfl rfl
theorem s94_22_6 : stepA E C B 148 r94_22 o94_22_6 (φ, H) = some (fput φ 18 (fget φ 117), H) := nrfl rfl
theorem s94_22_7 : stepA E C B 148 r94_22 o94_22_7 (φ, H) = some (fput φ 19 (fget φ 120), H) := nrfl rfl
noncomputable def c94_71 : Code := kR c94_69
noncomputable def c94_72 : Code := kL c94_71
noncomputable def r94_23 : Array Oper := kO c94_72
noncomputable def o94_23_0 : Oper := opN r94_23 0
noncomputable def o94_23_1 : Oper := opN r94_23 1
noncomputable def o94_23_2 : Oper := opN r94_23 2
theorem x94_72 : execA E C (fg 94) B 148 E0 N c94_72 s = regX (runA E C B 148 r94_23 r94_23.toList s) (fun s => gcM E0 [12, 121, 122] (forget s.1 [12, 121, 122], s.2)) := x_reg (ops := r94_23) (by rfl) (by rfl) s
theorem r94_23_l : r94_23.toList = [o94_23_0, o94_23_1, o94_23_2] := nrfl rfl
theorem s94_23_0 : stepA E C B 148 r94_23 o94_23_0 (φ, H) = some (fput φ 121 (fget φ 12), H) := nrfl rfl
theorem s94_23_1 : stepA E C B 148 r94_23 o94_23_1 (φ, H) = stp (some 122) φ H (just (aBin E.T .quo 3 (fget φ 121) (.int .i64 8))) := nrfl rfl
theorem s94_23_2 : stepA E C B 148 r94_23 o94_23_2 (φ, H) = some (fput φ 20 (fget φ 122), H) := nrfl rfl
noncomputable def c94_73 : Code := kR c94_71
noncomputable def c94_74 : Code := kL c94_73
noncomputable def r94_24 : Array Oper := kO c94_74
noncomputable def o94_24_0 : Oper := opN r94_24 0
noncomputable def o94_24_1 : Oper := opN r94_24 1
noncomputable def o94_24_2 : Oper := opN r94_24 2
theorem x94_74 : execA E C (fg 94) B 148 E0 N c94_74 s = regX (runA E C B 148 r94_24 r94_24.toList s) (fun s => gcM E0 [123, 124] (forget s.1 [123, 124], s.2)) := x_reg (ops := r94_24) (by rfl) (by rfl) s
theorem r94_24_l : r94_24.toList = [o94_24_0, o94_24_1, o94_24_2] := nrfl rfl
theorem s94_24_0 : stepA E C B 148 r94_24 o94_24_0 (φ, H) = some (fput φ 123 (fget φ 18), H) := nrfl rfl
theorem s94_24_1 : stepA E C B 148 r94_24 o94_24_1 (φ, H) = some (fput φ 124 (fget φ 19), H) := nrfl rfl
theorem s94_24_2 : stepA E C B 148 r94_24 o94_24_2 (φ, H) = stp (some 125) φ H (just (aBin E.T .lss 3 (fget φ 123) (fget φ 124))) := nrfl rfl
noncomputable def c94_75 : Code := kR c94_73
noncomputable def c94_76 : Code := kT c94_75
noncomputable def c94_77 : Code := kL c94_76
noncomputable def r94_25 : Array Oper := kO c94_77
noncomputable def o94_25_0 : Oper := opN r94_25 0
noncomputable def o94_25_1 : Oper := opN r94_25 1
noncomputable def o94_25_2 : Oper := opN r94_25 2
noncomputable def o94_25_3 : Oper := opN r94_25 3
theorem x94_77 : execA E C (fg 94) B 148 E0 N c94_77 s = regX (runA E C B 148 r94_25 r94_25.toList s) (fun s => gcM E0 [18, 19, 20, 125, 126, 127, 128] (forget s.1 [18, 19, 20, 125, 126, 127, 128], s.2)) := x_reg (ops := r94_25) (by rfl) (by rfl) s
theorem r94_25_l : r94_25.toList = [o94_25_0, o94_25_1, o94_25_2, o94_25_3] := nrfl rfl
theorem s94_25_0 : stepA E C B 148 r94_25 o94_25_0 (φ, H) = some (fput φ 126 (fget φ 18), H) := nrfl rfl
theorem s94_25_1 : stepA E C B 148 r94_25 o94_25_1 (φ, H) = some (fput φ 127 (fget φ 20), H) := nrfl rfl
theorem s94_25_2 : stepA E C B 148 r94_25 o94_25_2 (φ, H) = stp (some 128) φ H (just (aBin E.T .geq 3 (fget φ 126) (fget φ 127))) := nrfl rfl
theorem s94_25_3 : stepA E C B 148 r94_25 o94_25_3 (φ, H) = some (fput φ 10 (fget φ 128), H) := nrfl rfl
noncomputable def c94_78 : Code := kR c94_76
noncomputable def c94_79 : Code := kL c94_78
noncomputable def r94_26 : Array Oper := kO c94_79
noncomputable def o94_26_0 : Oper := opN r94_26 0
noncomputable def o94_26_1 : Oper := opN r94_26 1
noncomputable def o94_26_2 : Oper := opN r94_26 2
noncomputable def o94_26_3 : Oper := opN r94_26 3
noncomputable def o94_26_4 : Oper := opN r94_26 4
noncomputable def o94_26_5 : Oper := opN r94_26 5
theorem x94_79 : execA E C (fg 94) B 148 E0 N c94_79 s = regX (runA E C B 148 r94_26 r94_26.toList s) (fun s => gcM E0 [1, 129, 130, 131, 132, 133, 134] (forget s.1 [1, 129, 130, 131, 132, 133, 134], s.2)) := x_reg (ops := r94_26) (by rfl) (by rfl) s
theorem r94_26_l : r94_26.toList = [o94_26_0, o94_26_1, o94_26_2, o94_26_3, o94_26_4, o94_26_5] := nrfl rfl
theorem s94_26_0 : stepA E C B 148 r94_26 o94_26_0 (φ, H) = some (fput φ 129 (fget φ 0), H) := nrfl rfl
theorem s94_26_1 : stepA E C B 148 r94_26 o94_26_1 (φ, H) = some (fput φ 130 (fget φ 1), H) := nrfl rfl
theorem s94_26_2 : stepA E C B 148 r94_26 o94_26_2 (φ, H) = some (fput φ 131 (fget φ 16), H) := nrfl rfl
theorem s94_26_3 : stepA E C B 148 r94_26 o94_26_3 (φ, H) = some (fput φ 132 (fget φ 3), H) := nrfl rfl
theorem s94_26_4 : stepA E C B 148 r94_26 o94_26_4 (φ, H) = some (fput φ 133 (fget φ 4), H) := nrfl rfl
theorem s94_26_5 : stepA E C B 148 r94_26 o94_26_5 (φ, H) = mutX (some 134) φ (C 94 [(fget φ 129), (fget φ 130), (fget φ 131), (fget φ 132), (fget φ 133)] H (B + 148 * 8)) := nrfl rfl
noncomputable def c94_80 : Code := kR c94_78
noncomputable def r94_27 : Array Oper := kO c94_80
noncomputable def o94_27_0 : Oper := opN r94_27 0
noncomputable def o94_27_1 : Oper := opN r94_27 1
noncomputable def o94_27_2 : Oper := opN r94_27 2
theorem x94_80 : execA E C (fg 94) B 148 E0 N c94_80 s = regX (runA E C B 148 r94_27 r94_27.toList s) (fun s => gcM E0 [16, 135, 136] (forget s.1 [16, 135, 136], s.2)) := x_reg (ops := r94_27) (by rfl) (by rfl) s
theorem r94_27_l : r94_27.toList = [o94_27_0, o94_27_1, o94_27_2] := nrfl rfl
theorem s94_27_0 : stepA E C B 148 r94_27 o94_27_0 (φ, H) = some (fput φ 135 (fget φ 16), H) := nrfl rfl
theorem s94_27_1 : stepA E C B 148 r94_27 o94_27_1 (φ, H) = stp (some 136) φ H (just (aBin E.T .add 3 (fget φ 135) (.int .i64 1))) := nrfl rfl
theorem s94_27_2 : stepA E C B 148 r94_27 o94_27_2 (φ, H) = some (fput φ 1 (fget φ 136), H) := nrfl rfl
theorem x94_78 : execA E C (fg 94) B 148 E0 N c94_78 s = seqX (execA E C (fg 94) B 148 E0 N c94_79 s) (execA E C (fg 94) B 148 E0 N c94_80) := x_seq (by rfl) s
theorem x94_76 : execA E C (fg 94) B 148 E0 N c94_76 s = seqX (execA E C (fg 94) B 148 E0 N c94_77 s) (execA E C (fg 94) B 148 E0 N c94_78) := x_seq (by rfl) s
noncomputable def c94_81 : Code := kE c94_75
noncomputable def c94_82 : Code := kL c94_81
noncomputable def r94_28 : Array Oper := kO c94_82
noncomputable def o94_28_0 : Oper := opN r94_28 0
noncomputable def o94_28_1 : Oper := opN r94_28 1
noncomputable def o94_28_2 : Oper := opN r94_28 2
noncomputable def o94_28_3 : Oper := opN r94_28 3
theorem x94_82 : execA E C (fg 94) B 148 E0 N c94_82 s = regX (runA E C B 148 r94_28 r94_28.toList s) (fun s => gcM E0 [18, 19, 20, 125, 137, 138, 139] (forget s.1 [18, 19, 20, 125, 137, 138, 139], s.2)) := x_reg (ops := r94_28) (by rfl) (by rfl) s
theorem r94_28_l : r94_28.toList = [o94_28_0, o94_28_1, o94_28_2, o94_28_3] := nrfl rfl
theorem s94_28_0 : stepA E C B 148 r94_28 o94_28_0 (φ, H) = some (fput φ 137 (fget φ 19), H) := nrfl rfl
theorem s94_28_1 : stepA E C B 148 r94_28 o94_28_1 (φ, H) = some (fput φ 138 (fget φ 20), H) := nrfl rfl
theorem s94_28_2 : stepA E C B 148 r94_28 o94_28_2 (φ, H) = stp (some 139) φ H (just (aBin E.T .geq 3 (fget φ 137) (fget φ 138))) := nrfl rfl
theorem s94_28_3 : stepA E C B 148 r94_28 o94_28_3 (φ, H) = some (fput φ 10 (fget φ 139), H) := nrfl rfl
noncomputable def c94_83 : Code := kR c94_81
noncomputable def c94_84 : Code := kL c94_83
noncomputable def r94_29 : Array Oper := kO c94_84
noncomputable def o94_29_0 : Oper := opN r94_29 0
noncomputable def o94_29_1 : Oper := opN r94_29 1
noncomputable def o94_29_2 : Oper := opN r94_29 2
noncomputable def o94_29_3 : Oper := opN r94_29 3
noncomputable def o94_29_4 : Oper := opN r94_29 4
noncomputable def o94_29_5 : Oper := opN r94_29 5
noncomputable def o94_29_6 : Oper := opN r94_29 6
theorem x94_84 : execA E C (fg 94) B 148 E0 N c94_84 s = regX (runA E C B 148 r94_29 r94_29.toList s) (fun s => gcM E0 [2, 140, 141, 142, 143, 144, 145, 146] (forget s.1 [2, 140, 141, 142, 143, 144, 145, 146], s.2)) := x_reg (ops := r94_29) (by rfl) (by rfl) s
theorem r94_29_l : r94_29.toList = [o94_29_0, o94_29_1, o94_29_2, o94_29_3, o94_29_4, o94_29_5, o94_29_6] := nrfl rfl
theorem s94_29_0 : stepA E C B 148 r94_29 o94_29_0 (φ, H) = some (fput φ 140 (fget φ 0), H) := nrfl rfl
theorem s94_29_1 : stepA E C B 148 r94_29 o94_29_1 (φ, H) = some (fput φ 141 (fget φ 16), H) := nrfl rfl
theorem s94_29_2 : stepA E C B 148 r94_29 o94_29_2 (φ, H) = stp (some 142) φ H (just (aBin E.T .add 3 (fget φ 141) (.int .i64 1))) := nrfl rfl
theorem s94_29_3 : stepA E C B 148 r94_29 o94_29_3 (φ, H) = some (fput φ 143 (fget φ 2), H) := nrfl rfl
theorem s94_29_4 : stepA E C B 148 r94_29 o94_29_4 (φ, H) = some (fput φ 144 (fget φ 3), H) := nrfl rfl
theorem s94_29_5 : stepA E C B 148 r94_29 o94_29_5 (φ, H) = some (fput φ 145 (fget φ 4), H) := nrfl rfl
theorem s94_29_6 : stepA E C B 148 r94_29 o94_29_6 (φ, H) = mutX (some 146) φ (C 94 [(fget φ 140), (fget φ 142), (fget φ 143), (fget φ 144), (fget φ 145)] H (B + 148 * 8)) := nrfl rfl
noncomputable def c94_85 : Code := kR c94_83
noncomputable def r94_30 : Array Oper := kO c94_85
noncomputable def o94_30_0 : Oper := opN r94_30 0
noncomputable def o94_30_1 : Oper := opN r94_30 1
theorem x94_85 : execA E C (fg 94) B 148 E0 N c94_85 s = regX (runA E C B 148 r94_30 r94_30.toList s) (fun s => gcM E0 [16, 147] (forget s.1 [16, 147], s.2)) := x_reg (ops := r94_30) (by rfl) (by rfl) s
theorem r94_30_l : r94_30.toList = [o94_30_0, o94_30_1] := nrfl rfl
theorem s94_30_0 : stepA E C B 148 r94_30 o94_30_0 (φ, H) = some (fput φ 147 (fget φ 16), H) := nrfl rfl
theorem s94_30_1 : stepA E C B 148 r94_30 o94_30_1 (φ, H) = some (fput φ 2 (fget φ 147), H) := nrfl rfl
theorem x94_83 : execA E C (fg 94) B 148 E0 N c94_83 s = seqX (execA E C (fg 94) B 148 E0 N c94_84 s) (execA E C (fg 94) B 148 E0 N c94_85) := x_seq (by rfl) s
theorem x94_81 : execA E C (fg 94) B 148 E0 N c94_81 s = seqX (execA E C (fg 94) B 148 E0 N c94_82 s) (execA E C (fg 94) B 148 E0 N c94_83) := x_seq (by rfl) s
theorem x94_75 : execA E C (fg 94) B 148 E0 N c94_75 (φ, H) = condX (fget φ 125) (execA E C (fg 94) B 148 E0 N c94_76 (φ, H)) (execA E C (fg 94) B 148 E0 N c94_81 (φ, H)) := x_cond (by rfl) _
theorem x94_73 : execA E C (fg 94) B 148 E0 N c94_73 s = seqX (execA E C (fg 94) B 148 E0 N c94_74 s) (execA E C (fg 94) B 148 E0 N c94_75) := x_seq (by rfl) s
theorem x94_71 : execA E C (fg 94) B 148 E0 N c94_71 s = seqX (execA E C (fg 94) B 148 E0 N c94_72 s) (execA E C (fg 94) B 148 E0 N c94_73) := x_seq (by rfl) s
theorem x94_69 : execA E C (fg 94) B 148 E0 N c94_69 s = seqX (execA E C (fg 94) B 148 E0 N c94_70 s) (execA E C (fg 94) B 148 E0 N c94_71) := x_seq (by rfl) s
theorem x94_67 : execA E C (fg 94) B 148 E0 N c94_67 s = seqX (execA E C (fg 94) B 148 E0 N c94_68 s) (execA E C (fg 94) B 148 E0 N c94_69) := x_seq (by rfl) s
theorem x94_65 : execA E C (fg 94) B 148 E0 N c94_65 s = seqX (execA E C (fg 94) B 148 E0 N c94_66 s) (execA E C (fg 94) B 148 E0 N c94_67) := x_seq (by rfl) s
theorem x94_55 : execA E C (fg 94) B 148 E0 N c94_55 s = seqX (execA E C (fg 94) B 148 E0 N c94_56 s) (execA E C (fg 94) B 148 E0 N c94_65) := x_seq (by rfl) s
theorem x94_45 : execA E C (fg 94) B 148 E0 N c94_45 s = seqX (execA E C (fg 94) B 148 E0 N c94_46 s) (execA E C (fg 94) B 148 E0 N c94_55) := x_seq (by rfl) s
theorem x94_35 : execA E C (fg 94) B 148 E0 N c94_35 s = seqX (execA E C (fg 94) B 148 E0 N c94_36 s) (execA E C (fg 94) B 148 E0 N c94_45) := x_seq (by rfl) s
theorem x94_33 : execA E C (fg 94) B 148 E0 N c94_33 s = seqX (execA E C (fg 94) B 148 E0 N c94_34 s) (execA E C (fg 94) B 148 E0 N c94_35) := x_seq (by rfl) s
theorem x94_25 : execA E C (fg 94) B 148 E0 N c94_25 s = seqX (execA E C (fg 94) B 148 E0 N c94_26 s) (execA E C (fg 94) B 148 E0 N c94_33) := x_seq (by rfl) s
theorem x94_17 : execA E C (fg 94) B 148 E0 N c94_17 s = seqX (execA E C (fg 94) B 148 E0 N c94_18 s) (execA E C (fg 94) B 148 E0 N c94_25) := x_seq (by rfl) s
theorem x94_9 : execA E C (fg 94) B 148 E0 N c94_9 s = seqX (execA E C (fg 94) B 148 E0 N c94_10 s) (execA E C (fg 94) B 148 E0 N c94_17) := x_seq (by rfl) s
theorem x94_7 : execA E C (fg 94) B 148 E0 N c94_7 s = seqX (execA E C (fg 94) B 148 E0 N c94_8 s) (execA E C (fg 94) B 148 E0 N c94_9) := x_seq (by rfl) s
theorem x94_6 : execA E C (fg 94) B 148 E0 N c94_6 s = blockX 1 (fun s => (forget s.1 [], s.2)) (execA E C (fg 94) B 148 E0 N c94_7 s) := x_block (by rfl) (by rfl) s
theorem x94_5 : execA E C (fg 94) B 148 E0 N c94_5 s = iterA (execA E C (fg 94) B 148 E0 N c94_6) (headA E0) N s := x_loop (by rfl) s
theorem x94_4 : execA E C (fg 94) B 148 E0 N c94_4 s = blockX 0 (fun s => (forget s.1 [], s.2)) (execA E C (fg 94) B 148 E0 N c94_5 s) := x_block (by rfl) (by rfl) s
theorem x94_2 : execA E C (fg 94) B 148 E0 N c94_2 s = seqX (execA E C (fg 94) B 148 E0 N c94_3 s) (execA E C (fg 94) B 148 E0 N c94_4) := x_seq (by rfl) s
theorem x94_0 : execA E C (fg 94) B 148 E0 N c94_0 s = seqX (execA E C (fg 94) B 148 E0 N c94_1 s) (execA E C (fg 94) B 148 E0 N c94_2) := x_seq (by rfl) s
theorem fi_94 : fInfo E 94 = some ⟨148, #[], c94_0⟩ := nrfl rfl
theorem b_94 (args : List AV) : bodyA E C fg N 94 args H B = bodyX E [] (execA E C (fg 94) B 148 H N c94_0 (frame0 args 0 [], H)) := bodyA_eq fi_94 args H
noncomputable def c104_0 : Code := kBody Proofs.Try.f104
noncomputable def c104_1 : Code := kL c104_0
noncomputable def r104_0 : Array Oper := kO c104_1
noncomputable def o104_0_0 : Oper := opN r104_0 0
noncomputable def o104_0_1 : Oper := opN r104_0 1
noncomputable def o104_0_2 : Oper := opN r104_0 2
theorem x104_1 : execA E C (fg 104) B 53 E0 N c104_1 s = regX (runA E C B 53 r104_0 r104_0.toList s) (fun s => gcM E0 [10, 11] (forget s.1 [10, 11], s.2)) := x_reg (ops := r104_0) (by rfl) (by rfl) s
theorem r104_0_l : r104_0.toList = [o104_0_0, o104_0_1, o104_0_2] := nrfl rfl
theorem s104_0_0 : stepA E C B 53 r104_0 o104_0_0 (φ, H) = some (fput φ 10 (fget φ 1), H) := nrfl rfl
theorem s104_0_1 : stepA E C B 53 r104_0 o104_0_1 (φ, H) = stp (some 11) φ H (just (aBin E.T .add 3 (fget φ 10) (.int .i64 1))) := nrfl rfl
theorem s104_0_2 : stepA E C B 53 r104_0 o104_0_2 (φ, H) = some (fput φ 8 (fget φ 11), H) := nrfl rfl
noncomputable def c104_2 : Code := kR c104_0
noncomputable def c104_3 : Code := kB c104_2
noncomputable def c104_4 : Code := kB c104_3
noncomputable def c104_5 : Code := kL c104_4
noncomputable def c104_6 : Code := kL c104_5
noncomputable def r104_1 : Array Oper := kO c104_6
noncomputable def o104_1_0 : Oper := opN r104_1 0
noncomputable def o104_1_1 : Oper := opN r104_1 1
noncomputable def o104_1_2 : Oper := opN r104_1 2
theorem x104_6 : execA E C (fg 104) B 53 E0 N c104_6 s = regX (runA E C B 53 r104_1 r104_1.toList s) (fun s => gcM E0 [12, 13] (forget s.1 [12, 13], s.2)) := x_reg (ops := r104_1) (by rfl) (by rfl) s
theorem r104_1_l : r104_1.toList = [o104_1_0, o104_1_1, o104_1_2] := nrfl rfl
theorem s104_1_0 : stepA E C B 53 r104_1 o104_1_0 (φ, H) = some (fput φ 12 (fget φ 8), H) := nrfl rfl
theorem s104_1_1 : stepA E C B 53 r104_1 o104_1_1 (φ, H) = some (fput φ 13 (fget φ 2), H) := nrfl rfl
theorem s104_1_2 : stepA E C B 53 r104_1 o104_1_2 (φ, H) = stp (some 14) φ H (just (aBin E.T .lss 3 (fget φ 12) (fget φ 13))) := nrfl rfl
noncomputable def c104_7 : Code := kR c104_5
noncomputable def c104_8 : Code := kT c104_7
theorem x104_8 : execA E C (fg 104) B 53 E0 N c104_8 s = some (.normal, s) := x_skip (by rfl) s
noncomputable def c104_9 : Code := kE c104_7
theorem x104_9 : execA E C (fg 104) B 53 E0 N c104_9 s = some (.exit 0, s) := x_exit (by rfl) s
theorem x104_7 : execA E C (fg 104) B 53 E0 N c104_7 (φ, H) = condX (fget φ 14) (execA E C (fg 104) B 53 E0 N c104_8 (φ, H)) (execA E C (fg 104) B 53 E0 N c104_9 (φ, H)) := x_cond (by rfl) _
theorem x104_5 : execA E C (fg 104) B 53 E0 N c104_5 s = seqX (execA E C (fg 104) B 53 E0 N c104_6 s) (execA E C (fg 104) B 53 E0 N c104_7) := x_seq (by rfl) s
noncomputable def c104_10 : Code := kR c104_4
noncomputable def c104_11 : Code := kL c104_10
noncomputable def c104_12 : Code := kB c104_11
noncomputable def c104_13 : Code := kL c104_12
noncomputable def r104_3 : Array Oper := kO c104_13
noncomputable def o104_3_0 : Oper := opN r104_3 0
noncomputable def o104_3_1 : Oper := opN r104_3 1
theorem x104_13 : execA E C (fg 104) B 53 E0 N c104_13 s = regX (runA E C B 53 r104_3 r104_3.toList s) (fun s => gcM E0 [14, 17] (forget s.1 [14, 17], s.2)) := x_reg (ops := r104_3) (by rfl) (by rfl) s
theorem r104_3_l : r104_3.toList = [o104_3_0, o104_3_1] := nrfl rfl
theorem s104_3_0 : stepA E C B 53 r104_3 o104_3_0 (φ, H) = some (fput φ 17 (fget φ 8), H) := nrfl rfl
theorem s104_3_1 : stepA E C B 53 r104_3 o104_3_1 (φ, H) = some (fput φ 9 (fget φ 17), H) := nrfl rfl
noncomputable def c104_14 : Code := kR c104_12
noncomputable def c104_15 : Code := kB c104_14
noncomputable def c104_16 : Code := kB c104_15
noncomputable def c104_17 : Code := kL c104_16
noncomputable def c104_18 : Code := kL c104_17
noncomputable def r104_4 : Array Oper := kO c104_18
noncomputable def o104_4_0 : Oper := opN r104_4 0
noncomputable def o104_4_1 : Oper := opN r104_4 1
noncomputable def o104_4_2 : Oper := opN r104_4 2
noncomputable def o104_4_3 : Oper := opN r104_4 3
noncomputable def o104_4_4 : Oper := opN r104_4 4
noncomputable def o104_4_5 : Oper := opN r104_4 5
noncomputable def o104_4_6 : Oper := opN r104_4 6
noncomputable def o104_4_7 : Oper := opN r104_4 7
noncomputable def o104_4_8 : Oper := opN r104_4 8
noncomputable def o104_4_9 : Oper := opN r104_4 9
noncomputable def o104_4_10 : Oper := opN r104_4 10
noncomputable def o104_4_11 : Oper := opN r104_4 11
noncomputable def o104_4_12 : Oper := opN r104_4 12
noncomputable def o104_4_13 : Oper := opN r104_4 13
noncomputable def o104_4_14 : Oper := opN r104_4 14
noncomputable def o104_4_15 : Oper := opN r104_4 15
noncomputable def o104_4_16 : Oper := opN r104_4 16
theorem x104_18 : execA E C (fg 104) B 53 E0 N c104_18 s = regX (drawA E C B 53 r104_4 s) (fun s => gcM E0 [18, 19, 20, 21, 22, 23, 24, 25, 26, 27, 28, 29, 30, 31, 32, 33] (forget s.1 [18, 19, 20, 21, 22, 23, 24, 25, 26, 27, 28, 29, 30, 31, 32, 33], s.2)) := x_draw (ops := r104_4) (by rfl) (by rfl) s
theorem r104_4_l : r104_4.toList = [o104_4_0, o104_4_1, o104_4_2, o104_4_3, o104_4_4, o104_4_5, o104_4_6, o104_4_7, o104_4_8, o104_4_9, o104_4_10, o104_4_11, o104_4_12, o104_4_13, o104_4_14, o104_4_15, o104_4_16] := nrfl rfl
theorem r104_4_st : statOk r104_4 = true := by kernel_rfl
theorem r104_4_dr : drawA E C B 53 r104_4 s = if neat 53 s = true then drX r104_4 (runT E C B 53 r104_4 r104_4.toList 0 s) else none := draw_eq r104_4_st s
theorem r104_4_an (l : List (Nat × Tr)) : dynOk r104_4 l = (!writing l || dynPairs [[], [], [0, 1], [0, 1, 2], [0, 1, 2, 3], [0, 1, 2, 3], [0, 1, 2, 3], [0, 1, 2, 3, 5, 6], [0, 1, 2, 3, 5, 6, 7], [0, 1, 2, 3], [0, 1, 2, 3], [0, 1, 2, 3, 10], [0, 1, 2, 3, 9, 10, 11], [0, 1, 2, 3, 9, 10, 11, 12], [0, 1, 2, 3, 4, 5, 6, 7, 8, 9, 10, 11, 12, 13], [0, 1, 2, 3, 4, 5, 6, 7, 8, 9, 10, 11, 12, 13, 14], [0, 1, 2, 3, 4, 5, 6, 7, 8, 9, 10, 11, 12, 13, 14, 15]] (touching l)) := dynOk_eq (by kernel_rfl) l
theorem s104_4_0 : stepT E C B 53 r104_4 o104_4_0 (φ, H) = some ((fput φ 18 (fget φ 9), H), ⟨false, [], []⟩) := stT_go rfl (goT_mv rfl rfl)
theorem s104_4_1 : stepT E C B 53 r104_4 o104_4_1 (φ, H) = some ((fput φ 19 (fget φ 1), H), ⟨false, [], []⟩) := stT_go rfl (goT_mv rfl rfl)
theorem s104_4_2 : stepT E C B 53 r104_4 o104_4_2 (φ, H) = stpT (some 20) φ H (just (aBin E.T .gtr 3 (fget φ 18) (fget φ 19))) := stT_go rfl (goT_R rfl rfl)
theorem s104_4_3 : stepT E C B 53 r104_4 o104_4_3 (φ, H) = some ((fput φ 21 (fget φ 20), H), ⟨false, [], []⟩) := stT_go rfl (goT_mv rfl rfl)
theorem s104_4_4 : stepT E C B 53 r104_4 o104_4_4 (φ, H) = gdT φ 21 true (fun φ => (some (fput φ 22 (.tup []), H)).map fun s => (s, ⟨false, [], []⟩)) (fun φ => some ((fput φ 22 (fget φ 3), H), ⟨false, [], []⟩)) := stT_gd (j := 3) (oj := o104_4_3) rfl rfl rfl (fun _ => rfl) (fun _ => goT_mv rfl rfl)
theorem s104_4_5 : stepT E C B 53 r104_4 o104_4_5 (φ, H) = gdT φ 21 true (fun φ => (some (fput φ 23 (.tup []), H)).map fun s => (s, ⟨false, [], []⟩)) (fun φ => some ((fput φ 23 (fget φ 0), H), ⟨false, [], []⟩)) := stT_gd (j := 3) (oj := o104_4_3) rfl rfl rfl (fun _ => rfl) (fun _ => goT_mv rfl rfl)
theorem s104_4_6 : stepT E C B 53 r104_4 o104_4_6 (φ, H) = gdT φ 21 true (fun φ => (some (fput φ 24 (.tup []), H)).map fun s => (s, ⟨false, [], []⟩)) (fun φ => some ((fput φ 24 (fget φ 9), H), ⟨false, [], []⟩)) := stT_gd (j := 3) (oj := o104_4_3) rfl rfl rfl (fun _ => rfl) (fun _ => goT_mv rfl rfl)
theorem s104_4_7 : stepT E C B 53 r104_4 o104_4_7 (φ, H) = gdT φ 21 true (fun φ => (some (fput φ 25 (.tup []), H)).map fun s => (s, ⟨false, [], []⟩)) (fun φ => stpT (some 25) φ H (just (aIndexAddr E.T 22 (fget φ 23) (fget φ 24)))) := stT_gd (j := 3) (oj := o104_4_3) rfl rfl rfl (fun _ => rfl) (fun _ => goT_R rfl rfl)
theorem s104_4_8 : stepT E C B 53 r104_4 o104_4_8 (φ, H) = gdT φ 21 true (fun φ => (some (fput φ 26 (.tup []), H)).map fun s => (s, ⟨false, [], []⟩)) (fun φ => stpT (some 26) φ H (just (aLoad E.T 45 (fget φ 25)))) := stT_gd (j := 3) (oj := o104_4_3) rfl rfl rfl (fun _ => rfl) (fun _ => goT_R rfl rfl)
theorem s104_4_9 : stepT E C B 53 r104_4 o104_4_9 (φ, H) = gdT φ 21 true (fun φ => (some (fput φ 27 (.tup []), H)).map fun s => (s, ⟨false, [], []⟩)) (fun φ => some ((fput φ 27 (fget φ 0), H), ⟨false, [], []⟩)) := stT_gd (j := 3) (oj := o104_4_3) rfl rfl rfl (fun _ => rfl) (fun _ => goT_mv rfl rfl)
theorem s104_4_10 : stepT E C B 53 r104_4 o104_4_10 (φ, H) = gdT φ 21 true (fun φ => (some (fput φ 28 (.tup []), H)).map fun s => (s, ⟨false, [], []⟩)) (fun φ => some ((fput φ 28 (fget φ 9), H), ⟨false, [], []⟩)) := stT_gd (j := 3) (oj := o104_4_3) rfl rfl rfl (fun _ => rfl) (fun _ => goT_mv rfl rfl)
theorem s104_4_11 : stepT E C B 53 r104_4 o104_4_11 (φ, H) = gdT φ 21 true (fun φ => (some (fput φ 29 (.tup []), H)).map fun s => (s, ⟨false, [], []⟩)) (fun φ => stpT (some 29) φ H (just (aBin E.T .sub 3 (fget φ 28) (.int .i64 1)))) := stT_gd (j := 3) (oj := o104_4_3) rfl rfl rfl (fun _ => rfl) (fun _ => goT_R rfl rfl)
theorem s104_4_12 : stepT E C B 53 r104_4 o104_4_12 (φ, H) = gdT φ 21 true (fun φ => (some (fput φ 30 (.tup []), H)).map fun s => (s, ⟨false, [], []⟩)) (fun φ => stpT (some 30) φ H (just (aIndexAddr E.T 22 (fget φ 27) (fget φ 29)))) := stT_gd (j := 3) (oj := o104_4_3) rfl rfl rfl (fun _ => rfl) (fun _ => goT_R rfl rfl)
theorem s104_4_13 : stepT E C B 53 r104_4 o104_4_13 (φ, H) = gdT φ 21 true (fun φ => (some (fput φ 31 (.tup []), H)).map fun s => (s, ⟨false, [], []⟩)) (fun φ => stpT (some 31) φ H (just (aLoad E.T 45 (fget φ 30)))) := stT_gd (j := 3) (oj := o104_4_3) rfl rfl rfl (fun _ => rfl) (fun _ => goT_R rfl rfl)
theorem s104_4_14 : stepT E C B 53 r104_4 o104_4_14 (φ, H) = gdT φ 21 true (fun φ => (some (fput φ 32 (.tup []), H)).map fun s => (s, ⟨false, [], []⟩)) (fun φ => callVT E C (B + 53 * 8) (some 32) (fun j => B + j * 53 + 32) φ H (fget φ 22) [(fget φ 26), (fget φ 31)] true) := stT_gd (j := 3) (oj := o104_4_3) rfl rfl rfl (fun _ => rfl) (fun _ => goT_V rfl rfl)
theorem s104_4_15 : stepT E C B 53 r104_4 o104_4_15 (φ, H) = gdT φ 21 true (fun φ => (some (fput φ 33 (.tup []), H)).map fun s => (s, ⟨false, [], []⟩)) (fun φ => stpT (some 33) φ H (just (aBin E.T .lss 3 (fget φ 32) (.int .i64 0)))) := stT_gd (j := 3) (oj := o104_4_3) rfl rfl rfl (fun _ => rfl) (fun _ => goT_R rfl rfl)
theorem s104_4_16 : stepT E C B 53 r104_4 o104_4_16 (φ, H) = stpT (some 34) φ H (opPick (fget φ 21) (fget φ 33) (.bool false)) := stT_go rfl (goT_R rfl rfl)
noncomputable def c104_19 : Code := kR c104_17
noncomputable def c104_20 : Code := kT c104_19
theorem x104_20 : execA E C (fg 104) B 53 E0 N c104_20 s = some (.normal, s) := x_skip (by rfl) s
noncomputable def c104_21 : Code := kE c104_19
theorem x104_21 : execA E C (fg 104) B 53 E0 N c104_21 s = some (.exit 2, s) := x_exit (by rfl) s
theorem x104_19 : execA E C (fg 104) B 53 E0 N c104_19 (φ, H) = condX (fget φ 34) (execA E C (fg 104) B 53 E0 N c104_20 (φ, H)) (execA E C (fg 104) B 53 E0 N c104_21 (φ, H)) := x_cond (by rfl) _
theorem x104_17 : execA E C (fg 104) B 53 E0 N c104_17 s = seqX (execA E C (fg 104) B 53 E0 N c104_18 s) (execA E C (fg 104) B 53 E0 N c104_19) := x_seq (by rfl) s
noncomputable def c104_22 : Code := kR c104_16
noncomputable def c104_23 : Code := kL c104_22
noncomputable def c104_24 : Code := kB c104_23
noncomputable def r104_6 : Array Oper := kO c104_24
noncomputable def o104_6_0 : Oper := opN r104_6 0
noncomputable def o104_6_1 : Oper := opN r104_6 1
noncomputable def o104_6_2 : Oper := opN r104_6 2
noncomputable def o104_6_3 : Oper := opN r104_6 3
noncomputable def o104_6_4 : Oper := opN r104_6 4
noncomputable def o104_6_5 : Oper := opN r104_6 5
noncomputable def o104_6_6 : Oper := opN r104_6 6
noncomputable def o104_6_7 : Oper := opN r104_6 7
noncomputable def o104_6_8 : Oper := opN r104_6 8
noncomputable def o104_6_9 : Oper := opN r104_6 9
noncomputable def o104_6_10 : Oper := opN r104_6 10
noncomputable def o104_6_11 : Oper := opN r104_6 11
noncomputable def o104_6_12 : Oper := opN r104_6 12
noncomputable def o104_6_13 : Oper := opN r104_6 13
noncomputable def o104_6_14 : Oper := opN r104_6 14
noncomputable def o104_6_15 : Oper := opN r104_6 15
noncomputable def o104_6_16 : Oper := opN r104_6 16
noncomputable def o104_6_17 : Oper := opN r104_6 17
theorem x104_24 : execA E C (fg 104) B 53 E0 N c104_24 s = regX (drawA E C B 53 r104_6 s) (fun s => gcM E0 [34, 37, 38, 39, 40, 41, 42, 43, 44, 45, 46, 47, 48, 49, 50, 51, 52] (forget s.1 [34, 37, 38, 39, 40, 41, 42, 43, 44, 45, 46, 47, 48, 49, 50, 51, 52], s.2)) := x_draw (ops := r104_6) (by rfl) (by rfl) s
theorem r104_6_l : r104_6.toList = [o104_6_0, o104_6_1, o104_6_2, o104_6_3, o104_6_4, o104_6_5, o104_6_6, o104_6_7, o104_6_8, o104_6_9, o104_6_10, o104_6_11, o104_6_12, o104_6_13, o104_6_14, o104_6_15, o104_6_16, o104_6_17] := nrfl rfl
theorem r104_6_st : statOk r104_6 = true := by kernel_rfl
theorem r104_6_dr : drawA E C B 53 r104_6 s = if neat 53 s = true then drX r104_6 (runT E C B 53 r104_6 r104_6.toList 0 s) else none := draw_eq r104_6_st s
theorem r104_6_an (l : List (Nat × Tr)) : dynOk r104_6 l = (!writing l || dynPairs [[], [], [], [], [3], [], [], [6], [5, 6, 7], [5, 6, 7, 8], [], [], [10, 11], [10, 11, 12], [0, 1, 5, 6, 7, 8, 9, 10, 11, 12, 13], [0, 1, 5, 6, 7, 8, 9, 10, 11, 12, 13, 14], [0, 1, 2, 3, 4, 5, 6, 7, 8, 9, 10, 11, 12, 13, 14, 15], [0, 1, 2, 3, 4, 5, 6, 7, 8, 9, 10, 11, 12, 13, 14, 15, 16]] (touching l)) := dynOk_eq (by kernel_rfl) l
theorem s104_6_0 : stepT E C B 53 r104_6 o104_6_0 (φ, H) = some ((fput φ 37 (fget φ 0), H), ⟨false, [], []⟩) := stT_go rfl (goT_mv rfl rfl)
theorem s104_6_1 : stepT E C B 53 r104_6 o104_6_1 (φ, H) = some ((fput φ 38 (fget φ 9), H), ⟨false, [], []⟩) := stT_go rfl (goT_mv rfl rfl)
theorem s104_6_2 : stepT E C B 53 r104_6 o104_6_2 (φ, H) = some ((fput φ 39 (fget φ 0), H), ⟨false, [], []⟩) := stT_go rfl (goT_mv rfl rfl)
theorem s104_6_3 : stepT E C B 53 r104_6 o104_6_3 (φ, H) = some ((fput φ 40 (fget φ 9), H), ⟨false, [], []⟩) := stT_go rfl (goT_mv rfl rfl)
theorem s104_6_4 : stepT E C B 53 r104_6 o104_6_4 (φ, H) = stpT (some 41) φ H (just (aBin E.T .sub 3 (fget φ 40) (.int .i64 1))) := stT_go rfl (goT_R rfl rfl)
theorem s104_6_5 : stepT E C B 53 r104_6 o104_6_5 (φ, H) = some ((fput φ 42 (fget φ 0), H), ⟨false, [], []⟩) := stT_go rfl (goT_mv rfl rfl)
theorem s104_6_6 : stepT E C B 53 r104_6 o104_6_6 (φ, H) = some ((fput φ 43 (fget φ 9), H), ⟨false, [], []⟩) := stT_go rfl (goT_mv rfl rfl)
theorem s104_6_7 : stepT E C B 53 r104_6 o104_6_7 (φ, H) = stpT (some 44) φ H (just (aBin E.T .sub 3 (fget φ 43) (.int .i64 1))) := stT_go rfl (goT_R rfl rfl)
theorem s104_6_8 : stepT E C B 53 r104_6 o104_6_8 (φ, H) = stpT (some 45) φ H (just (aIndexAddr E.T 22 (fget φ 42) (fget φ 44))) := stT_go rfl (goT_R rfl rfl)
theorem s104_6_9 : stepT E C B 53 r104_6 o104_6_9 (φ, H) = stpT (some 46) φ H (just (aLoad E.T 45 (fget φ 45))) := stT_go rfl (goT_R rfl rfl)
theorem s104_6_10 : stepT E C B 53 r104_6 o104_6_10 (φ, H) = some ((fput φ 47 (fget φ 0), H), ⟨false, [], []⟩) := stT_go rfl (goT_mv rfl rfl)
theorem s104_6_11 : stepT E C B 53 r104_6 o104_6_11 (φ, H) = some ((fput φ 48 (fget φ 9), H), ⟨false, [], []⟩) := stT_go rfl (goT_mv rfl rfl)
theorem s104_6_12 : stepT E C B 53 r104_6 o104_6_12 (φ, H) = stpT (some 49) φ H (just (aIndexAddr E.T 22 (fget φ 47) (fget φ 48))) := stT_go rfl (goT_R rfl rfl)
theorem s104_6_13 : stepT E C B 53 r104_6 o104_6_13 (φ, H) = stpT (some 50) φ H (just (aLoad E.T 45 (fget φ 49))) := stT_go rfl (goT_R rfl rfl)
theorem s104_6_14 : stepT E C B 53 r104_6 o104_6_14 (φ, H) = stpT (some 51) φ H (just (aIndexAddr E.T 22 (fget φ 37) (fget φ 38))) := stT_go rfl (goT_R rfl rfl)
theorem s104_6_15 : stepT E C B 53 r104_6 o104_6_15 (φ, H) = stpT none φ H (opStore E.T 45 (fget φ 51) (fget φ 46)) := stT_go rfl (goT_R rfl rfl)
theorem s104_6_16 : stepT E C B 53 r104_6 o104_6_16 (φ, H) = stpT (some 52) φ H (just (aIndexAddr E.T 22 (fget φ 39) (fget φ 41))) := stT_go rfl (goT_R rfl rfl)
theorem s104_6_17 : stepT E C B 53 r104_6 o104_6_17 (φ, H) = stpT none φ H (opStore E.T 45 (fget φ 52) (fget φ 50)) := stT_go rfl (goT_R rfl rfl)
theorem x104_23 : execA E C (fg 104) B 53 E0 N c104_23 s = blockX 3 (fun s => (forget s.1 [], s.2)) (execA E C (fg 104) B 53 E0 N c104_24 s) := x_block (by rfl) (by rfl) s
noncomputable def c104_25 : Code := kR c104_22
noncomputable def r104_5 : Array Oper := kO c104_25
noncomputable def o104_5_0 : Oper := opN r104_5 0
noncomputable def o104_5_1 : Oper := opN r104_5 1
noncomputable def o104_5_2 : Oper := opN r104_5 2
theorem x104_25 : execA E C (fg 104) B 53 E0 N c104_25 s = regX (runA E C B 53 r104_5 r104_5.toList s) (fun s => gcM E0 [35, 36] (forget s.1 [35, 36], s.2)) := x_reg (ops := r104_5) (by rfl) (by rfl) s
theorem r104_5_l : r104_5.toList = [o104_5_0, o104_5_1, o104_5_2] := nrfl rfl
theorem s104_5_0 : stepA E C B 53 r104_5 o104_5_0 (φ, H) = some (fput φ 35 (fget φ 9), H) := nrfl rfl
theorem s104_5_1 : stepA E C B 53 r104_5 o104_5_1 (φ, H) = stp (some 36) φ H (just (aBin E.T .sub 3 (fget φ 35) (.int .i64 1))) := nrfl rfl
theorem s104_5_2 : stepA E C B 53 r104_5 o104_5_2 (φ, H) = some (fput φ 9 (fget φ 36), H) := nrfl rfl
theorem x104_22 : execA E C (fg 104) B 53 E0 N c104_22 s = seqX (execA E C (fg 104) B 53 E0 N c104_23 s) (execA E C (fg 104) B 53 E0 N c104_25) := x_seq (by rfl) s
theorem x104_16 : execA E C (fg 104) B 53 E0 N c104_16 s = seqX (execA E C (fg 104) B 53 E0 N c104_17 s) (execA E C (fg 104) B 53 E0 N c104_22) := x_seq (by rfl) s
theorem x104_15 : execA E C (fg 104) B 53 E0 N c104_15 s = iterA (execA E C (fg 104) B 53 E0 N c104_16) (headA E0) N s := x_loop (by rfl) s
theorem x104_14 : execA E C (fg 104) B 53 E0 N c104_14 s = blockX 2 (fun s => (forget s.1 [9, 34], s.2)) (execA E C (fg 104) B 53 E0 N c104_15 s) := x_block (by rfl) (by rfl) s
theorem x104_12 : execA E C (fg 104) B 53 E0 N c104_12 s = seqX (execA E C (fg 104) B 53 E0 N c104_13 s) (execA E C (fg 104) B 53 E0 N c104_14) := x_seq (by rfl) s
theorem x104_11 : execA E C (fg 104) B 53 E0 N c104_11 s = blockX 1 (fun s => (forget s.1 [], s.2)) (execA E C (fg 104) B 53 E0 N c104_12 s) := x_block (by rfl) (by rfl) s
noncomputable def c104_26 : Code := kR c104_10
noncomputable def r104_2 : Array Oper := kO c104_26
noncomputable def o104_2_0 : Oper := opN r104_2 0
noncomputable def o104_2_1 : Oper := opN r104_2 1
noncomputable def o104_2_2 : Oper := opN r104_2 2
theorem x104_26 : execA E C (fg 104) B 53 E0 N c104_26 s = regX (runA E C B 53 r104_2 r104_2.toList s) (fun s => gcM E0 [15, 16] (forget s.1 [15, 16], s.2)) := x_reg (ops := r104_2) (by rfl) (by rfl) s
theorem r104_2_l : r104_2.toList = [o104_2_0, o104_2_1, o104_2_2] := nrfl rfl
theorem s104_2_0 : stepA E C B 53 r104_2 o104_2_0 (φ, H) = some (fput φ 15 (fget φ 8), H) := nrfl rfl
theorem s104_2_1 : stepA E C B 53 r104_2 o104_2_1 (φ, H) = stp (some 16) φ H (just (aBin E.T .add 3 (fget φ 15) (.int .i64 1))) := nrfl rfl
theorem s104_2_2 : stepA E C B 53 r104_2 o104_2_2 (φ, H) = some (fput φ 8 (fget φ 16), H) := nrfl rfl
theorem x104_10 : execA E C (fg 104) B 53 E0 N c104_10 s = seqX (execA E C (fg 104) B 53 E0 N c104_11 s) (execA E C (fg 104) B 53 E0 N c104_26) := x_seq (by rfl) s
theorem x104_4 : execA E C (fg 104) B 53 E0 N c104_4 s = seqX (execA E C (fg 104) B 53 E0 N c104_5 s) (execA E C (fg 104) B 53 E0 N c104_10) := x_seq (by rfl) s
theorem x104_3 : execA E C (fg 104) B 53 E0 N c104_3 s = iterA (execA E C (fg 104) B 53 E0 N c104_4) (headA E0) N s := x_loop (by rfl) s
theorem x104_2 : execA E C (fg 104) B 53 E0 N c104_2 s = blockX 0 (fun s => (forget s.1 [0, 1, 2, 3, 8, 14], s.2)) (execA E C (fg 104) B 53 E0 N c104_3 s) := x_block (by rfl) (by rfl) s
theorem x104_0 : execA E C (fg 104) B 53 E0 N c104_0 s = seqX (execA E C (fg 104) B 53 E0 N c104_1 s) (execA E C (fg 104) B 53 E0 N c104_2) := x_seq (by rfl) s
theorem fi_104 : fInfo E 104 = some ⟨53, #[], c104_0⟩ := nrfl rfl
theorem b_104 (args : List AV) : bodyA E C fg N 104 args H B = bodyX E [] (execA E C (fg 104) B 53 H N c104_0 (frame0 args 0 [], H)) := bodyA_eq fi_104 args H
noncomputable def c18_0 : Code := kBody Proofs.Try.f18
noncomputable def c18_1 : Code := kL c18_0
noncomputable def r18_0 : Array Oper := kO c18_1
noncomputable def o18_0_0 : Oper := opN r18_0 0
noncomputable def o18_0_1 : Oper := opN r18_0 1
theorem x18_1 : execA E C (fg 18) B 53 E0 N c18_1 s = regX (runA E C B 53 r18_0 r18_0.toList s) (fun s => gcM E0 [8, 9] (forget s.1 [8, 9], s.2)) := x_reg (ops := r18_0) (by rfl) (by rfl) s
theorem r18_0_l : r18_0.toList = [o18_0_0, o18_0_1] := nrfl rfl
theorem s18_0_0 : stepA E C B 53 r18_0 o18_0_0 (φ, H) = some (fput φ 8 (.nilsl), H) := nrfl rfl
theorem s18_0_1 : stepA E C B 53 r18_0 o18_0_1 (φ, H) = some (fput φ 9 (.int .i64 0), H) := nrfl rfl
noncomputable def c18_2 : Code := kR c18_0
noncomputable def c18_3 : Code := kL c18_2
noncomputable def r18_1 : Array Oper := kO c18_3
noncomputable def o18_1_0 : Oper := opN r18_1 0
noncomputable def o18_1_1 : Oper := opN r18_1 1
noncomputable def o18_1_2 : Oper := opN r18_1 2
noncomputable def o18_1_3 : Oper := opN r18_1 3
theorem x18_3 : execA E C (fg 18) B 53 E0 N c18_3 s = regX (runA E C B 53 r18_1 r18_1.toList s) (fun s => gcM E0 [12, 13, 14] (forget s.1 [12, 13, 14], s.2)) := x_reg (ops := r18_1) (by rfl) (by rfl) s
theorem r18_1_l : r18_1.toList = [o18_1_0, o18_1_1, o18_1_2, o18_1_3] := nrfl rfl
theorem s18_1_0 : stepA E C B 53 r18_1 o18_1_0 (φ, H) = some (fput φ 12 (fget φ 0), H) := nrfl rfl
theorem s18_1_1 : stepA E C B 53 r18_1 o18_1_1 (φ, H) = some (fput φ 13 (fget φ 1), H) := nrfl rfl
theorem s18_1_2 : stepA E C B 53 r18_1 o18_1_2 (φ, H) = stp (some 14) φ H (aCall C (fun j => B + j * 53 + 14) true 57 [(fget φ 12), (fget φ 13)]) := nrfl rfl
theorem s18_1_3 : stepA E C B 53 r18_1 o18_1_3 (φ, H) = some (fput φ 10 (fget φ 14), H) := nrfl rfl
noncomputable def c18_4 : Code := kR c18_2
noncomputable def c18_5 : Code := kL c18_4
noncomputable def c18_6 : Code := kB c18_5
noncomputable def c18_7 : Code := kL c18_6
noncomputable def r18_2 : Array Oper := kO c18_7
noncomputable def o18_2_0 : Oper := opN r18_2 0
noncomputable def o18_2_1 : Oper := opN r18_2 1
noncomputable def o18_2_2 : Oper := opN r18_2 2
theorem x18_7 : execA E C (fg 18) B 53 E0 N c18_7 s = regX (runA E C B 53 r18_2 r18_2.toList s) (fun s => gcM E0 [16, 17] (forget s.1 [16, 17], s.2)) := x_reg (ops := r18_2) (by rfl) (by rfl) s
theorem r18_2_l : r18_2.toList = [o18_2_0, o18_2_1, o18_2_2] := nrfl rfl
theorem s18_2_0 : stepA E C B 53 r18_2 o18_2_0 (φ, H) = some (fput φ 16 (fget φ 10), H) := nrfl rfl
theorem s18_2_1 : stepA E C B 53 r18_2 o18_2_1 (φ, H) = stp (some 17) φ H (just (aBin E.T .neq 28 (fget φ 16) (.int .i64 0))) := nrfl rfl
theorem s18_2_2 : stepA E C B 53 r18_2 o18_2_2 (φ, H) = some (fput φ 15 (fget φ 17), H) := nrfl rfl
noncomputable def c18_8 : Code := kR c18_6
noncomputable def c18_9 : Code := kT c18_8
noncomputable def c18_10 : Code := kL c18_9
noncomputable def r18_3 : Array Oper := kO c18_10
noncomputable def o18_3_0 : Oper := opN r18_3 0
noncomputable def o18_3_1 : Oper := opN r18_3 1
noncomputable def o18_3_2 : Oper := opN r18_3 2
theorem x18_10 : execA E C (fg 18) B 53 E0 N c18_10 s = regX (runA E C B 53 r18_3 r18_3.toList s) (fun s => gcM E0 [0, 1, 2, 3, 10, 15, 18] (forget s.1 [0, 1, 2, 3, 10, 15, 18], s.2)) := x_reg (ops := r18_3) (by rfl) (by rfl) s
theorem r18_3_l : r18_3.toList = [o18_3_0, o18_3_1, o18_3_2] := nrfl rfl
theorem s18_3_0 : stepA E C B 53 r18_3 o18_3_0 (φ, H) = some (fput φ 18 (fget φ 10), H) := nrfl rfl
theorem s18_3_1 : stepA E C B 53 r18_3 o18_3_1 (φ, H) = some (fput φ 8 (.nilsl), H) := nrfl rfl
theorem s18_3_2 : stepA E C B 53 r18_3 o18_3_2 (φ, H) = some (fput φ 9 (fget φ 18), H) := nrfl rfl
noncomputable def c18_11 : Code := kR c18_9
theorem x18_11 : execA E C (fg 18) B 53 E0 N c18_11 s = some (.ret, s) := x_ret (by rfl) s
theorem x18_9 : execA E C (fg 18) B 53 E0 N c18_9 s = seqX (execA E C (fg 18) B 53 E0 N c18_10 s) (execA E C (fg 18) B 53 E0 N c18_11) := x_seq (by rfl) s
noncomputable def c18_12 : Code := kE c18_8
noncomputable def c18_13 : Code := kL c18_12
noncomputable def r18_4 : Array Oper := kO c18_13
noncomputable def o18_4_0 : Oper := opN r18_4 0
noncomputable def o18_4_1 : Oper := opN r18_4 1
noncomputable def o18_4_2 : Oper := opN r18_4 2
noncomputable def o18_4_3 : Oper := opN r18_4 3
theorem x18_13 : execA E C (fg 18) B 53 E0 N c18_13 s = regX (runA E C B 53 r18_4 r18_4.toList s) (fun s => gcM E0 [10, 15, 20, 21, 22] (forget s.1 [10, 15, 20, 21, 22], s.2)) := x_reg (ops := r18_4) (by rfl) (by rfl) s
theorem r18_4_l : r18_4.toList = [o18_4_0, o18_4_1, o18_4_2, o18_4_3] := nrfl rfl
theorem s18_4_0 : stepA E C B 53 r18_4 o18_4_0 (φ, H) = some (fput φ 20 (fget φ 2), H) := nrfl rfl
theorem s18_4_1 : stepA E C B 53 r18_4 o18_4_1 (φ, H) = some (fput φ 21 (fget φ 3), H) := nrfl rfl
theorem s18_4_2 : stepA E C B 53 r18_4 o18_4_2 (φ, H) = stp (some 22) φ H (just (aBin E.T .gtr 3 (fget φ 20) (fget φ 21))) := nrfl rfl
theorem s18_4_3 : stepA E C B 53 r18_4 o18_4_3 (φ, H) = some (fput φ 19 (fget φ 22), H) := nrfl rfl
noncomputable def c18_14 : Code := kR c18_12
noncomputable def c18_15 : Code := kT c18_14
noncomputable def c18_16 : Code := kL c18_15
noncomputable def r18_5 : Array Oper := kO c18_16
noncomputable def o18_5_0 : Oper := opN r18_5 0
noncomputable def o18_5_1 : Oper := opN r18_5 1
theorem x18_16 : execA E C (fg 18) B 53 E0 N c18_16 s = regX (runA E C B 53 r18_5 r18_5.toList s) (fun s => gcM E0 [0, 1, 2, 3, 19] (forget s.1 [0, 1, 2, 3, 19], s.2)) := x_reg (ops := r18_5) (by rfl) (by rfl) s
theorem r18_5_l : r18_5.toList = [o18_5_0, o18_5_1] := nrfl rfl
theorem s18_5_0 : stepA E C B 53 r18_5 o18_5_0 (φ, H) = some (fput φ 8 (.nilsl), H) := nrfl rfl
theorem s18_5_1 : stepA E C B 53 r18_5 o18_5_1 (φ, H) = some (fput φ 9 (.int .i64 7), H) := nrfl rfl
noncomputable def c18_17 : Code := kR c18_15
theorem x18_17 : execA E C (fg 18) B 53 E0 N c18_17 s = some (.ret, s) := x_ret (by rfl) s
theorem x18_15 : execA E C (fg 18) B 53 E0 N c18_15 s = seqX (execA E C (fg 18) B 53 E0 N c18_16 s) (execA E C (fg 18) B 53 E0 N c18_17) := x_seq (by rfl) s
noncomputable def c18_18 : Code := kE c18_14
noncomputable def c18_19 : Code := kL c18_18
noncomputable def r18_6 : Array Oper := kO c18_19
noncomputable def o18_6_0 : Oper := opN r18_6 0
noncomputable def o18_6_1 : Oper := opN r18_6 1
noncomputable def o18_6_2 : Oper := opN r18_6 2
noncomputable def o18_6_3 : Oper := opN r18_6 3
noncomputable def o18_6_4 : Oper := opN r18_6 4
noncomputable def o18_6_5 : Oper := opN r18_6 5
noncomputable def o18_6_6 : Oper := opN r18_6 6
noncomputable def o18_6_7 : Oper := opN r18_6 7
noncomputable def o18_6_8 : Oper := opN r18_6 8
noncomputable def o18_6_9 : Oper := opN r18_6 9
noncomputable def o18_6_10 : Oper := opN r18_6 10
noncomputable def o18_6_11 : Oper := opN r18_6 11
noncomputable def o18_6_12 : Oper := opN r18_6 12
noncomputable def o18_6_13 : Oper := opN r18_6 13
noncomputable def o18_6_14 : Oper := opN r18_6 14
noncomputable def o18_6_15 : Oper := opN r18_6 15
noncomputable def o18_6_16 : Oper := opN r18_6 16
theorem x18_19 : execA E C (fg 18) B 53 E0 N c18_19 s = regX (runA E C B 53 r18_6 r18_6.toList s) (fun s => gcM E0 [19, 24, 25, 26, 27, 28, 29, 30, 31, 32, 33, 34, 35, 36, 37, 38, 39] (forget s.1 [19, 24, 25, 26, 27, 28, 29, 30, 31, 32, 33, 34, 35, 36, 37, 38, 39], s.2)) := x_reg (ops := r18_6) (by rfl) (by rfl) s
theorem r18_6_l : r18_6.toList = [o18_6_0, o18_6_1, o18_6_2, o18_6_3, o18_6_4, o18_6_5, o18_6_6, o18_6_7, o18_6_8, o18_6_9, o18_6_10, o18_6_11, o18_6_12, o18_6_13, o18_6_14, o18_6_15, o18_6_16] := nrfl rfl
theorem s18_6_0 : stepA E C B 53 r18_6 o18_6_0 (φ, H) = some (fput φ 24 (fget φ 2), H) := nrfl rfl
theorem s18_6_1 : stepA E C B 53 r18_6 o18_6_1 (φ, H) = some (fput φ 25 (fget φ 0), H) := nrfl rfl
theorem s18_6_2 : stepA E C B 53 r18_6 o18_6_2 (φ, H) = some (fput φ 26 (fget φ 1), H) := nrfl rfl
theorem s18_6_3 : stepA E C B 53 r18_6 o18_6_3 (φ, H) = stp (some 27) φ H (just (aIndexAddr E.T 22 (fget φ 25) (fget φ 26))) := nrfl rfl
theorem s18_6_4 : stepA E C B 53 r18_6 o18_6_4 (φ, H) = stp (some 28) φ H (just (aFieldAddr E.T 45 (fget φ 27) 2)) := nrfl rfl
theorem s18_6_5 : stepA E C B 53 r18_6 o18_6_5 (φ, H) = stp (some 29) φ H (just (aLoad E.T 3 (fget φ 28))) := nrfl rfl
theorem s18_6_6 : stepA E C B 53 r18_6 o18_6_6 (φ, H) = stp (some 30) φ H (just (aBin E.T .lss 3 (fget φ 24) (fget φ 29))) := nrfl rfl
theorem s18_6_7 : stepA E C B 53 r18_6 o18_6_7 (φ, H) = some (fput φ 31 (fget φ 30), H) := nrfl rfl
theorem s18_6_8 : stepA E C B 53 r18_6 o18_6_8 (φ, H) = gd φ 31 false (fun φ => some (fput φ 32 (.tup []), H)) (fun φ => some (fput φ 32 (fget φ 3), H)) := s_gd (j := 7) (oj := o18_6_7) rfl rfl rfl (fun _ => rfl) (fun _ => rfl)
theorem s18_6_9 : stepA E C B 53 r18_6 o18_6_9 (φ, H) = gd φ 31 false (fun φ => some (fput φ 33 (.tup []), H)) (fun φ => some (fput φ 33 (fget φ 0), H)) := s_gd (j := 7) (oj := o18_6_7) rfl rfl rfl (fun _ => rfl) (fun _ => rfl)
theorem s18_6_10 : stepA E C B 53 r18_6 o18_6_10 (φ, H) = gd φ 31 false (fun φ => some (fput φ 34 (.tup []), H)) (fun φ => some (fput φ 34 (fget φ 1), H)) := s_gd (j := 7) (oj := o18_6_7) rfl rfl rfl (fun _ => rfl) (fun _ => rfl)
theorem s18_6_11 : stepA E C B 53 r18_6 o18_6_11 (φ, H) = gd φ 31 false (fun φ => some (fput φ 35 (.tup []), H)) (fun φ => stp (some 35) φ H (just (aIndexAddr E.T 22 (fget φ 33) (fget φ 34)))) := s_gd (j := 7) (oj := o18_6_7) rfl rfl rfl (fun _ => rfl) (fun _ => rfl)
theorem s18_6_12 : stepA E C B 53 r18_6 o18_6_12 (φ, H) = gd φ 31 false (fun φ => some (fput φ 36 (.tup []), H)) (fun φ => stp (some 36) φ H (just (aFieldAddr E.T 45 (fget φ 35) 3))) := s_gd (j := 7) (oj := o18_6_7) rfl rfl rfl (fun _ => rfl) (fun _ => rfl)
theorem s18_6_13 : stepA E C B 53 r18_6 o18_6_13 (φ, H) = gd φ 31 false (fun φ => some (fput φ 37 (.tup []), H)) (fun φ => stp (some 37) φ H (just (aLoad E.T 3 (fget φ 36)))) := s_gd (j := 7) (oj := o18_6_7) rfl rfl rfl (fun _ => rfl) (fun _ => rfl)
theorem s18_6_14 : stepA E C B 53 r18_6 o18_6_14 (φ, H) = gd φ 31 false (fun φ => some (fput φ 38 (.tup []), H)) (fun φ => stp (some 38) φ H (just (aBin E.T .gtr 3 (fget φ 32) (fget φ 37)))) := s_gd (j := 7) (oj := o18_6_7) rfl rfl rfl (fun _ => rfl) (fun _ => rfl)
theorem s18_6_15 : stepA E C B 53 r18_6 o18_6_15 (φ, H) = stp (some 39) φ H (opPick (fget φ 31) (.bool true) (fget φ 38)) := nrfl rfl
theorem s18_6_16 : stepA E C B 53 r18_6 o18_6_16 (φ, H) = some (fput φ 23 (fget φ 39), H) := nrfl rfl
noncomputable def c18_20 : Code := kR c18_18
noncomputable def c18_21 : Code := kT c18_20
noncomputable def c18_22 : Code := kL c18_21
noncomputable def r18_7 : Array Oper := kO c18_22
noncomputable def o18_7_0 : Oper := opN r18_7 0
noncomputable def o18_7_1 : Oper := opN r18_7 1
theorem x18_22 : execA E C (fg 18) B 53 E0 N c18_22 s = regX (runA E C B 53 r18_7 r18_7.toList s) (fun s => gcM E0 [0, 1, 2, 3, 23] (forget s.1 [0, 1, 2, 3, 23], s.2)) := x_reg (ops := r18_7) (by rfl) (by rfl) s
theorem r18_7_l : r18_7.toList = [o18_7_0, o18_7_1] := nrfl rfl
theorem s18_7_0 : stepA E C B 53 r18_7 o18_7_0 (φ, H) = some (fput φ 8 (.nilsl), H) := nrfl rfl
theorem s18_7_1 : stepA E C B 53 r18_7 o18_7_1 (φ, H) = some (fput φ 9 (.int .i64 1), H) := nrfl rfl
noncomputable def c18_23 : Code := kR c18_21
theorem x18_23 : execA E C (fg 18) B 53 E0 N c18_23 s = some (.ret, s) := x_ret (by rfl) s
theorem x18_21 : execA E C (fg 18) B 53 E0 N c18_21 s = seqX (execA E C (fg 18) B 53 E0 N c18_22 s) (execA E C (fg 18) B 53 E0 N c18_23) := x_seq (by rfl) s
noncomputable def c18_24 : Code := kE c18_20
theorem x18_24 : execA E C (fg 18) B 53 E0 N c18_24 s = some (.normal, s) := x_skip (by rfl) s
theorem x18_20 : execA E C (fg 18) B 53 E0 N c18_20 (φ, H) = condX (fget φ 23) (execA E C (fg 18) B 53 E0 N c18_21 (φ, H)) (execA E C (fg 18) B 53 E0 N c18_24 (φ, H)) := x_cond (by rfl) _
theorem x18_18 : execA E C (fg 18) B 53 E0 N c18_18 s = seqX (execA E C (fg 18) B 53 E0 N c18_19 s) (execA E C (fg 18) B 53 E0 N c18_20) := x_seq (by rfl) s
theorem x18_14 : execA E C (fg 18) B 53 E0 N c18_14 (φ, H) = condX (fget φ 19) (execA E C (fg 18) B 53 E0 N c18_15 (φ, H)) (execA E C (fg 18) B 53 E0 N c18_18 (φ, H)) := x_cond (by rfl) _
theorem x18_12 : execA E C (fg 18) B 53 E0 N c18_12 s = seqX (execA E C (fg 18) B 53 E0 N c18_13 s) (execA E C (fg 18) B 53 E0 N c18_14) := x_seq (by rfl) s
theorem x18_8 : execA E C (fg 18) B 53 E0 N c18_8 (φ, H) = condX (fget φ 15) (execA E C (fg 18) B 53 E0 N c18_9 (φ, H)) (execA E C (fg 18) B 53 E0 N c18_12 (φ, H)) := x_cond (by rfl) _
theorem x18_6 : execA E C (fg 18) B 53 E0 N c18_6 s = seqX (execA E C (fg 18) B 53 E0 N c18_7 s) (execA E C (fg 18) B 53 E0 N c18_8) := x_seq (by rfl) s
theorem x18_5 : execA E C (fg 18) B 53 E0 N c18_5 s = blockX 0 (fun s => (forget s.1 [23], s.2)) (execA E C (fg 18) B 53 E0 N c18_6 s) := x_block (by rfl) (by rfl) s
noncomputable def c18_25 : Code := kR c18_4
noncomputable def c18_26 : Code := kL c18_25
noncomputable def r18_8 : Array Oper := kO c18_26
noncomputable def o18_8_0 : Oper := opN r18_8 0
noncomputable def o18_8_1 : Oper := opN r18_8 1
noncomputable def o18_8_2 : Oper := opN r18_8 2
theorem x18_26 : execA E C (fg 18) B 53 E0 N c18_26 s = regX (runA E C B 53 r18_8 r18_8.toList s) (fun s => gcM E0 [0, 40, 41] (forget s.1 [0, 40, 41], s.2)) := x_reg (ops := r18_8) (by rfl) (by rfl) s
theorem r18_8_l : r18_8.toList = [o18_8_0, o18_8_1, o18_8_2] := nrfl rfl
theorem s18_8_0 : stepA E C B 53 r18_8 o18_8_0 (φ, H) = some (fput φ 40 (fget φ 0), H) := nrfl rfl
theorem s18_8_1 : stepA E C B 53 r18_8 o18_8_1 (φ, H) = stp (some 41) φ H (aCall C (fun j => B + j * 53 + 41) true 41 [(fget φ 40)]) := nrfl rfl
theorem s18_8_2 : stepA E C B 53 r18_8 o18_8_2 (φ, H) = some (fput φ 11 (fget φ 41), H) := nrfl rfl
noncomputable def c18_27 : Code := kR c18_25
noncomputable def c18_28 : Code := kL c18_27
noncomputable def r18_9 : Array Oper := kO c18_28
noncomputable def o18_9_0 : Oper := opN r18_9 0
noncomputable def o18_9_1 : Oper := opN r18_9 1
noncomputable def o18_9_2 : Oper := opN r18_9 2
noncomputable def o18_9_3 : Oper := opN r18_9 3
noncomputable def o18_9_4 : Oper := opN r18_9 4
noncomputable def o18_9_5 : Oper := opN r18_9 5
noncomputable def o18_9_6 : Oper := opN r18_9 6
noncomputable def o18_9_7 : Oper := opN r18_9 7
noncomputable def o18_9_8 : Oper := opN r18_9 8
noncomputable def o18_9_9 : Oper := opN r18_9 9
noncomputable def o18_9_10 : Oper := opN r18_9 10
noncomputable def o18_9_11 : Oper := opN r18_9 11
theorem x18_28 : execA E C (fg 18) B 53 E0 N c18_28 s = regX (runA E C B 53 r18_9 r18_9.toList s) (fun s => gcM E0 [1, 2, 3, 42, 43, 44, 45, 46, 47, 48, 49, 50, 51] (forget s.1 [1, 2, 3, 42, 43, 44, 45, 46, 47, 48, 49, 50, 51], s.2)) := x_reg (ops := r18_9) (by rfl) (by rfl) s
theorem r18_9_l : r18_9.toList = [o18_9_0, o18_9_1, o18_9_2, o18_9_3, o18_9_4, o18_9_5, o18_9_6, o18_9_7, o18_9_8, o18_9_9, o18_9_10, o18_9_11] := nrfl rfl
theorem s18_9_0 : stepA E C B 53 r18_9 o18_9_0 (φ, H) = some (fput φ 42 (fget φ 11), H) := nrfl rfl
theorem s18_9_1 : stepA E C B 53 r18_9 o18_9_1 (φ, H) = some (fput φ 43 (fget φ 1), H) := nrfl rfl
theorem s18_9_2 : stepA E C B 53 r18_9 o18_9_2 (φ, H) = some (fput φ 44 (fget φ 11), H) := nrfl rfl
theorem s18_9_3 : stepA E C B 53 r18_9 o18_9_3 (φ, H) = some (fput φ 45 (fget φ 1), H) := nrfl rfl
theorem s18_9_4 : stepA E C B 53 r18_9 o18_9_4 (φ, H) = some (fput φ 46 (fget φ 2), H) := nrfl rfl
theorem s18_9_5 : stepA E C B 53 r18_9 o18_9_5 (φ, H) = some (fput φ 47 (fget φ 3), H) := nrfl rfl
theorem s18_9_6 : stepA E C B 53 r18_9 o18_9_6 (φ, H) = stp (some 48) φ H (just (aIndexAddr E.T 22 (fget φ 42) (fget φ 43))) := nrfl rfl
theorem s18_9_7 : stepA E C B 53 r18_9 o18_9_7 (φ, H) = stp (some 49) φ H (just (aFieldAddr E.T 45 (fget φ 48) 2)) := nrfl rfl
theorem s18_9_8 : stepA E C B 53 r18_9 o18_9_8 (φ, H) = stp none φ H (opStore E.T 3 (fget φ 49) (fget φ 46)) := nrfl rfl
theorem s18_9_9 : stepA E C B 53 r18_9 o18_9_9 (φ, H) = stp (some 50) φ H (just (aIndexAddr E.T 22 (fget φ 44) (fget φ 45))) := nrfl rfl
theorem s18_9_10 : stepA E C B 53 r18_9 o18_9_10 (φ, H) = stp (some 51) φ H (just (aFieldAddr E.T 45 (fget φ 50) 3)) := nrfl rfl
theorem s18_9_11 : stepA E C B 53 r18_9 o18_9_11 (φ, H) = stp none φ H (opStore E.T 3 (fget φ 51) (fget φ 47)) := nrfl rfl
noncomputable def c18_29 : Code := kR c18_27
noncomputable def c18_30 : Code := kL c18_29
noncomputable def r18_10 : Array Oper := kO c18_30
noncomputable def o18_10_0 : Oper := opN r18_10 0
noncomputable def o18_10_1 : Oper := opN r18_10 1
noncomputable def o18_10_2 : Oper := opN r18_10 2
theorem x18_30 : execA E C (fg 18) B 53 E0 N c18_30 s = regX (runA E C B 53 r18_10 r18_10.toList s) (fun s => gcM E0 [11, 52] (forget s.1 [11, 52], s.2)) := x_reg (ops := r18_10) (by rfl) (by rfl) s
theorem r18_10_l : r18_10.toList = [o18_10_0, o18_10_1, o18_10_2] := nrfl rfl
theorem s18_10_0 : stepA E C B 53 r18_10 o18_10_0 (φ, H) = some (fput φ 52 (fget φ 11), H) := nrfl rfl
theorem s18_10_1 : stepA E C B 53 r18_10 o18_10_1 (φ, H) = some (fput φ 8 (fget φ 52), H) := nrfl rfl
theorem s18_10_2 : stepA E C B 53 r18_10 o18_10_2 (φ, H) = some (fput φ 9 (.int .i64 0), H) := nrfl rfl
noncomputable def c18_31 : Code := kR c18_29
theorem x18_31 : execA E C (fg 18) B 53 E0 N c18_31 s = some (.ret, s) := x_ret (by rfl) s
theorem x18_29 : execA E C (fg 18) B 53 E0 N c18_29 s = seqX (execA E C (fg 18) B 53 E0 N c18_30 s) (execA E C (fg 18) B 53 E0 N c18_31) := x_seq (by rfl) s
theorem x18_27 : execA E C (fg 18) B 53 E0 N c18_27 s = seqX (execA E C (fg 18) B 53 E0 N c18_28 s) (execA E C (fg 18) B 53 E0 N c18_29) := x_seq (by rfl) s
theorem x18_25 : execA E C (fg 18) B 53 E0 N c18_25 s = seqX (execA E C (fg 18) B 53 E0 N c18_26 s) (execA E C (fg 18) B 53 E0 N c18_27) := x_seq (by rfl) s
theorem x18_4 : execA E C (fg 18) B 53 E0 N c18_4 s = seqX (execA E C (fg 18) B 53 E0 N c18_5 s) (execA E C (fg 18) B 53 E0 N c18_25) := x_seq (by rfl) s
theorem x18_2 : execA E C (fg 18) B 53 E0 N c18_2 s = seqX (execA E C (fg 18) B 53 E0 N c18_3 s) (execA E C (fg 18) B 53 E0 N c18_4) := x_seq (by rfl) s
theorem x18_0 : execA E C (fg 18) B 53 E0 N c18_0 s = seqX (execA E C (fg 18) B 53 E0 N c18_1 s) (execA E C (fg 18) B 53 E0 N c18_2) := x_seq (by rfl) s
theorem fi_18 : fInfo E 18 = some ⟨53, #[.tmp 8, .tmp 9], c18_0⟩ := nrfl rfl
theorem b_18 (args : List AV) : bodyA E C fg N 18 args H B = bodyX E [.tmp 8, .tmp 9] (execA E C (fg 18) B 53 H N c18_0 (frame0 args 0 [], H)) := bodyA_eq fi_18 args H
noncomputable def c42_0 : Code := kBody Proofs.Try.f42
noncomputable def c42_1 : Code := kL c42_0
noncomputable def r42_0 : Array Oper := kO c42_1
noncomputable def o42_0_0 : Oper := opN r42_0 0
theorem x42_1 : execA E C (fg 42) B 26 E0 N c42_1 s = regX (runA E C B 26 r42_0 r42_0.toList s) (fun s => gcM E0 [4] (forget s.1 [4], s.2)) := x_reg (ops := r42_0) (by rfl) (by rfl) s
theorem r42_0_l : r42_0.toList = [o42_0_0] := nrfl rfl
theorem s42_0_0 : stepA E C B 26 r42_0 o42_0_0 (φ, H) = some (fput φ 4 (.bool false), H) := nrfl rfl
noncomputable def c42_2 : Code := kR c42_0
noncomputable def c42_3 : Code := kL c42_2
noncomputable def c42_4 : Code := kL c42_3
noncomputable def r42_1 : Array Oper := kO c42_4
noncomputable def o42_1_0 : Oper := opN r42_1 0
noncomputable def o42_1_1 : Oper := opN r42_1 1
noncomputable def o42_1_2 : Oper := opN r42_1 2
noncomputable def o42_1_3 : Oper := opN r42_1 3
noncomputable def o42_1_4 : Oper := opN r42_1 4
theorem x42_4 : execA E C (fg 42) B 26 E0 N c42_4 s = regX (runA E C B 26 r42_1 r42_1.toList s) (fun s => gcM E0 [6, 7, 8, 9] (forget s.1 [6, 7, 8, 9], s.2)) := x_reg (ops := r42_1) (by rfl) (by rfl) s
theorem r42_1_l : r42_1.toList = [o42_1_0, o42_1_1, o42_1_2, o42_1_3, o42_1_4] := nrfl rfl
theorem s42_1_0 : stepA E C B 26 r42_1 o42_1_0 (φ, H) = some (fput φ 6 (fget φ 0), H) := nrfl rfl
theorem s42_1_1 : stepA E C B 26 r42_1 o42_1_1 (φ, H) = stp (some 7) φ H (aBuiltin E.T (B + 7) .len #[22] [(fget φ 6)]) := nrfl rfl
theorem s42_1_2 : stepA E C B 26 r42_1 o42_1_2 (φ, H) = some (fput φ 8 (fget φ 1), H) := nrfl rfl
theorem s42_1_3 : stepA E C B 26 r42_1 o42_1_3 (φ, H) = stp (some 9) φ H (aBuiltin E.T (B + 9) .len #[22] [(fget φ 8)]) := nrfl rfl
theorem s42_1_4 : stepA E C B 26 r42_1 o42_1_4 (φ, H) = stp (some 10) φ H (just (aBin E.T .neq 3 (fget φ 7) (fget φ 9))) := nrfl rfl
noncomputable def c42_5 : Code := kR c42_3
noncomputable def c42_6 : Code := kT c42_5
noncomputable def c42_7 : Code := kL c42_6
noncomputable def r42_2 : Array Oper := kO c42_7
noncomputable def o42_2_0 : Oper := opN r42_2 0
theorem x42_7 : execA E C (fg 42) B 26 E0 N c42_7 s = regX (runA E C B 26 r42_2 r42_2.toList s) (fun s => gcM E0 [0, 1, 10] (forget s.1 [0, 1, 10], s.2)) := x_reg (ops := r42_2) (by rfl) (by rfl) s
theorem r42_2_l : r42_2.toList = [o42_2_0] := nrfl rfl
theorem s42_2_0 : stepA E C B 26 r42_2 o42_2_0 (φ, H) = some (fput φ 4 (.bool false), H) := nrfl rfl
noncomputable def c42_8 : Code := kR c42_6
theorem x42_8 : execA E C (fg 42) B 26 E0 N c42_8 s = some (.ret, s) := x_ret (by rfl) s
theorem x42_6 : execA E C (fg 42) B 26 E0 N c42_6 s = seqX (execA E C (fg 42) B 26 E0 N c42_7 s) (execA E C (fg 42) B 26 E0 N c42_8) := x_seq (by rfl) s
noncomputable def c42_9 : Code := kE c42_5
theorem x42_9 : execA E C (fg 42) B 26 E0 N c42_9 s = some (.normal, s) := x_skip (by rfl) s
theorem x42_5 : execA E C (fg 42) B 26 E0 N c42_5 (φ, H) = condX (fget φ 10) (execA E C (fg 42) B 26 E0 N c42_6 (φ, H)) (execA E C (fg 42) B 26 E0 N c42_9 (φ, H)) := x_cond (by rfl) _
theorem x42_3 : execA E C (fg 42) B 26 E0 N c42_3 s = seqX (execA E C (fg 42) B 26 E0 N c42_4 s) (execA E C (fg 42) B 26 E0 N c42_5) := x_seq (by rfl) s
noncomputable def c42_10 : Code := kR c42_2
noncomputable def c42_11 : Code := kL c42_10
noncomputable def c42_12 : Code := kL c42_11
noncomputable def r42_3 : Array Oper := kO c42_12
noncomputable def o42_3_0 : Oper := opN r42_3 0
theorem x42_12 : execA E C (fg 42) B 26 E0 N c42_12 s = regX (runA E C B 26 r42_3 r42_3.toList s) (fun s => gcM E0 [10] (forget s.1 [10], s.2)) := x_reg (ops := r42_3) (by rfl) (by rfl) s
theorem r42_3_l : r42_3.toList = [o42_3_0] := nrfl rfl
theorem s42_3_0 : stepA E C B 26 r42_3 o42_3_0 (φ, H) = some (fput φ 5 (.int .i64 0), H) := nrfl rfl
noncomputable def c42_13 : Code := kR c42_11
noncomputable def c42_14 : Code := kB c42_13
noncomputable def c42_15 : Code := kB c42_14
noncomputable def c42_16 : Code := kL c42_15
noncomputable def c42_17 : Code := kL c42_16
noncomputable def r42_4 : Array Oper := kO c42_17
noncomputable def o42_4_0 : Oper := opN r42_4 0
noncomputable def o42_4_1 : Oper := opN r42_4 1
noncomputable def o42_4_2 : Oper := opN r42_4 2
noncomputable def o42_4_3 : Oper := opN r42_4 3
theorem x42_17 : execA E C (fg 42) B 26 E0 N c42_17 s = regX (runA E C B 26 r42_4 r42_4.toList s) (fun s => gcM E0 [11, 12, 13] (forget s.1 [11, 12, 13], s.2)) := x_reg (ops := r42_4) (by rfl) (by rfl) s
theorem r42_4_l : r42_4.toList = [o42_4_0, o42_4_1, o42_4_2, o42_4_3] := nrfl rfl
theorem s42_4_0 : stepA E C B 26 r42_4 o42_4_0 (φ, H) = some (fput φ 11 (fget φ 5), H) := nrfl rfl
theorem s42_4_1 : stepA E C B 26 r42_4 o42_4_1 (φ, H) = some (fput φ 12 (fget φ 0), H) := nrfl rfl
theorem s42_4_2 : stepA E C B 26 r42_4 o42_4_2 (φ, H) = stp (some 13) φ H (aBuiltin E.T (B + 13) .len #[22] [(fget φ 12)]) := nrfl rfl
theorem s42_4_3 : stepA E C B 26 r42_4 o42_4_3 (φ, H) = stp (some 14) φ H (just (aBin E.T .lss 3 (fget φ 11) (fget φ 13))) := nrfl rfl
noncomputable def c42_18 : Code := kR c42_16
noncomputable def c42_19 : Code := kT c42_18
theorem x42_19 : execA E C (fg 42) B 26 E0 N c42_19 s = some (.normal, s) := x_skip (by rfl) s
noncomputable def c42_20 : Code := kE c42_18
theorem x42_20 : execA E C (fg 42) B 26 E0 N c42_20 s = some (.exit 0, s) := x_exit (by rfl) s
theorem x42_18 : execA E C (fg 42) B 26 E0 N c42_18 (φ, H) = condX (fget φ 14) (execA E C (fg 42) B 26 E0 N c42_19 (φ, H)) (execA E C (fg 42) B 26 E0 N c42_20 (φ, H)) := x_cond (by rfl) _
theorem x42_16 : execA E C (fg 42) B 26 E0 N c42_16 s = seqX (execA E C (fg 42) B 26 E0 N c42_17 s) (execA E C (fg 42) B 26 E0 N c42_18) := x_seq (by rfl) s
noncomputable def c42_21 : Code := kR c42_15
noncomputable def c42_22 : Code := kL c42_21
noncomputable def c42_23 : Code := kB c42_22
noncomputable def c42_24 : Code := kL c42_23
noncomputable def r42_6 : Array Oper := kO c42_24
noncomputable def o42_6_0 : Oper := opN r42_6 0
noncomputable def o42_6_1 : Oper := opN r42_6 1
noncomputable def o42_6_2 : Oper := opN r42_6 2
noncomputable def o42_6_3 : Oper := opN r42_6 3
noncomputable def o42_6_4 : Oper := opN r42_6 4
noncomputable def o42_6_5 : Oper := opN r42_6 5
noncomputable def o42_6_6 : Oper := opN r42_6 6
noncomputable def o42_6_7 : Oper := opN r42_6 7
noncomputable def o42_6_8 : Oper := opN r42_6 8
theorem x42_24 : execA E C (fg 42) B 26 E0 N c42_24 s = regX (drawA E C B 26 r42_6 s) (fun s => gcM E0 [14, 17, 18, 19, 20, 21, 22, 23, 24] (forget s.1 [14, 17, 18, 19, 20, 21, 22, 23, 24], s.2)) := x_draw (ops := r42_6) (by rfl) (by rfl) s
theorem r42_6_l : r42_6.toList = [o42_6_0, o42_6_1, o42_6_2, o42_6_3, o42_6_4, o42_6_5, o42_6_6, o42_6_7, o42_6_8] := nrfl rfl
theorem r42_6_st : statOk r42_6 = true := by kernel_rfl
theorem r42_6_dr : drawA E C B 26 r42_6 s = if neat 26 s = true then drX r42_6 (runT E C B 26 r42_6 r42_6.toList 0 s) else none := draw_eq r42_6_st s
theorem r42_6_an (l : List (Nat × Tr)) : dynOk r42_6 l = (!writing l || dynPairs [[], [], [0, 1], [0, 1, 2], [], [], [4, 5], [4, 5, 6], [0, 1, 2, 3, 4, 5, 6, 7]] (touching l)) := dynOk_eq (by kernel_rfl) l
theorem s42_6_0 : stepT E C B 26 r42_6 o42_6_0 (φ, H) = some ((fput φ 17 (fget φ 0), H), ⟨false, [], []⟩) := stT_go rfl (goT_mv rfl rfl)
theorem s42_6_1 : stepT E C B 26 r42_6 o42_6_1 (φ, H) = some ((fput φ 18 (fget φ 5), H), ⟨false, [], []⟩) := stT_go rfl (goT_mv rfl rfl)
theorem s42_6_2 : stepT E C B 26 r42_6 o42_6_2 (φ, H) = stpT (some 19) φ H (just (aIndexAddr E.T 22 (fget φ 17) (fget φ 18))) := stT_go rfl (goT_R rfl rfl)
theorem s42_6_3 : stepT E C B 26 r42_6 o42_6_3 (φ, H) = stpT (some 20) φ H (just (aLoad E.T 45 (fget φ 19))) := stT_go rfl (goT_R rfl rfl)
theorem s42_6_4 : stepT E C B 26 r42_6 o42_6_4 (φ, H) = some ((fput φ 21 (fget φ 1), H), ⟨false, [], []⟩) := stT_go rfl (goT_mv rfl rfl)
theorem s42_6_5 : stepT E C B 26 r42_6 o42_6_5 (φ, H) = some ((fput φ 22 (fget φ 5), H), ⟨false, [], []⟩) := stT_go rfl (goT_mv rfl rfl)
theorem s42_6_6 : stepT E C B 26 r42_6 o42_6_6 (φ, H) = stpT (some 23) φ H (just (aIndexAddr E.T 22 (fget φ 21) (fget φ 22))) := stT_go rfl (goT_R rfl rfl)
theorem s42_6_7 : stepT E C B 26 r42_6 o42_6_7 (φ, H) = stpT (some 24) φ H (just (aLoad E.T 45 (fget φ 23))) := stT_go rfl (goT_R rfl rfl)
theorem s42_6_8 : stepT E C B 26 r42_6 o42_6_8 (φ, H) = stpT (some 25) φ H (just (aBin E.T .neq 45 (fget φ 20) (fget φ 24))) := stT_go rfl (goT_R rfl rfl)
noncomputable def c42_25 : Code := kR c42_23
noncomputable def c42_26 : Code := kT c42_25
noncomputable def c42_27 : Code := kL c42_26
noncomputable def r42_7 : Array Oper := kO c42_27
noncomputable def o42_7_0 : Oper := opN r42_7 0
theorem x42_27 : execA E C (fg 42) B 26 E0 N c42_27 s = regX (runA E C B 26 r42_7 r42_7.toList s) (fun s => gcM E0 [0, 1, 5, 25] (forget s.1 [0, 1, 5, 25], s.2)) := x_reg (ops := r42_7) (by rfl) (by rfl) s
theorem r42_7_l : r42_7.toList = [o42_7_0] := nrfl rfl
theorem s42_7_0 : stepA E C B 26 r42_7 o42_7_0 (φ, H) = some (fput φ 4 (.bool false), H) := nrfl rfl
noncomputable def c42_28 : Code := kR c42_26
theorem x42_28 : execA E C (fg 42) B 26 E0 N c42_28 s = some (.ret, s) := x_ret (by rfl) s
theorem x42_26 : execA E C (fg 42) B 26 E0 N c42_26 s = seqX (execA E C (fg 42) B 26 E0 N c42_27 s) (execA E C (fg 42) B 26 E0 N c42_28) := x_seq (by rfl) s
noncomputable def c42_29 : Code := kE c42_25
theorem x42_29 : execA E C (fg 42) B 26 E0 N c42_29 s = some (.normal, s) := x_skip (by rfl) s
theorem x42_25 : execA E C (fg 42) B 26 E0 N c42_25 (φ, H) = condX (fget φ 25) (execA E C (fg 42) B 26 E0 N c42_26 (φ, H)) (execA E C (fg 42) B 26 E0 N c42_29 (φ, H)) := x_cond (by rfl) _
theorem x42_23 : execA E C (fg 42) B 26 E0 N c42_23 s = seqX (execA E C (fg 42) B 26 E0 N c42_24 s) (execA E C (fg 42) B 26 E0 N c42_25) := x_seq (by rfl) s
theorem x42_22 : execA E C (fg 42) B 26 E0 N c42_22 s = blockX 1 (fun s => (forget s.1 [25], s.2)) (execA E C (fg 42) B 26 E0 N c42_23 s) := x_block (by rfl) (by rfl) s
noncomputable def c42_30 : Code := kR c42_21
noncomputable def r42_5 : Array Oper := kO c42_30
noncomputable def o42_5_0 : Oper := opN r42_5 0
noncomputable def o42_5_1 : Oper := opN r42_5 1
noncomputable def o42_5_2 : Oper := opN r42_5 2
theorem x42_30 : execA E C (fg 42) B 26 E0 N c42_30 s = regX (runA E C B 26 r42_5 r42_5.toList s) (fun s => gcM E0 [15, 16] (forget s.1 [15, 16], s.2)) := x_reg (ops := r42_5) (by rfl) (by rfl) s
theorem r42_5_l : r42_5.toList = [o42_5_0, o42_5_1, o42_5_2] := nrfl rfl
theorem s42_5_0 : stepA E C B 26 r42_5 o42_5_0 (φ, H) = some (fput φ 15 (fget φ 5), H) := nrfl rfl
theorem s42_5_1 : stepA E C B 26 r42_5 o42_5_1 (φ, H) = stp (some 16) φ H (just (aBin E.T .add 3 (fget φ 15) (.int .i64 1))) := nrfl rfl
theorem s42_5_2 : stepA E C B 26 r42_5 o42_5_2 (φ, H) = some (fput φ 5 (fget φ 16), H) := nrfl rfl
theorem x42_21 : execA E C (fg 42) B 26 E0 N c42_21 s = seqX (execA E C (fg 42) B 26 E0 N c42_22 s) (execA E C (fg 42) B 26 E0 N c42_30) := x_seq (by rfl) s
theorem x42_15 : execA E C (fg 42) B 26 E0 N c42_15 s = seqX (execA E C (fg 42) B 26 E0 N c42_16 s) (execA E C (fg 42) B 26 E0 N c42_21) := x_seq (by rfl) s
theorem x42_14 : execA E C (fg 42) B 26 E0 N c42_14 s = iterA (execA E C (fg 42) B 26 E0 N c42_15) (headA E0) N s := x_loop (by rfl) s
theorem x42_13 : execA E C (fg 42) B 26 E0 N c42_13 s = blockX 0 (fun s => (forget s.1 [0, 1, 5, 14], s.2)) (execA E C (fg 42) B 26 E0 N c42_14 s) := x_block (by rfl) (by rfl) s
theorem x42_11 : execA E C (fg 42) B 26 E0 N c42_11 s = seqX (execA E C (fg 42) B 26 E0 N c42_12 s) (execA E C (fg 42) B 26 E0 N c42_13) := x_seq (by rfl) s
noncomputable def c42_31 : Code := kR c42_10
noncomputable def c42_32 : Code := kL c42_31
noncomputable def r42_8 : Array Oper := kO c42_32
noncomputable def o42_8_0 : Oper := opN r42_8 0
theorem x42_32 : execA E C (fg 42) B 26 E0 N c42_32 s = regX (runA E C B 26 r42_8 r42_8.toList s) (fun s => gcM E0 [] (forget s.1 [], s.2)) := x_reg (ops := r42_8) (by rfl) (by rfl) s
theorem r42_8_l : r42_8.toList = [o42_8_0] := nrfl rfl
theorem s42_8_0 : stepA E C B 26 r42_8 o42_8_0 (φ, H) = some (fput φ 4 (.bool true), H) := nrfl rfl
noncomputable def c42_33 : Code := kR c42_31
theorem x42_33 : execA E C (fg 42) B 26 E0 N c42_33 s = some (.ret, s) := x_ret (by rfl) s
theorem x42_31 : execA E C (fg 42) B 26 E0 N c42_31 s = seqX (execA E C (fg 42) B 26 E0 N c42_32 s) (execA E C (fg 42) B 26 E0 N c42_33) := x_seq (by rfl) s
theorem x42_10 : execA E C (fg 42) B 26 E0 N c42_10 s = seqX (execA E C (fg 42) B 26 E0 N c42_11 s) (execA E C (fg 42) B 26 E0 N c42_31) := x_seq (by rfl) s
theorem x42_2 : execA E C (fg 42) B 26 E0 N c42_2 s = seqX (execA E C (fg 42) B 26 E0 N c42_3 s) (execA E C (fg 42) B 26 E0 N c42_10) := x_seq (by rfl) s
theorem x42_0 : execA E C (fg 42) B 26 E0 N c42_0 s = seqX (execA E C (fg 42) B 26 E0 N c42_1 s) (execA E C (fg 42) B 26 E0 N c42_2) := x_seq (by rfl) s
theorem fi_42 : fInfo E 42 = some ⟨26, #[.tmp 4], c42_0⟩ := nrfl rfl
theorem b_42 (args : List AV) : bodyA E C fg N 42 args H B = bodyX E [.tmp 4] (execA E C (fg 42) B 26 H N c42_0 (frame0 args 0 [], H)) := bodyA_eq fi_42 args H
end Go.AM.Ytmhbnflnlglljaa
end

section
namespace Go.AM.Ytmhbnflnlglljaa
open Go Go.AM
set_option maxRecDepth 100000
set_option maxHeartbeats 1000000
structure Stone where
  half : Int
  pos : Int
  least : Int
  most : Int
deriving Inhabited
def sc (s : Stone) : List AV := [.int .i64 s.half, .int .i64 s.pos, .int .i64 s.least, .int .i64 s.most]
def pcells : List Stone → List AV
  | [] => []
  | s :: l => sc s ++ pcells l
theorem pcells_length : ∀ (l : List Stone), (pcells l).length = l.length * 4
  | [] => rfl
  | s :: l => by simp [pcells, sc, pcells_length l]; omega
theorem pcells_at : ∀ (l : List Stone) (k : Nat) (s : Stone), l[k]? = some s → ((pcells l).drop (k * 4)).take 4 = sc s
  | [], k, s, h => by simp at h
  | a :: l, 0, s, h => by simp at h; subst h; simp [pcells, sc]
  | a :: l, k + 1, s, h => by
    simp at h
    have := pcells_at l k s h
    have e : (k + 1) * 4 = k * 4 + 4 := by omega
    rw [e, pcells, show k * 4 + 4 = 4 + k * 4 by omega, ← List.drop_drop]
    simpa [sc] using this
theorem pcells_off (l : List Stone) (k : Nat) (h : k < l.length) : k * 4 + 4 ≤ l.length * 4 := by omega
theorem pcells_field : ∀ (l : List Stone) (k : Nat) (s : Stone) (j : Nat), l[k]? = some s → j < 4 → (pcells l)[k * 4 + j]? = (sc s)[j]? := by
  intro l k s j h hj
  have := pcells_at l k s h
  have h2 := congrArg (fun x => x[j]?) this
  simp only [List.getElem?_take, hj, if_true, List.getElem?_drop] at h2
  exact h2
theorem at_lt {α : Type} {l : List α} {k : Nat} {s : α} (h : l[k]? = some s) : k < l.length := (List.getElem?_eq_some_iff.1 h).1
theorem at_ex {α : Type} {l : List α} {k : Nat} (h : k < l.length) : ∃ s, l[k]? = some s := ⟨l[k], List.getElem?_eq_getElem h⟩
def within (s : Stone) : Int :=
  if ¬s.half < 1 then if s.half > 4194304 then 1 else if ¬s.pos < -33554432 then if s.pos > 33554432 then 1 else if ¬(if s.most < s.least then s.most else s.least) < 1 then if (if s.most > s.least then s.most else s.least) > 9 then 1 else if s.least > s.most then 7 else 0 else 1 else 1 else 1
structure Fits (s : Stone) : Prop where
  h1 : 1 ≤ s.half
  h2 : s.half ≤ 4194304
  p1 : -33554432 ≤ s.pos
  p2 : s.pos ≤ 33554432
  l1 : 1 ≤ s.least
  lm : s.least ≤ s.most
  m9 : s.most ≤ 9
theorem within_zero {s : Stone} : within s = 0 ↔ Fits s := by
  constructor
  · intro h
    unfold within at h
    repeat' split at h
    all_goals first | (simp at h; done) | constructor
    all_goals omega
  · rintro ⟨h1, h2, p1, p2, l1, lm, m9⟩
    unfold within
    repeat' split
    all_goals first | rfl | omega
theorem within_run {C : Callee} (s : Stone) : rsOf (bodyA E C fg 1000 99 [.agg (sc s)] [] 0) = some (.int .i64 (within s)) := by
  simp only [sc, seqX_normal, seqX_ret, seqX_exit, seqX_ite, bindR_some, bindR_ite, regX_some, regX_ite, condX_bool, blockX_exit, blockX_normal, blockX_ret, blockX_ite, ↓gd, fset_cons, Bool.not_false, bodyX_ite, bodyX_ret, run_nil, run_cons, fget_cons', fput_nil, fput_cons', forget_nil, forget_cons', hget_nil', hget_cons', hset_nil', frame0, gcM_n, gcM_c, stp, opPick, opBox, justO, just, Rd.bind, Rd.run, Rd.opt, upds, acells, rdCells, fieldOf, aFieldAddr, aLoad, resA, resL, fresh, aBuiltin, aMin, aMax, aBin, aInt, Nat.reduceAdd, Nat.reduceBEq, Nat.reduceEqDiff, Nat.reduceLeDiff, Int.reduceNeg, ↓reduceIte, reduceCtorEq, liveBlk_eq, decide_eq_true_eq, decide_eq_false_iff_not, Nat.zero_add, Nat.add_zero, rs_ite, m_int, ite_not, Bool.not_false, putD_some, Option.map_some, List.elem_cons, List.elem_nil, List.length_cons, List.length_nil, List.getElem?_cons_zero, List.getElem?_cons_succ, T_3, T_45, x99_1, r99_0_l, s99_0_0, s99_0_1, x99_13, r99_1_l, s99_1_0, s99_1_1, s99_1_2, s99_1_3, s99_1_4, s99_1_5, s99_1_6, s99_1_7, s99_1_8, x99_15, x99_16, x99_14, x99_12, x99_19, r99_2_l, s99_2_0, s99_2_1, s99_2_2, s99_2_3, s99_2_4, s99_2_5, s99_2_6, s99_2_7, s99_2_8, x99_21, x99_22, x99_20, x99_18, x99_25, r99_3_l, s99_3_0, s99_3_1, s99_3_2, s99_3_3, s99_3_4, s99_3_5, s99_3_6, s99_3_7, s99_3_8, s99_3_9, s99_3_10, s99_3_11, s99_3_12, s99_3_13, s99_3_14, x99_27, x99_28, x99_26, x99_24, x99_30, r99_4_l, s99_4_0, s99_4_1, s99_4_2, s99_4_3, s99_4_4, s99_4_5, x99_32, x99_33, x99_31, x99_29, x99_23, x99_17, x99_11, x99_34, x99_10, x99_9, x99_8, x99_7, x99_37, r99_5_l, s99_5_0, x99_38, x99_36, x99_35, x99_6, x99_5, x99_42, r99_6_l, s99_6_0, x99_43, x99_41, x99_40, x99_4, x99_3, x99_46, r99_7_l, s99_7_0, x99_47, x99_45, x99_2, x99_0, b_99, within]
theorem within_call {d : Nat} {site : Nat → Nat} {seen : List Nat} (s : Stone) : aBack site true seen (thaw (callA E fg 1000 (d + 1)) 99 [.agg [.int .i64 s.half, .int .i64 s.pos, .int .i64 s.least, .int .i64 s.most]] [] 0) = .pure (.int .i64 (within s), []) :=
  aBack_int (rs_ex (within_run s))
def checkL : List Stone → Int
  | [] => 0
  | s :: l => if within s = 0 then checkL l else within s
def check (l : List Stone) : Int := if (l.length : Int) = 0 then 4 else if (l.length : Int) > 5 then 3 else checkL l
theorem check_loop {d : Nat} (l : List Stone) (ex : Bool) (hl : l.length < 1000000) : ∀ (m k F : Nat) (H : AHeap), k + m = l.length → m < F →
    ∃ H', iterA (execA E (callA E fg 1000 (d + 1)) (fg 70) 0 26 [] 1000 c70_22) (headA []) F ([(16, .int .i64 k), (15, .int .i64 l.length), (14, .imm (pcells l) l.length ex)], H) =
      if checkL (l.drop k) = 0 then some (.exit 1, [(17, .bool false), (16, .int .i64 l.length), (15, .int .i64 l.length), (14, .imm (pcells l) l.length ex)], []) else some (.ret, [(2, .int .i64 (checkL (l.drop k)))], H')
  | 0, k, F + 1, H, hk, _ => by
    obtain rfl : k = l.length := by omega
    rw [iterA_succ]
    simp only [seqX_normal, seqX_exit, bindR_some, regX_some, condX_bool, run_nil, run_cons, fget_cons', fput_cons', forget_nil, forget_cons', gcM_n, stp, just, Rd.bind, Rd.run, Rd.opt, upds, aBin, aInt, Nat.reduceEqDiff, Nat.reduceLeDiff, ↓reduceIte, headA_drop, refsF, refsOf, decide_false, putD_some, List.append_nil, List.elem_nil, x70_23, r70_6_l, s70_6_0, x70_26, x70_27, x70_25, x70_24, x70_22, Int.lt_irrefl, decide_false, Bool.false_eq_true, List.drop_length, checkL]
    exact ⟨[], trivial⟩
  | m + 1, k, F + 1, H, hk, hF => by
    have hkl : k < l.length := by omega
    obtain ⟨s, hs⟩ := at_ex hkl
    have hd : l.drop k = s :: l.drop (k + 1) := by
      rw [List.drop_eq_getElem_cons hkl]
      rw [List.getElem?_eq_getElem hkl] at hs
      rw [Option.some.inj hs]
    obtain ⟨H', ih⟩ := check_loop l ex hl m (k + 1) F [(4, ⟨.box, sc s⟩)] (by omega) (by omega)
    simp only [sc] at ih
    rw [iterA_succ]
    simp only [seqX_normal, seqX_ret, seqX_ite, bindR_some, regX_some, condX_bool, blockX_normal, blockX_ret, blockX_ite, run_nil, run_cons, fget_cons', fput_nil, fput_cons', forget_nil, forget_cons', hget_nil', hget_cons', hset_nil', hset_cons', gcM_n, gcM_c, stp, opBox, just, Rd.bind, Rd.run, Rd.opt, upds, acells, zeroCells, tsz, rdCells, aLoad, aStore, opStore, fresh, aIndexAddr, aNum, aBin, aInt, putC, Nat.reduceAdd, Nat.reduceLT, Nat.reduceBEq, Nat.reduceEqDiff, Nat.reduceLeDiff, ↓reduceIte, reduceCtorEq, liveBlk_eq, Nat.zero_add, bne_iff_ne, ne_eq, ite_not, headA_drop, refsF, refsOf, List.nil_append, decide_true, frz, putD_some, putD_none, and_true, Int.natCast_nonneg, Int.ofNat_lt, Int.toNat_natCast, aCall, snaps, snap, List.append_nil, List.elem_cons, List.elem_nil, List.length_cons, List.length_nil, List.drop_zero, List.take_succ_cons, List.take_nil, List.set_cons_zero, List.set_cons_succ, T_22, T_45, x70_23, r70_6_l, s70_6_0, x70_26, x70_27, x70_25, x70_31, r70_7_l, s70_7_0, s70_7_1, s70_7_2, s70_7_3, x70_33, r70_8_l, s70_8_0, s70_8_1, s70_8_2, x70_35, r70_9_l, s70_9_0, s70_9_1, x70_38, r70_10_l, s70_10_0, s70_10_1, x70_39, x70_37, x70_40, x70_36, x70_34, x70_32, x70_30, x70_29, x70_41, r70_11_l, s70_11_0, s70_11_1, x70_28, x70_24, x70_22, hkl, pcells_length, pcells_at l k s hs, sc, pcells_off l k hkl, within_call, wrp_succ (Nat.lt_trans hkl hl), hd, checkL]
    by_cases hw : within s = 0
    · simp only [hw, if_true]
      exact ⟨H', ih⟩
    · simp only [hw, if_false]
      exact ⟨_, rfl⟩
theorem check_run {d : Nat} (l : List Stone) (ex : Bool) : rsOf (callA E fg 1000 (d + 2) 70 [.imm (pcells l) l.length ex] [] 0) = some (.int .i64 (check l)) := by
  change rsOf (bodyA E (callA E fg 1000 (d + 1)) fg 1000 70 _ _ _) = _
  by_cases h5 : (l.length : Int) > 5
  · by_cases h0 : (l.length : Int) = 0
    · omega
    · simp only [seqX_normal, seqX_ret, bindR_some, regX_some, condX_bool, blockX_ret, bodyX_ret, run_nil, run_cons, fget_cons', fput_cons', forget_nil, forget_cons', frame0, gcM_c, stp, just, Rd.bind, Rd.run, Rd.opt, upds, resA, resL, aLen, aBuiltin, aBin, aInt, Nat.reduceBEq, Nat.reduceEqDiff, Nat.reduceLeDiff, ↓reduceIte, reduceCtorEq, beq_iff_eq, List.getElem?_toArray, decide_true, putD_some, Option.map_some, List.elem_cons, List.elem_nil, List.getElem?_cons_zero, T_22, x70_1, r70_0_l, s70_0_0, x70_5, r70_1_l, s70_1_0, s70_1_1, s70_1_2, s70_1_3, x70_8, r70_2_l, s70_2_0, x70_9, x70_7, x70_11, r70_3_l, s70_3_0, s70_3_1, s70_3_2, s70_3_3, x70_14, r70_4_l, s70_4_0, x70_15, x70_13, x70_16, x70_12, x70_10, x70_6, x70_4, x70_3, x70_2, x70_0, b_70, check, h5, h0]
  · obtain ⟨H', h⟩ := check_loop (d := d) l ex (by omega) l.length 0 1000 [] (by omega) (by omega)
    simp only [List.drop_zero, Int.natCast_zero] at h
    by_cases h0 : (l.length : Int) = 0
    · simp only [seqX_normal, seqX_ret, bindR_some, regX_some, condX_bool, blockX_ret, bodyX_ret, run_nil, run_cons, fget_cons', fput_cons', forget_nil, forget_cons', frame0, gcM_c, stp, just, Rd.bind, Rd.run, Rd.opt, upds, resA, resL, aLen, aBuiltin, aBin, aInt, Nat.reduceBEq, Nat.reduceEqDiff, Nat.reduceLeDiff, ↓reduceIte, reduceCtorEq, decide_eq_true_eq, beq_iff_eq, List.getElem?_toArray, putD_some, Option.map_some, List.elem_cons, List.elem_nil, List.getElem?_cons_zero, T_22, x70_1, r70_0_l, s70_0_0, x70_5, r70_1_l, s70_1_0, s70_1_1, s70_1_2, s70_1_3, x70_8, r70_2_l, s70_2_0, x70_9, x70_7, x70_11, r70_3_l, s70_3_0, s70_3_1, s70_3_2, s70_3_3, x70_14, r70_4_l, s70_4_0, x70_15, x70_13, x70_16, x70_12, x70_10, x70_6, x70_4, x70_3, x70_2, x70_0, b_70, check, h0]
    · by_cases hc : checkL l = 0
      · simp only [hc, if_true] at h
        simp only [seqX_normal, bindR_some, regX_some, condX_bool, blockX_exit, blockX_normal, bodyX_ret, run_nil, run_cons, fget_cons', fput_nil, fput_cons', forget_nil, forget_cons', frame0, gcM_n, gcM_c, stp, just, Rd.bind, Rd.run, Rd.opt, upds, resA, resL, aLen, aBuiltin, aBin, aInt, Nat.reduceBEq, Nat.reduceEqDiff, Nat.reduceLeDiff, ↓reduceIte, reduceCtorEq, beq_iff_eq, List.getElem?_toArray, decide_false, putD_some, Option.map_some, List.elem_cons, List.elem_nil, List.getElem?_cons_zero, T_22, x70_1, r70_0_l, s70_0_0, x70_5, r70_1_l, s70_1_0, s70_1_1, s70_1_2, s70_1_3, x70_8, r70_2_l, s70_2_0, x70_9, x70_7, x70_11, r70_3_l, s70_3_0, s70_3_1, s70_3_2, s70_3_3, x70_14, r70_4_l, s70_4_0, x70_15, x70_13, x70_16, x70_12, x70_10, x70_6, x70_4, x70_3, x70_19, r70_5_l, s70_5_0, s70_5_1, s70_5_2, x70_21, x70_20, x70_18, x70_43, r70_12_l, s70_12_0, x70_44, x70_42, x70_17, x70_2, x70_0, b_70, check, h5, h0, h, hc]
      · simp only [hc, if_false] at h
        simp only [seqX_normal, seqX_ret, bindR_some, regX_some, condX_bool, blockX_normal, blockX_ret, bodyX_ret, run_nil, run_cons, fget_cons', fput_cons', forget_nil, forget_cons', frame0, gcM_c, stp, just, Rd.bind, Rd.run, Rd.opt, upds, resA, resL, aLen, aBuiltin, aBin, aInt, Nat.reduceBEq, Nat.reduceEqDiff, Nat.reduceLeDiff, ↓reduceIte, reduceCtorEq, beq_iff_eq, List.getElem?_toArray, decide_false, putD_some, Option.map_some, List.elem_cons, List.elem_nil, List.getElem?_cons_zero, T_22, x70_1, r70_0_l, s70_0_0, x70_5, r70_1_l, s70_1_0, s70_1_1, s70_1_2, s70_1_3, x70_8, r70_2_l, s70_2_0, x70_9, x70_7, x70_11, r70_3_l, s70_3_0, s70_3_1, s70_3_2, s70_3_3, x70_14, r70_4_l, s70_4_0, x70_15, x70_13, x70_16, x70_12, x70_10, x70_6, x70_4, x70_3, x70_19, r70_5_l, s70_5_0, s70_5_1, s70_5_2, x70_21, x70_20, x70_18, x70_17, x70_2, x70_0, b_70, check, h5, h0, h]
theorem check_nil {d : Nat} : rsOf (callA E fg 1000 (d + 2) 70 [.nilsl] [] 0) = some (.int .i64 (check [])) := by
  change rsOf (bodyA E (callA E fg 1000 (d + 1)) fg 1000 70 _ _ _) = _
  simp only [seqX_normal, seqX_ret, bindR_some, regX_some, condX_bool, blockX_ret, bodyX_ret, run_nil, run_cons, fget_cons', fput_cons', forget_nil, forget_cons', frame0, gcM_c, stp, just, Rd.bind, Rd.run, Rd.opt, upds, resA, resL, aLen, aBuiltin, aBin, aInt, Nat.reduceBEq, Nat.reduceEqDiff, Nat.reduceLeDiff, ↓reduceIte, reduceCtorEq, decide_eq_true_eq, beq_iff_eq, List.getElem?_toArray, putD_some, Option.map_some, List.elem_cons, List.elem_nil, List.length_nil, List.getElem?_cons_zero, T_22, x70_1, r70_0_l, s70_0_0, x70_5, r70_1_l, s70_1_0, s70_1_1, s70_1_2, s70_1_3, x70_8, r70_2_l, s70_2_0, x70_9, x70_7, x70_11, r70_3_l, s70_3_0, s70_3_1, s70_3_2, s70_3_3, x70_14, r70_4_l, s70_4_0, x70_15, x70_13, x70_16, x70_12, x70_10, x70_6, x70_4, x70_3, x70_2, x70_0, b_70, check, List.length_nil, Int.natCast_zero]
/-- A pile as it is handed on. -/
def IsP (a : AV) (l : List Stone) : Prop := (a = .nilsl ∧ l = []) ∨ ∃ ex, a = .imm (pcells l) l.length ex
theorem check_call {d : Nat} {site : Nat → Nat} {seen : List Nat} {a : AV} {l : List Stone} (h : IsP a l) : aBack site true seen (thaw (callA E fg 1000 (d + 2)) 70 [a] [] 0) = .pure (.int .i64 (check l), []) := by
  rcases h with ⟨rfl, rfl⟩ | ⟨ex, rfl⟩
  · exact aBack_int (rs_ex check_nil)
  · exact aBack_int (rs_ex (check_run l ex))
structure OkP (l : List Stone) : Prop where
  ne : 0 < l.length
  le : l.length ≤ 5
  fits : ∀ (k : Nat) (s : Stone), l[k]? = some s → Fits s
theorem checkL_zero : ∀ {l : List Stone}, checkL l = 0 ↔ ∀ (k : Nat) (s : Stone), l[k]? = some s → Fits s
  | [] => by simp [checkL]
  | a :: l => by
    simp only [checkL]
    constructor
    · intro h k s hs
      split at h
      · rename_i hw
        cases k with
        | zero => simp at hs; subst hs; exact within_zero.1 hw
        | succ k => simp at hs; exact checkL_zero.1 h k s hs
      · rename_i hw; exact absurd h hw
    · intro h
      rw [if_pos (within_zero.2 (h 0 a (by simp)))]
      exact checkL_zero.2 fun k s hs => h (k + 1) s (by simpa using hs)
theorem check_zero {l : List Stone} : check l = 0 ↔ OkP l := by
  unfold check
  constructor
  · intro h
    split at h
    · simp at h
    · split at h
      · simp at h
      · exact ⟨by omega, by omega, checkL_zero.1 h⟩
  · rintro ⟨h1, h2, h3⟩
    rw [if_neg (by omega), if_neg (by omega)]
    exact checkL_zero.2 h3
end Go.AM.Ytmhbnflnlglljaa
end

section
namespace Go.AM.Ytmhbnflnlglljaa
open Go Go.AM
set_option maxRecDepth 100000
set_option maxHeartbeats 1000000
def sumF (F : Nat → Int) (k : Nat) : Nat → Int
  | 0 => 0
  | m + 1 => sumF F k m + F (k + m)
theorem sumF_bound {F : Nat → Int} {M : Int} (hM : 0 ≤ M) {k n : Nat} (h : ∀ i, k ≤ i → i < n → -M ≤ F i ∧ F i ≤ M) : ∀ m, k + m ≤ n → -(M * m) ≤ sumF F k m ∧ sumF F k m ≤ M * m
  | 0, _ => by simp [sumF]
  | m + 1, hm => by
    obtain ⟨h1, h2⟩ := sumF_bound hM h m (by omega)
    obtain ⟨h3, h4⟩ := h (k + m) (by omega) (by omega)
    have e : M * ((m + 1 : Nat) : Int) = M * m + M := by rw [Int.natCast_add, Int.mul_add]; simp
    rw [e]
    simp only [sumF]
    omega
/-- A closure that is asked about the elements of a list, none of the heap's own. -/
structure Asks (C : Callee) (f : AV) (g : Nat → List AV) (F : Nat → Int) (k n : Nat) : Prop where
  pure_ : ∀ args, mutV E f args = none
  ask : ∀ (site : Nat → Nat) (i : Nat), k ≤ i → i < n → opCallV E C site true f (.int .i64 i :: g i) = .pure (.int .i64 (F i), [])
theorem sumP_run {C : Callee} {l : List Stone} {ex : Bool} {f : AV} {F : Nat → Int} {k : Nat} (hk : k ≤ l.length) (hl : l.length ≤ 5) (hf : Asks C f (fun i => [.agg (sc (l.getD i default))]) F k l.length) (hr : refsOf f = [])
    (hb : ∀ i, k ≤ i → i < l.length → -1000000000000 ≤ F i ∧ F i ≤ 1000000000000) : rsOf (bodyA E C fg 1000 114 [.imm (pcells l) l.length ex, .int .i64 k, f] [] 0) = some (.int .i64 (sumF F k (l.length - k))) := by
  have hloop := iter_all (f := execA E C (fg 114) 0 26 [] 1000 c114_9) (hd := headA []) (fun i => ([(8, .int .i64 i), (7, .int .i64 (sumF F k (i - k))), (2, f), (0, .imm (pcells l) l.length ex)], [])) (l.length - k) 1000 k
    ([(8, .int .i64 k), (7, .int .i64 0), (2, f), (0, .imm (pcells l) l.length ex)], []) (by simp [headA_nil, sumF]) (by omega) (fun i h1 h2 => by
      have hil : i < l.length := by omega
      obtain ⟨s, hs⟩ := at_ex hil
      have hg : l.getD i default = s := by simp [hs]
      have ha := fun site => hf.ask site i h1 hil
      simp only [hg, sc] at ha
      obtain ⟨b1, b2⟩ := sumF_bound (M := 1000000000000) (by omega) hb (i - k) (by omega)
      obtain ⟨b3, b4⟩ := hb i h1 hil
      have e : sumF F k (i + 1 - k) = sumF F k (i - k) + F i := by
        rw [show i + 1 - k = (i - k) + 1 by omega]; simp only [sumF, show k + (i - k) = i by omega]
      have hw : wrp .i64 (sumF F k (i - k) + F i) = sumF F k (i + 1 - k) := by rw [e]; exact wrp64 (by omega)
      simp only [seqX_normal, bindR_some, regX_some, condX_bool, blockX_normal, run_nil, run_cons, fget_cons', fput_cons', forget_nil, forget_cons', gcM_c, stp, just, Rd.bind, Rd.run, Rd.opt, upds, tsz, rdCells, aLoad, aIndexAddr, aNum, aLen, aBuiltin, aBin, aInt, Nat.reduceMul, Nat.reduceLT, Nat.reduceBEq, Nat.reduceEqDiff, Nat.reduceLeDiff, ↓reduceIte, reduceCtorEq, Nat.zero_add, List.getElem?_toArray, decide_true, putD_some, and_true, Int.natCast_nonneg, Int.ofNat_lt, Int.toNat_natCast, List.elem_cons, List.elem_nil, List.getElem?_cons_zero, T_45, T_164, x114_11, r114_3_l, s114_3_0, s114_3_1, s114_3_2, s114_3_3, x114_13, x114_14, x114_12, x114_10, x114_17, r114_5_l, s114_5_0, s114_5_1, s114_5_2, s114_5_3, s114_5_4, s114_5_5, s114_5_6, s114_5_7, s114_5_8, s114_5_9, x114_16, x114_18, r114_4_l, s114_4_0, s114_4_1, s114_4_2, x114_15, x114_9, callV_eq (hf.pure_ _), hil, pcells_length, pcells_at l i s hs, sc, pcells_off l i hil, ha, hw, wrp_succ (show i < 1000000 by omega)]
      exact ⟨_, rfl, by simp only [headA_nil]⟩) (e := .exit 0) (se := ([(13, .bool false), (8, .int .i64 l.length), (7, .int .i64 (sumF F k (l.length - k))), (2, f), (0, .imm (pcells l) l.length ex)], [])) (by
      rw [show k + (l.length - k) = l.length by omega]
      simp only [seqX_normal, seqX_exit, bindR_some, regX_some, condX_bool, run_nil, run_cons, fget_cons', fput_cons', forget_nil, forget_cons', gcM_c, stp, just, Rd.bind, Rd.run, Rd.opt, upds, aLen, aBuiltin, aBin, aInt, Nat.reduceBEq, Nat.reduceEqDiff, Nat.reduceLeDiff, ↓reduceIte, reduceCtorEq, List.getElem?_toArray, decide_false, putD_some, List.elem_cons, List.elem_nil, List.getElem?_cons_zero, T_164, x114_11, r114_3_l, s114_3_0, s114_3_1, s114_3_2, s114_3_3, x114_13, x114_14, x114_12, x114_10, x114_9, Int.lt_irrefl, decide_false, Bool.false_eq_true]) (by simp)
  simp only [seqX_normal, bindR_some, regX_some, blockX_exit, bodyX_ret, run_nil, run_cons, fget_cons', fput_nil, fput_cons', forget_nil, forget_cons', frame0, gcM_n, gcM_c, resA, resL, Nat.reduceAdd, Nat.reduceBEq, Nat.reduceEqDiff, Nat.reduceLeDiff, ↓reduceIte, reduceCtorEq, Nat.zero_add, Option.map_some, List.elem_cons, List.elem_nil, x114_1, r114_0_l, s114_0_0, x114_3, r114_1_l, s114_1_0, x114_6, r114_2_l, s114_2_0, s114_2_1, x114_8, x114_7, x114_5, x114_20, r114_6_l, s114_6_0, s114_6_1, x114_21, x114_19, x114_4, x114_2, x114_0, b_114, hloop]
end Go.AM.Ytmhbnflnlglljaa
end

section
namespace Go.AM.Ytmhbnflnlglljaa
open Go Go.AM
set_option maxRecDepth 100000
set_option maxHeartbeats 1000000
def leftE (l : List Stone) : Nat → Int
  | 0 => -268435456
  | k + 1 => (l.getD k default).pos - (l.getD k default).half
def rightE (l : List Stone) : Nat → Int
  | 0 => 0
  | k + 1 => (l.getD k default).pos + (l.getD k default).half
theorem edge_bounds {l : List Stone} (h : OkP l) {k : Nat} (hk : k ≤ l.length) : -268435456 ≤ leftE l k ∧ leftE l k ≤ 37748736 ∧ -37748736 ≤ rightE l k ∧ rightE l k ≤ 37748736 := by
  cases k with
  | zero => simp [leftE, rightE]
  | succ k =>
    obtain ⟨s, hs⟩ := at_ex (show k < l.length by omega)
    obtain ⟨h1, h2, p1, p2, _, _, _⟩ := h.fits k s hs
    simp only [leftE, rightE, List.getD_eq_getElem?_getD, hs, Option.getD_some]
    omega
theorem edges_run {C : Callee} {l : List Stone} {ex : Bool} (h : OkP l) {k : Nat} (hk : k ≤ l.length) : rsOf (bodyA E C fg 1000 101 [.imm (pcells l) l.length ex, .int .i64 k] [] 0) = some (.tup [.int .i64 (leftE l k), .int .i64 (rightE l k)]) := by
  cases k with
  | zero => simp only [seqX_normal, seqX_ret, bindR_some, regX_some, condX_bool, bodyX_ret, run_nil, run_cons, fget_cons', fput_cons', forget_nil, forget_cons', frame0, gcM_c, stp, just, Rd.bind, Rd.run, Rd.opt, upds, resA, resL, aBin, aInt, Nat.reduceBEq, Nat.reduceEqDiff, Nat.reduceLeDiff, Int.reduceNeg, ↓reduceIte, reduceCtorEq, Nat.zero_add, beq_iff_eq, putD_some, Option.map_some, List.elem_cons, List.elem_nil, x101_1, r101_0_l, s101_0_0, s101_0_1, x101_4, r101_1_l, s101_1_0, s101_1_1, x101_7, r101_2_l, s101_2_0, s101_2_1, x101_8, x101_6, x101_9, x101_5, x101_3, x101_2, x101_0, b_101, leftE, rightE, Int.natCast_zero]
  | succ k =>
    have hkl : k < l.length := by omega
    obtain ⟨s, hs⟩ := at_ex hkl
    obtain ⟨h1, h2, p1, p2, _, _, _⟩ := h.fits k s hs
    have e0 : ((k + 1 : Nat) : Int) ≠ 0 := by omega
    have e1 : wrp .i64 (((k + 1 : Nat) : Int) - 1) = (k : Int) := by rw [wrp64 (by have := h.le; omega)]; omega
    have e2 : wrp .i64 (s.pos - s.half) = s.pos - s.half := wrp64 (by omega)
    have e3 : wrp .i64 (s.pos + s.half) = s.pos + s.half := wrp64 (by omega)
    have f2 : (l.getD k default) = s := by simp [hs]
    simp only [seqX_normal, bindR_some, regX_some, condX_bool, Bool.not_true, Bool.not_false, bodyX_ret, run_nil, run_cons, fget_cons', fput_nil, fput_cons', forget_nil, forget_cons', hget_nil', hget_cons', hset_nil', hset_cons', frame0, gcM_c, stp, opBox, just, Rd.bind, Rd.run, Rd.opt, upds, acells, zeroCells, tsz, rdCells, fieldOf, aFieldAddr, aLoad, aStore, opStore, resA, resL, fresh, aIndexAddr, aNum, aBin, aInt, putC, Nat.reduceAdd, Nat.reduceLT, Nat.reduceBEq, Nat.reduceEqDiff, Nat.reduceLeDiff, Int.reduceNeg, ↓reduceIte, reduceCtorEq, liveBlk_eq, Nat.zero_add, Nat.add_zero, beq_iff_eq, List.nil_append, rtX_some, addT_some, drX_some, runT_nil, runT_cons, neat_eq, descF_nil', descF_cons', ascH_nil', ascH_cons', stpT, Rd.foot, writing, touching, Tr.empty, dynPairs, apartT, disj, List.isEmpty_nil, List.isEmpty_cons, List.map_nil, Bool.not_false, Bool.not_true, Bool.true_or, Bool.or_false, Bool.and_true, Bool.true_and, Bool.and_self, decide_true, frz, putD_some, putD_none, and_true, Int.natCast_nonneg, Int.ofNat_lt, Int.toNat_natCast, snaps, snap, List.append_nil, Option.map_some, List.elem_cons, List.elem_nil, List.length_cons, List.length_nil, List.getElem?_cons_zero, List.getElem?_cons_succ, List.set_cons_zero, List.set_cons_succ, T_3, T_22, T_45, x101_1, r101_0_l, s101_0_0, s101_0_1, x101_4, r101_1_l, s101_1_0, s101_1_1, x101_7, r101_2_l, s101_2_0, s101_2_1, x101_8, x101_6, x101_9, x101_5, x101_3, x101_11, r101_3_l, s101_3_0, s101_3_1, s101_3_2, s101_3_3, s101_3_4, s101_3_5, s101_3_6, x101_13, r101_4_l, r101_4_dr, r101_4_an, s101_4_0, s101_4_1, s101_4_2, s101_4_3, s101_4_4, s101_4_5, s101_4_6, s101_4_7, s101_4_8, s101_4_9, s101_4_10, s101_4_11, x101_14, x101_12, x101_10, x101_2, x101_0, b_101, leftE, rightE, e0, e1, hkl, pcells_length, pcells_at l k s hs, sc, pcells_off l k hkl, e2, e3, f2]
theorem edges_call {d : Nat} {site : Nat → Nat} {seen : List Nat} {l : List Stone} {ex : Bool} (h : OkP l) {k : Nat} (hk : k ≤ l.length) :
    aBack site true seen (thaw (callA E fg 1000 (d + 1)) 101 [.imm (pcells l) l.length ex, .int .i64 k] [] 0) = .pure (.tup [.int .i64 (leftE l k), .int .i64 (rightE l k)], []) :=
  aBack_ints (rs_ex (edges_run h hk))
/-- The closure that tells how far a stone is beyond an edge. -/
def farV (side right left : Int) : AV := .clo 102 [.iptr [.int .i64 side] 0, .iptr [.int .i64 right] 0, .iptr [.int .i64 left] 0]
def far (side right left : Int) (s : Stone) : Int := if side > 0 then s.pos - right else left - s.pos
theorem beyond_run {d : Nat} {l : List Stone} {ex : Bool} (h : OkP l) {k : Nat} (hk : k ≤ l.length) (side : Int) : ∃ H', thaw (callA E fg 1000 (d + 2)) 88 [.imm (pcells l) l.length ex, .int .i64 k, .int .i64 side] [] 0 = some (farV side (rightE l k) (leftE l k), H') := by
  have e : callA E fg 1000 (d + 2) 88 [.imm (pcells l) l.length ex, .int .i64 k, .int .i64 side] [] 0 = bodyA E (callA E fg 1000 (d + 1)) fg 1000 88 [.imm (pcells l) l.length ex, .int .i64 k, .int .i64 side] [] 0 := rfl
  simp only [thaw, e]
  simp only [seqX_normal, bindR_some, regX_some, bodyX_ret, run_nil, run_cons, fget_cons', fput_cons', forget_nil, forget_cons', hget_nil', hget_cons', hset_nil', hset_cons', frame0, gcM_c, stp, opBox, justO, Rd.bind, Rd.run, upds, acells, zeroCells, tsz, aStore, opStore, opExtract, resA, resL, fresh, putC, Nat.reduceAdd, Nat.reduceBEq, Nat.reduceEqDiff, Nat.reduceLeDiff, ↓reduceIte, reduceCtorEq, liveBlk_eq, Nat.zero_add, List.nil_append, Bool.and_self, frz, putD_some, putD_none, and_true, aCall, snaps, snap, List.append_nil, Option.map_some, List.elem_cons, List.elem_nil, List.length_cons, List.length_nil, List.getElem?_cons_zero, List.getElem?_cons_succ, List.set_cons_zero, T_3, x88_1, r88_0_l, s88_0_0, s88_0_1, x88_3, r88_1_l, s88_1_0, s88_1_1, s88_1_2, s88_1_3, s88_1_4, s88_1_5, s88_1_6, s88_1_7, s88_1_8, s88_1_9, x88_5, r88_2_l, s88_2_0, s88_2_1, x88_6, x88_4, x88_2, x88_0, b_88, edges_call h hk, frzRet, frz, List.all_cons, List.all_nil, AV.flat, List.cons_append, farV]
  exact ⟨_, rfl⟩
theorem beyond_call {d : Nat} {site : Nat → Nat} {l : List Stone} {ex : Bool} (h : OkP l) {k : Nat} (hk : k ≤ l.length) (side : Int) :
    aBack site true [] (thaw (callA E fg 1000 (d + 2)) 88 [.imm (pcells l) l.length ex, .int .i64 k, .int .i64 side] [] 0) = .pure (farV side (rightE l k) (leftE l k), []) := by
  obtain ⟨H', e⟩ := beyond_run (d := d) (ex := ex) h hk side
  rw [e]
  rfl
theorem far_run {C : Callee} (s : Stone) (side right left : Int) (hs : Fits s) (h1 : -268435456 ≤ left ∧ left ≤ 37748736 ∧ -37748736 ≤ right ∧ right ≤ 37748736) :
    rsOf (bodyA E C fg 1000 102 [.agg (sc s), .iptr [.int .i64 side] 0, .iptr [.int .i64 right] 0, .iptr [.int .i64 left] 0] [] 0) = some (.int .i64 (far side right left s)) := by
  obtain ⟨_, _, p1, p2, _, _, _⟩ := hs
  have e1 : wrp .i64 (s.pos - right) = s.pos - right := wrp64 (by omega)
  have e2 : wrp .i64 (left - s.pos) = left - s.pos := wrp64 (by omega)
  simp only [sc, seqX_normal, seqX_ret, seqX_ite, bindR_some, regX_some, condX_bool, bodyX_ite, bodyX_ret, run_nil, run_cons, fget_cons', fput_cons', forget_nil, forget_cons', hget_nil', hget_cons', hset_nil', frame0, gcM_c, stp, opBox, just, Rd.bind, Rd.run, Rd.opt, upds, acells, rdCells, fieldOf, aFieldAddr, aLoad, resA, resL, fresh, aBin, aInt, Nat.reduceAdd, Nat.reduceBEq, Nat.reduceEqDiff, Nat.reduceLeDiff, ↓reduceIte, reduceCtorEq, liveBlk_eq, decide_eq_true_eq, Nat.zero_add, rs_ite, m_int, putD_some, Option.map_some, List.elem_cons, List.elem_nil, List.length_cons, List.length_nil, List.getElem?_cons_zero, List.getElem?_cons_succ, T_3, T_45, x102_1, r102_0_l, s102_0_0, s102_0_1, x102_4, r102_1_l, s102_1_0, s102_1_1, x102_7, r102_2_l, s102_2_0, s102_2_1, s102_2_2, s102_2_3, s102_2_4, x102_8, x102_6, x102_9, x102_5, x102_3, x102_11, r102_3_l, s102_3_0, s102_3_1, s102_3_2, s102_3_3, s102_3_4, x102_12, x102_10, x102_2, x102_0, b_102, far, e1, e2]
theorem far_bound {s : Stone} {side right left : Int} (hs : Fits s) (h1 : -268435456 ≤ left ∧ left ≤ 37748736 ∧ -37748736 ≤ right ∧ right ≤ 37748736) : -301989888 ≤ far side right left s ∧ far side right left s ≤ 71303168 := by
  obtain ⟨_, _, p1, p2, _, _, _⟩ := hs
  unfold far; split <;> omega
theorem far_ask {d : Nat} {site : Nat → Nat} (s : Stone) (side right left : Int) (hs : Fits s) (h1 : -268435456 ≤ left ∧ left ≤ 37748736 ∧ -37748736 ≤ right ∧ right ≤ 37748736) :
    opCallV E (callA E fg 1000 (d + 1)) site true (farV side right left) [.agg [.int .i64 s.half, .int .i64 s.pos, .int .i64 s.least, .int .i64 s.most]] = .pure (.int .i64 (far side right left s), []) := by
  have := aBack_int (site := site) (seen := []) (rs_ex (far_run (C := callA E fg 1000 d) s side right left hs h1))
  simp only [sc] at this
  simp only [opCallV, farV, fi_102, aCall, List.cons_append, List.nil_append, snaps, snap, Rd.bind]
  exact this
theorem far_pure (side right left : Int) (args : List AV) : mutV E (farV side right left) args = none := rfl
def wt (s : Stone) (b : Int) : Int := if b > 0 then s.most else s.least
theorem worst_run {C : Callee} (s : Stone) (b : Int) : rsOf (bodyA E C fg 1000 89 [.agg (sc s), .int .i64 b] [] 0) = some (.int .i64 (wt s b)) := by
  simp only [sc, seqX_normal, seqX_ret, seqX_ite, bindR_some, regX_some, condX_bool, bodyX_ite, bodyX_ret, run_nil, run_cons, fget_cons', fput_cons', forget_nil, forget_cons', hget_nil', hget_cons', hset_nil', frame0, gcM_c, stp, opBox, just, Rd.bind, Rd.run, Rd.opt, upds, acells, rdCells, fieldOf, aFieldAddr, aLoad, resA, resL, fresh, aBin, aInt, Nat.reduceAdd, Nat.reduceBEq, Nat.reduceEqDiff, Nat.reduceLeDiff, ↓reduceIte, reduceCtorEq, liveBlk_eq, decide_eq_true_eq, Nat.zero_add, rs_ite, m_int, putD_some, Option.map_some, List.elem_cons, List.elem_nil, List.length_cons, List.length_nil, List.getElem?_cons_zero, List.getElem?_cons_succ, T_3, T_45, x89_1, r89_0_l, s89_0_0, s89_0_1, x89_4, r89_1_l, s89_1_0, s89_1_1, x89_7, r89_2_l, s89_2_0, s89_2_1, s89_2_2, x89_8, x89_6, x89_9, x89_5, x89_3, x89_11, r89_3_l, s89_3_0, s89_3_1, s89_3_2, x89_12, x89_10, x89_2, x89_0, b_89, wt]
theorem worst_call {d : Nat} {site : Nat → Nat} {seen : List Nat} (s : Stone) (b : Int) : aBack site true seen (thaw (callA E fg 1000 (d + 1)) 89 [.agg [.int .i64 s.half, .int .i64 s.pos, .int .i64 s.least, .int .i64 s.most], .int .i64 b] [] 0) = .pure (.int .i64 (wt s b), []) :=
  aBack_int (rs_ex (worst_run s b))
/-- What a stone adds in the worst truth. -/
def term (side right left : Int) (s : Stone) : Int := wt s (far side right left s) * far side right left s
theorem mul_bound {w x M : Int} (h1 : 0 ≤ w) (h2 : w ≤ 9) (h3 : -M ≤ x) (h4 : x ≤ M) : -(9 * M) ≤ w * x ∧ w * x ≤ 9 * M := by
  have hM : 0 ≤ M := by omega
  have a1 : w * x ≤ w * M := Int.mul_le_mul_of_nonneg_left h4 h1
  have a2 : w * M ≤ 9 * M := Int.mul_le_mul_of_nonneg_right h2 hM
  have a3 : w * (-M) ≤ w * x := Int.mul_le_mul_of_nonneg_left h3 h1
  have a4 : w * (-M) = -(w * M) := Int.mul_neg _ _
  omega
theorem term_bound {s : Stone} {side right left : Int} (hs : Fits s) (h1 : -268435456 ≤ left ∧ left ≤ 37748736 ∧ -37748736 ≤ right ∧ right ≤ 37748736) : -2717908992 ≤ term side right left s ∧ term side right left s ≤ 2717908992 := by
  obtain ⟨a, b⟩ := far_bound (side := side) hs h1
  obtain ⟨_, _, _, _, l1, lm, m9⟩ := hs
  have := mul_bound (w := wt s (far side right left s)) (x := far side right left s) (M := 301989888) (by unfold wt; split <;> omega) (by unfold wt; split <;> omega) a (by omega)
  unfold term
  omega
theorem mayTerm_run {d : Nat} (i : Int) (s : Stone) (side right left : Int) (hs : Fits s) (h1 : -268435456 ≤ left ∧ left ≤ 37748736 ∧ -37748736 ≤ right ∧ right ≤ 37748736) :
    rsOf (bodyA E (callA E fg 1000 (d + 1)) fg 1000 115 [.int .i64 i, .agg (sc s), .iptr [farV side right left] 0] [] 0) = some (.int .i64 (term side right left s)) := by
  obtain ⟨b1, b2⟩ := term_bound (side := side) hs h1
  have e : wrp .i64 (wt s (far side right left s) * far side right left s) = term side right left s := wrp64 (by unfold term at b1 b2; omega)
  simp only [sc, seqX_normal, bindR_some, regX_some, Bool.not_true, Bool.not_false, bodyX_ret, run_nil, run_cons, fget_cons', fput_cons', forget_nil, forget_cons', hget_nil', hget_cons', hset_nil', frame0, gcM_c, stp, opBox, just, Rd.bind, Rd.run, Rd.opt, upds, acells, rdCells, aLoad, resA, resL, fresh, aBin, aInt, Nat.reduceAdd, Nat.reduceMul, Nat.reduceBEq, Nat.reduceEqDiff, Nat.reduceLeDiff, ↓reduceIte, reduceCtorEq, liveBlk_eq, Nat.zero_add, rtX_some, addT_some, drX_some, runT_nil, runT_cons, neat_eq, descF_nil', descF_cons', ascH_nil', ascH_cons', stpT, Rd.foot, writing, touching, Tr.empty, dynPairs, apartT, disj, List.isEmpty_nil, List.isEmpty_cons, List.map_nil, Bool.not_false, Bool.not_true, Bool.true_or, Bool.or_false, Bool.and_true, Bool.true_and, Bool.and_self, decide_true, putD_some, aCall, snaps, snap, List.append_nil, Option.map_some, List.elem_cons, List.elem_nil, List.length_cons, List.length_nil, List.getElem?_cons_zero, List.drop_zero, List.take_succ_cons, List.take_nil, T_45, T_138, x115_1, r115_0_l, s115_0_0, s115_0_1, x115_3, r115_1_l, r115_1_dr, r115_1_an, s115_1_0, s115_1_1, s115_1_2, s115_1_3, s115_1_4, s115_1_5, s115_1_6, s115_1_7, s115_1_8, s115_1_9, x115_4, x115_2, x115_0, b_115, callVT_eq (far_pure _ _ _ _), far_ask s side right left hs h1, worst_call, e]
end Go.AM.Ytmhbnflnlglljaa
end
