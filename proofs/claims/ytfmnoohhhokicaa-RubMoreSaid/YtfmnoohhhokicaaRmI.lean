/- A part of the proof of rubMore_holds: SyB, SyS, SyC, RuA. Own work of this project; texts printed by own programs among it. -/
import Derived.KernelRfl
import Derived.Test.YtfmnoohhhokicaaRmH
section
namespace Go.AM.Ytfmnoohhhokicaa
open Go Go.AM
set_option maxRecDepth 100000
variable {C : Callee} {B N : Nat} {E0 : AHeap} (φ : AFr) (H : AHeap) (s : St)
noncomputable def c92_0 : Code := kBody Proofs.Try.f92
noncomputable def c92_1 : Code := kL c92_0
noncomputable def r92_0 : Array Oper := kO c92_1
noncomputable def o92_0_0 : Oper := opN r92_0 0
theorem x92_1 : execA E C (fg 92) B 14 E0 N c92_1 s = regX (runA E C B 14 r92_0 r92_0.toList s) (fun s => gcM E0 [1] (forget s.1 [1], s.2)) := x_reg (ops := r92_0) (by rfl) (by rfl) s
theorem r92_0_l : r92_0.toList = [o92_0_0] := nrfl rfl
theorem s92_0_0 : stepA E C B 14 r92_0 o92_0_0 (φ, H) = stp (some 3) φ H (opBox (B + 3) (acells (fget φ 1))) := nrfl rfl
noncomputable def c92_2 : Code := kR c92_0
noncomputable def c92_3 : Code := kL c92_2
noncomputable def r92_1 : Array Oper := kO c92_3
noncomputable def o92_1_0 : Oper := opN r92_1 0
noncomputable def o92_1_1 : Oper := opN r92_1 1
noncomputable def o92_1_2 : Oper := opN r92_1 2
noncomputable def o92_1_3 : Oper := opN r92_1 3
theorem x92_3 : execA E C (fg 92) B 14 E0 N c92_3 s = regX (runA E C B 14 r92_1 r92_1.toList s) (fun s => gcM E0 [7, 8] (forget s.1 [7, 8], s.2)) := x_reg (ops := r92_1) (by rfl) (by rfl) s
theorem r92_1_l : r92_1.toList = [o92_1_0, o92_1_1, o92_1_2, o92_1_3] := nrfl rfl
theorem s92_1_0 : stepA E C B 14 r92_1 o92_1_0 (φ, H) = some (fput φ 7 (fget φ 0), H) := nrfl rfl
theorem s92_1_1 : stepA E C B 14 r92_1 o92_1_1 (φ, H) = stp (some 8) φ H (aCall C (fun j => B + j * 14 + 8) true 79 [(fget φ 7)]) := nrfl rfl
theorem s92_1_2 : stepA E C B 14 r92_1 o92_1_2 (φ, H) = stp (some 4) φ H (opBox (B + 4) (zeroCells E.T 22)) := nrfl rfl
theorem s92_1_3 : stepA E C B 14 r92_1 o92_1_3 (φ, H) = stp none φ H (opStore E.T 22 (fget φ 4) (fget φ 8)) := nrfl rfl
noncomputable def c92_4 : Code := kR c92_2
noncomputable def c92_5 : Code := kL c92_4
noncomputable def r92_2 : Array Oper := kO c92_5
noncomputable def o92_2_0 : Oper := opN r92_2 0
noncomputable def o92_2_1 : Oper := opN r92_2 1
noncomputable def o92_2_2 : Oper := opN r92_2 2
noncomputable def o92_2_3 : Oper := opN r92_2 3
theorem x92_5 : execA E C (fg 92) B 14 E0 N c92_5 s = regX (runA E C B 14 r92_2 r92_2.toList s) (fun s => gcM E0 [0, 9, 10] (forget s.1 [0, 9, 10], s.2)) := x_reg (ops := r92_2) (by rfl) (by rfl) s
theorem r92_2_l : r92_2.toList = [o92_2_0, o92_2_1, o92_2_2, o92_2_3] := nrfl rfl
theorem s92_2_0 : stepA E C B 14 r92_2 o92_2_0 (φ, H) = some (fput φ 9 (fget φ 0), H) := nrfl rfl
theorem s92_2_1 : stepA E C B 14 r92_2 o92_2_1 (φ, H) = stp (some 10) φ H (aBuiltin E.T (B + 10) .len #[22] [(fget φ 9)]) := nrfl rfl
theorem s92_2_2 : stepA E C B 14 r92_2 o92_2_2 (φ, H) = stp (some 5) φ H (opBox (B + 5) (zeroCells E.T 3)) := nrfl rfl
theorem s92_2_3 : stepA E C B 14 r92_2 o92_2_3 (φ, H) = stp none φ H (opStore E.T 3 (fget φ 5) (fget φ 10)) := nrfl rfl
noncomputable def c92_6 : Code := kR c92_4
noncomputable def c92_7 : Code := kL c92_6
noncomputable def r92_3 : Array Oper := kO c92_7
noncomputable def o92_3_0 : Oper := opN r92_3 0
theorem x92_7 : execA E C (fg 92) B 14 E0 N c92_7 s = regX (runA E C B 14 r92_3 r92_3.toList s) (fun s => gcM E0 [] (forget s.1 [], s.2)) := x_reg (ops := r92_3) (by rfl) (by rfl) s
theorem r92_3_l : r92_3.toList = [o92_3_0] := nrfl rfl
theorem s92_3_0 : stepA E C B 14 r92_3 o92_3_0 (φ, H) = stp (some 6) φ H (opBox (B + 6) (zeroCells E.T 94)) := nrfl rfl
noncomputable def c92_8 : Code := kR c92_6
noncomputable def c92_9 : Code := kL c92_8
noncomputable def r92_4 : Array Oper := kO c92_9
noncomputable def o92_4_0 : Oper := opN r92_4 0
noncomputable def o92_4_1 : Oper := opN r92_4 1
theorem x92_9 : execA E C (fg 92) B 14 E0 N c92_9 s = regX (runA E C B 14 r92_4 r92_4.toList s) (fun s => gcM E0 [3, 4, 5, 11] (forget s.1 [3, 4, 5, 11], s.2)) := x_reg (ops := r92_4) (by rfl) (by rfl) s
theorem r92_4_l : r92_4.toList = [o92_4_0, o92_4_1] := nrfl rfl
theorem s92_4_0 : stepA E C B 14 r92_4 o92_4_0 (φ, H) = stp (some 11) φ H (.pure (.clo 116 [(fget φ 5), (fget φ 3), (fget φ 4), (fget φ 6)], [])) := nrfl rfl
theorem s92_4_1 : stepA E C B 14 r92_4 o92_4_1 (φ, H) = stp none φ H (opStore E.T 94 (fget φ 6) (fget φ 11)) := nrfl rfl
noncomputable def c92_10 : Code := kR c92_8
noncomputable def r92_5 : Array Oper := kO c92_10
noncomputable def o92_5_0 : Oper := opN r92_5 0
noncomputable def o92_5_1 : Oper := opN r92_5 1
theorem x92_10 : execA E C (fg 92) B 14 E0 N c92_10 s = regX (runA E C B 14 r92_5 r92_5.toList s) (fun s => gcM E0 [6, 12, 13] (forget s.1 [6, 12, 13], s.2)) := x_reg (ops := r92_5) (by rfl) (by rfl) s
theorem r92_5_l : r92_5.toList = [o92_5_0, o92_5_1] := nrfl rfl
theorem s92_5_0 : stepA E C B 14 r92_5 o92_5_0 (φ, H) = stp (some 12) φ H (just (aLoad E.T 94 (fget φ 6))) := nrfl rfl
theorem s92_5_1 : stepA E C B 14 r92_5 o92_5_1 (φ, H) = callV E C (B + 14 * 8) (some 13) (fun j => B + j * 14 + 13) φ H (fget φ 12) [(.nilsl), (.int .i64 0), (.int .i64 8)] true := nrfl rfl
theorem x92_8 : execA E C (fg 92) B 14 E0 N c92_8 s = seqX (execA E C (fg 92) B 14 E0 N c92_9 s) (execA E C (fg 92) B 14 E0 N c92_10) := x_seq (by rfl) s
theorem x92_6 : execA E C (fg 92) B 14 E0 N c92_6 s = seqX (execA E C (fg 92) B 14 E0 N c92_7 s) (execA E C (fg 92) B 14 E0 N c92_8) := x_seq (by rfl) s
theorem x92_4 : execA E C (fg 92) B 14 E0 N c92_4 s = seqX (execA E C (fg 92) B 14 E0 N c92_5 s) (execA E C (fg 92) B 14 E0 N c92_6) := x_seq (by rfl) s
theorem x92_2 : execA E C (fg 92) B 14 E0 N c92_2 s = seqX (execA E C (fg 92) B 14 E0 N c92_3 s) (execA E C (fg 92) B 14 E0 N c92_4) := x_seq (by rfl) s
theorem x92_0 : execA E C (fg 92) B 14 E0 N c92_0 s = seqX (execA E C (fg 92) B 14 E0 N c92_1 s) (execA E C (fg 92) B 14 E0 N c92_2) := x_seq (by rfl) s
theorem fi_92 : fInfo E 92 = some ⟨14, #[], c92_0⟩ := nrfl rfl
theorem b_92 (args : List AV) : bodyA E C fg N 92 args H B = bodyX E [] (execA E C (fg 92) B 14 H N c92_0 (frame0 args 0 [], H)) := bodyA_eq fi_92 args H
abbrev F_92 := And.intro (And.intro (And.intro (And.intro (And.intro @x92_1 @r92_0_l) (And.intro @s92_0_0 @x92_3)) (And.intro (And.intro @r92_1_l @s92_1_0) (And.intro @s92_1_1 @s92_1_2))) (And.intro (And.intro (And.intro @s92_1_3 @x92_5) (And.intro @r92_2_l @s92_2_0)) (And.intro (And.intro @s92_2_1 @s92_2_2) (And.intro @s92_2_3 @x92_7)))) (And.intro (And.intro (And.intro (And.intro @r92_3_l @s92_3_0) (And.intro @x92_9 @r92_4_l)) (And.intro (And.intro @s92_4_0 @s92_4_1) (And.intro @x92_10 @r92_5_l))) (And.intro (And.intro (And.intro @s92_5_0 @s92_5_1) (And.intro @x92_8 @x92_6)) (And.intro (And.intro @x92_4 @x92_2) (And.intro @x92_0 @b_92))))
noncomputable def c116_0 : Code := kBody Proofs.Try.f116
noncomputable def c116_1 : Code := kL c116_0
noncomputable def r116_0 : Array Oper := kO c116_1
noncomputable def o116_0_0 : Oper := opN r116_0 0
noncomputable def o116_0_1 : Oper := opN r116_0 1
noncomputable def o116_0_2 : Oper := opN r116_0 2
theorem x116_1 : execA E C (fg 116) B 62 E0 N c116_1 s = regX (runA E C B 62 r116_0 r116_0.toList s) (fun s => gcM E0 [13, 14] (forget s.1 [13, 14], s.2)) := x_reg (ops := r116_0) (by rfl) (by rfl) s
theorem r116_0_l : r116_0.toList = [o116_0_0, o116_0_1, o116_0_2] := nrfl rfl
theorem s116_0_0 : stepA E C B 62 r116_0 o116_0_0 (φ, H) = some (fput φ 13 (fget φ 0), H) := nrfl rfl
theorem s116_0_1 : stepA E C B 62 r116_0 o116_0_1 (φ, H) = stp (some 14) φ H (aBuiltin E.T (B + 14) .len #[22] [(fget φ 13)]) := nrfl rfl
theorem s116_0_2 : stepA E C B 62 r116_0 o116_0_2 (φ, H) = some (fput φ 10 (fget φ 14), H) := nrfl rfl
noncomputable def c116_2 : Code := kR c116_0
noncomputable def c116_3 : Code := kL c116_2
noncomputable def c116_4 : Code := kL c116_3
noncomputable def r116_1 : Array Oper := kO c116_4
noncomputable def o116_1_0 : Oper := opN r116_1 0
noncomputable def o116_1_1 : Oper := opN r116_1 1
noncomputable def o116_1_2 : Oper := opN r116_1 2
theorem x116_4 : execA E C (fg 116) B 62 E0 N c116_4 s = regX (runA E C B 62 r116_1 r116_1.toList s) (fun s => gcM E0 [15, 16] (forget s.1 [15, 16], s.2)) := x_reg (ops := r116_1) (by rfl) (by rfl) s
theorem r116_1_l : r116_1.toList = [o116_1_0, o116_1_1, o116_1_2] := nrfl rfl
theorem s116_1_0 : stepA E C B 62 r116_1 o116_1_0 (φ, H) = some (fput φ 15 (fget φ 10), H) := nrfl rfl
theorem s116_1_1 : stepA E C B 62 r116_1 o116_1_1 (φ, H) = stp (some 16) φ H (just (aLoad E.T 3 (fget φ 3))) := nrfl rfl
theorem s116_1_2 : stepA E C B 62 r116_1 o116_1_2 (φ, H) = stp (some 17) φ H (just (aBin E.T .eql 3 (fget φ 15) (fget φ 16))) := nrfl rfl
noncomputable def c116_5 : Code := kR c116_3
noncomputable def c116_6 : Code := kT c116_5
noncomputable def c116_7 : Code := kL c116_6
noncomputable def r116_2 : Array Oper := kO c116_7
noncomputable def o116_2_0 : Oper := opN r116_2 0
noncomputable def o116_2_1 : Oper := opN r116_2 1
noncomputable def o116_2_2 : Oper := opN r116_2 2
theorem x116_7 : execA E C (fg 116) B 62 E0 N c116_7 s = regX (runA E C B 62 r116_2 r116_2.toList s) (fun s => gcM E0 [0, 1, 2, 3, 4, 5, 6, 10, 17, 18, 19, 20] (forget s.1 [0, 1, 2, 3, 4, 5, 6, 10, 17, 18, 19, 20], s.2)) := x_reg (ops := r116_2) (by rfl) (by rfl) s
theorem r116_2_l : r116_2.toList = [o116_2_0, o116_2_1, o116_2_2] := nrfl rfl
theorem s116_2_0 : stepA E C B 62 r116_2 o116_2_0 (φ, H) = stp (some 18) φ H (just (aLoad E.T 65 (fget φ 4))) := nrfl rfl
theorem s116_2_1 : stepA E C B 62 r116_2 o116_2_1 (φ, H) = some (fput φ 19 (fget φ 0), H) := nrfl rfl
theorem s116_2_2 : stepA E C B 62 r116_2 o116_2_2 (φ, H) = callV E C (B + 62 * 8) (some 20) (fun j => B + j * 62 + 20) φ H (fget φ 18) [(fget φ 19)] true := nrfl rfl
noncomputable def c116_8 : Code := kR c116_6
theorem x116_8 : execA E C (fg 116) B 62 E0 N c116_8 s = some (.ret, s) := x_ret (by rfl) s
theorem x116_6 : execA E C (fg 116) B 62 E0 N c116_6 s = seqX (execA E C (fg 116) B 62 E0 N c116_7 s) (execA E C (fg 116) B 62 E0 N c116_8) := x_seq (by rfl) s
noncomputable def c116_9 : Code := kE c116_5
theorem x116_9 : execA E C (fg 116) B 62 E0 N c116_9 s = some (.normal, s) := x_skip (by rfl) s
theorem x116_5 : execA E C (fg 116) B 62 E0 N c116_5 (φ, H) = condX (fget φ 17) (execA E C (fg 116) B 62 E0 N c116_6 (φ, H)) (execA E C (fg 116) B 62 E0 N c116_9 (φ, H)) := x_cond (by rfl) _
theorem x116_3 : execA E C (fg 116) B 62 E0 N c116_3 s = seqX (execA E C (fg 116) B 62 E0 N c116_4 s) (execA E C (fg 116) B 62 E0 N c116_5) := x_seq (by rfl) s
noncomputable def c116_10 : Code := kR c116_2
noncomputable def c116_11 : Code := kL c116_10
noncomputable def r116_3 : Array Oper := kO c116_11
noncomputable def o116_3_0 : Oper := opN r116_3 0
noncomputable def o116_3_1 : Oper := opN r116_3 1
noncomputable def o116_3_2 : Oper := opN r116_3 2
noncomputable def o116_3_3 : Oper := opN r116_3 3
noncomputable def o116_3_4 : Oper := opN r116_3 4
noncomputable def o116_3_5 : Oper := opN r116_3 5
noncomputable def o116_3_6 : Oper := opN r116_3 6
theorem x116_11 : execA E C (fg 116) B 62 E0 N c116_11 s = regX (runA E C B 62 r116_3 r116_3.toList s) (fun s => gcM E0 [4, 17, 21, 22, 23, 24, 25, 26] (forget s.1 [4, 17, 21, 22, 23, 24, 25, 26], s.2)) := x_reg (ops := r116_3) (by rfl) (by rfl) s
theorem r116_3_l : r116_3.toList = [o116_3_0, o116_3_1, o116_3_2, o116_3_3, o116_3_4, o116_3_5, o116_3_6] := nrfl rfl
theorem s116_3_0 : stepA E C B 62 r116_3 o116_3_0 (φ, H) = stp (some 21) φ H (just (aLoad E.T 22 (fget φ 5))) := nrfl rfl
theorem s116_3_1 : stepA E C B 62 r116_3 o116_3_1 (φ, H) = stp (some 22) φ H (just (aLoad E.T 3 (fget φ 3))) := nrfl rfl
theorem s116_3_2 : stepA E C B 62 r116_3 o116_3_2 (φ, H) = stp (some 23) φ H (just (aIndexAddr E.T 22 (fget φ 21) (fget φ 22))) := nrfl rfl
theorem s116_3_3 : stepA E C B 62 r116_3 o116_3_3 (φ, H) = stp (some 24) φ H (just (aLoad E.T 3 (fget φ 23))) := nrfl rfl
theorem s116_3_4 : stepA E C B 62 r116_3 o116_3_4 (φ, H) = some (fput φ 25 (fget φ 1), H) := nrfl rfl
theorem s116_3_5 : stepA E C B 62 r116_3 o116_3_5 (φ, H) = stp (some 26) φ H (just (aBin E.T .sub 3 (fget φ 24) (fget φ 25))) := nrfl rfl
theorem s116_3_6 : stepA E C B 62 r116_3 o116_3_6 (φ, H) = some (fput φ 11 (fget φ 26), H) := nrfl rfl
noncomputable def c116_12 : Code := kR c116_10
noncomputable def c116_13 : Code := kL c116_12
noncomputable def r116_4 : Array Oper := kO c116_13
noncomputable def o116_4_0 : Oper := opN r116_4 0
noncomputable def o116_4_1 : Oper := opN r116_4 1
noncomputable def o116_4_2 : Oper := opN r116_4 2
noncomputable def o116_4_3 : Oper := opN r116_4 3
noncomputable def o116_4_4 : Oper := opN r116_4 4
noncomputable def o116_4_5 : Oper := opN r116_4 5
noncomputable def o116_4_6 : Oper := opN r116_4 6
noncomputable def o116_4_7 : Oper := opN r116_4 7
noncomputable def o116_4_8 : Oper := opN r116_4 8
noncomputable def o116_4_9 : Oper := opN r116_4 9
theorem x116_13 : execA E C (fg 116) B 62 E0 N c116_13 s = regX (runA E C B 62 r116_4 r116_4.toList s) (fun s => gcM E0 [2, 5, 27, 28, 29, 30, 31, 32, 33, 34, 35] (forget s.1 [2, 5, 27, 28, 29, 30, 31, 32, 33, 34, 35], s.2)) := x_reg (ops := r116_4) (by rfl) (by rfl) s
theorem r116_4_l : r116_4.toList = [o116_4_0, o116_4_1, o116_4_2, o116_4_3, o116_4_4, o116_4_5, o116_4_6, o116_4_7, o116_4_8, o116_4_9] := nrfl rfl
theorem s116_4_0 : stepA E C B 62 r116_4 o116_4_0 (φ, H) = some (fput φ 27 (fget φ 2), H) := nrfl rfl
theorem s116_4_1 : stepA E C B 62 r116_4 o116_4_1 (φ, H) = stp (some 28) φ H (just (aLoad E.T 22 (fget φ 5))) := nrfl rfl
theorem s116_4_2 : stepA E C B 62 r116_4 o116_4_2 (φ, H) = some (fput φ 29 (fget φ 10), H) := nrfl rfl
theorem s116_4_3 : stepA E C B 62 r116_4 o116_4_3 (φ, H) = stp (some 30) φ H (just (aBin E.T .add 3 (fget φ 29) (.int .i64 1))) := nrfl rfl
theorem s116_4_4 : stepA E C B 62 r116_4 o116_4_4 (φ, H) = stp (some 31) φ H (just (aIndexAddr E.T 22 (fget φ 28) (fget φ 30))) := nrfl rfl
theorem s116_4_5 : stepA E C B 62 r116_4 o116_4_5 (φ, H) = stp (some 32) φ H (just (aLoad E.T 3 (fget φ 31))) := nrfl rfl
theorem s116_4_6 : stepA E C B 62 r116_4 o116_4_6 (φ, H) = some (fput φ 33 (fget φ 1), H) := nrfl rfl
theorem s116_4_7 : stepA E C B 62 r116_4 o116_4_7 (φ, H) = stp (some 34) φ H (just (aBin E.T .sub 3 (fget φ 32) (fget φ 33))) := nrfl rfl
theorem s116_4_8 : stepA E C B 62 r116_4 o116_4_8 (φ, H) = stp (some 35) φ H (aBuiltin E.T (B + 35) .min #[3, 3] [(fget φ 27), (fget φ 34)]) := nrfl rfl
theorem s116_4_9 : stepA E C B 62 r116_4 o116_4_9 (φ, H) = some (fput φ 12 (fget φ 35), H) := nrfl rfl
noncomputable def c116_14 : Code := kR c116_12
noncomputable def c116_15 : Code := kB c116_14
noncomputable def c116_16 : Code := kB c116_15
noncomputable def c116_17 : Code := kL c116_16
noncomputable def c116_18 : Code := kL c116_17
noncomputable def r116_5 : Array Oper := kO c116_18
noncomputable def o116_5_0 : Oper := opN r116_5 0
noncomputable def o116_5_1 : Oper := opN r116_5 1
noncomputable def o116_5_2 : Oper := opN r116_5 2
noncomputable def o116_5_3 : Oper := opN r116_5 3
noncomputable def o116_5_4 : Oper := opN r116_5 4
noncomputable def o116_5_5 : Oper := opN r116_5 5
noncomputable def o116_5_6 : Oper := opN r116_5 6
noncomputable def o116_5_7 : Oper := opN r116_5 7
noncomputable def o116_5_8 : Oper := opN r116_5 8
noncomputable def o116_5_9 : Oper := opN r116_5 9
noncomputable def o116_5_10 : Oper := opN r116_5 10
theorem x116_18 : execA E C (fg 116) B 62 E0 N c116_18 s = regX (runA E C B 62 r116_5 r116_5.toList s) (fun s => gcM E0 [36, 37, 38, 39, 40, 41, 42, 43, 44, 45] (forget s.1 [36, 37, 38, 39, 40, 41, 42, 43, 44, 45], s.2)) := x_reg (ops := r116_5) (by rfl) (by rfl) s
theorem r116_5_l : r116_5.toList = [o116_5_0, o116_5_1, o116_5_2, o116_5_3, o116_5_4, o116_5_5, o116_5_6, o116_5_7, o116_5_8, o116_5_9, o116_5_10] := nrfl rfl
theorem s116_5_0 : stepA E C B 62 r116_5 o116_5_0 (φ, H) = some (fput φ 36 (fget φ 12), H) := nrfl rfl
theorem s116_5_1 : stepA E C B 62 r116_5 o116_5_1 (φ, H) = stp (some 37) φ H (just (aLoad E.T 3 (fget φ 3))) := nrfl rfl
theorem s116_5_2 : stepA E C B 62 r116_5 o116_5_2 (φ, H) = some (fput φ 38 (fget φ 10), H) := nrfl rfl
theorem s116_5_3 : stepA E C B 62 r116_5 o116_5_3 (φ, H) = stp (some 39) φ H (just (aBin E.T .sub 3 (fget φ 37) (fget φ 38))) := nrfl rfl
theorem s116_5_4 : stepA E C B 62 r116_5 o116_5_4 (φ, H) = stp (some 40) φ H (just (aBin E.T .mul 3 (fget φ 36) (fget φ 39))) := nrfl rfl
theorem s116_5_5 : stepA E C B 62 r116_5 o116_5_5 (φ, H) = some (fput φ 41 (fget φ 11), H) := nrfl rfl
theorem s116_5_6 : stepA E C B 62 r116_5 o116_5_6 (φ, H) = stp (some 42) φ H (just (aBin E.T .geq 3 (fget φ 40) (fget φ 41))) := nrfl rfl
theorem s116_5_7 : stepA E C B 62 r116_5 o116_5_7 (φ, H) = some (fput φ 43 (fget φ 42), H) := nrfl rfl
theorem s116_5_8 : stepA E C B 62 r116_5 o116_5_8 (φ, H) = gd φ 43 true (fun φ => some (fput φ 44 (.tup []), H)) (fun φ => some (fput φ 44 (fget φ 12), H)) := s_gd (j := 7) (oj := o116_5_7) rfl rfl rfl (fun _ => rfl) (fun _ => rfl)
theorem s116_5_9 : stepA E C B 62 r116_5 o116_5_9 (φ, H) = gd φ 43 true (fun φ => some (fput φ 45 (.tup []), H)) (fun φ => stp (some 45) φ H (just (aBin E.T .geq 3 (fget φ 44) (.int .i64 0)))) := s_gd (j := 7) (oj := o116_5_7) rfl rfl rfl (fun _ => rfl) (fun _ => rfl)
theorem s116_5_10 : stepA E C B 62 r116_5 o116_5_10 (φ, H) = stp (some 46) φ H (opPick (fget φ 43) (fget φ 45) (.bool false)) := nrfl rfl
noncomputable def c116_19 : Code := kR c116_17
noncomputable def c116_20 : Code := kT c116_19
theorem x116_20 : execA E C (fg 116) B 62 E0 N c116_20 s = some (.normal, s) := x_skip (by rfl) s
noncomputable def c116_21 : Code := kE c116_19
theorem x116_21 : execA E C (fg 116) B 62 E0 N c116_21 s = some (.exit 0, s) := x_exit (by rfl) s
theorem x116_19 : execA E C (fg 116) B 62 E0 N c116_19 (φ, H) = condX (fget φ 46) (execA E C (fg 116) B 62 E0 N c116_20 (φ, H)) (execA E C (fg 116) B 62 E0 N c116_21 (φ, H)) := x_cond (by rfl) _
theorem x116_17 : execA E C (fg 116) B 62 E0 N c116_17 s = seqX (execA E C (fg 116) B 62 E0 N c116_18 s) (execA E C (fg 116) B 62 E0 N c116_19) := x_seq (by rfl) s
noncomputable def c116_22 : Code := kR c116_16
noncomputable def c116_23 : Code := kL c116_22
noncomputable def c116_24 : Code := kB c116_23
noncomputable def r116_7 : Array Oper := kO c116_24
noncomputable def o116_7_0 : Oper := opN r116_7 0
noncomputable def o116_7_1 : Oper := opN r116_7 1
noncomputable def o116_7_2 : Oper := opN r116_7 2
noncomputable def o116_7_3 : Oper := opN r116_7 3
noncomputable def o116_7_4 : Oper := opN r116_7 4
noncomputable def o116_7_5 : Oper := opN r116_7 5
noncomputable def o116_7_6 : Oper := opN r116_7 6
noncomputable def o116_7_7 : Oper := opN r116_7 7
noncomputable def o116_7_8 : Oper := opN r116_7 8
noncomputable def o116_7_9 : Oper := opN r116_7 9
noncomputable def o116_7_10 : Oper := opN r116_7 10
noncomputable def o116_7_11 : Oper := opN r116_7 11
noncomputable def o116_7_12 : Oper := opN r116_7 12
theorem x116_24 : execA E C (fg 116) B 62 E0 N c116_24 s = regX (drawA E C B 62 r116_7 s) (fun s => gcM E0 [46, 49, 50, 51, 52, 53, 54, 55, 56, 57, 58, 59, 60, 61] (forget s.1 [46, 49, 50, 51, 52, 53, 54, 55, 56, 57, 58, 59, 60, 61], s.2)) := x_draw (ops := r116_7) (by rfl) (by rfl) s
theorem r116_7_l : r116_7.toList = [o116_7_0, o116_7_1, o116_7_2, o116_7_3, o116_7_4, o116_7_5, o116_7_6, o116_7_7, o116_7_8, o116_7_9, o116_7_10, o116_7_11, o116_7_12] := nrfl rfl
theorem r116_7_st : statOk r116_7 = true := by kernel_rfl
theorem r116_7_dr : drawA E C B 62 r116_7 s = if neat 62 s = true then drX r116_7 (runT E C B 62 r116_7 r116_7.toList 0 s) else none := draw_eq r116_7_st s
theorem r116_7_an (l : List (Nat × Tr)) : dynOk r116_7 l = (!writing l || dynPairs [[], [], [], [], [1, 2, 3], [], [5], [1, 2, 3, 4, 5, 6], [], [], [8, 9], [], [0, 1, 2, 3, 4, 5, 6, 7, 8, 9, 10, 11]] (touching l)) := dynOk_eq (by kernel_rfl) l
theorem s116_7_0 : stepT E C B 62 r116_7 o116_7_0 (φ, H) = stpT (some 49) φ H (just (aLoad E.T 94 (fget φ 6))) := stT_go rfl (goT_R rfl rfl)
theorem s116_7_1 : stepT E C B 62 r116_7 o116_7_1 (φ, H) = some ((fput φ 50 (fget φ 0), H), ⟨false, [], []⟩) := stT_go rfl (goT_mv rfl rfl)
theorem s116_7_2 : stepT E C B 62 r116_7 o116_7_2 (φ, H) = some ((fput φ 51 (fget φ 10), H), ⟨false, [], []⟩) := stT_go rfl (goT_mv rfl rfl)
theorem s116_7_3 : stepT E C B 62 r116_7 o116_7_3 (φ, H) = some ((fput φ 52 (fget φ 10), H), ⟨false, [], []⟩) := stT_go rfl (goT_mv rfl rfl)
theorem s116_7_4 : stepT E C B 62 r116_7 o116_7_4 (φ, H) = stpT (some 53) φ H (just (aSlice E.T 22 (fget φ 50) none (some (fget φ 51)) (some (fget φ 52)))) := stT_go rfl (goT_R rfl rfl)
theorem s116_7_5 : stepT E C B 62 r116_7 o116_7_5 (φ, H) = some ((fput φ 54 (fget φ 12), H), ⟨false, [], []⟩) := stT_go rfl (goT_mv rfl rfl)
theorem s116_7_6 : stepT E C B 62 r116_7 o116_7_6 (φ, H) = stpT (some 55) φ H (aBuildSlice E.T (B + 55) 22 1 (evO E φ) [(0, Operand.tmp 54)]) := stT_go rfl (goT_R rfl rfl)
theorem s116_7_7 : stepT E C B 62 r116_7 o116_7_7 (φ, H) = stpT (some 56) φ H (aBuiltin E.T (B + 56) .append #[22, 22] [(fget φ 53), (fget φ 55)]) := stT_go rfl (goT_R rfl rfl)
theorem s116_7_8 : stepT E C B 62 r116_7 o116_7_8 (φ, H) = some ((fput φ 57 (fget φ 1), H), ⟨false, [], []⟩) := stT_go rfl (goT_mv rfl rfl)
theorem s116_7_9 : stepT E C B 62 r116_7 o116_7_9 (φ, H) = some ((fput φ 58 (fget φ 12), H), ⟨false, [], []⟩) := stT_go rfl (goT_mv rfl rfl)
theorem s116_7_10 : stepT E C B 62 r116_7 o116_7_10 (φ, H) = stpT (some 59) φ H (just (aBin E.T .add 3 (fget φ 57) (fget φ 58))) := stT_go rfl (goT_R rfl rfl)
theorem s116_7_11 : stepT E C B 62 r116_7 o116_7_11 (φ, H) = some ((fput φ 60 (fget φ 12), H), ⟨false, [], []⟩) := stT_go rfl (goT_mv rfl rfl)
theorem s116_7_12 : stepT E C B 62 r116_7 o116_7_12 (φ, H) = callVT E C (B + 62 * 8) (some 61) (fun j => B + j * 62 + 61) φ H (fget φ 49) [(fget φ 56), (fget φ 59), (fget φ 60)] true := stT_go rfl (goT_V rfl rfl)
theorem x116_23 : execA E C (fg 116) B 62 E0 N c116_23 s = blockX 1 (fun s => (forget s.1 [], s.2)) (execA E C (fg 116) B 62 E0 N c116_24 s) := x_block (by rfl) (by rfl) s
noncomputable def c116_25 : Code := kR c116_22
noncomputable def r116_6 : Array Oper := kO c116_25
noncomputable def o116_6_0 : Oper := opN r116_6 0
noncomputable def o116_6_1 : Oper := opN r116_6 1
noncomputable def o116_6_2 : Oper := opN r116_6 2
theorem x116_25 : execA E C (fg 116) B 62 E0 N c116_25 s = regX (runA E C B 62 r116_6 r116_6.toList s) (fun s => gcM E0 [47, 48] (forget s.1 [47, 48], s.2)) := x_reg (ops := r116_6) (by rfl) (by rfl) s
theorem r116_6_l : r116_6.toList = [o116_6_0, o116_6_1, o116_6_2] := nrfl rfl
theorem s116_6_0 : stepA E C B 62 r116_6 o116_6_0 (φ, H) = some (fput φ 47 (fget φ 12), H) := nrfl rfl
theorem s116_6_1 : stepA E C B 62 r116_6 o116_6_1 (φ, H) = stp (some 48) φ H (just (aBin E.T .sub 3 (fget φ 47) (.int .i64 1))) := nrfl rfl
theorem s116_6_2 : stepA E C B 62 r116_6 o116_6_2 (φ, H) = some (fput φ 12 (fget φ 48), H) := nrfl rfl
theorem x116_22 : execA E C (fg 116) B 62 E0 N c116_22 s = seqX (execA E C (fg 116) B 62 E0 N c116_23 s) (execA E C (fg 116) B 62 E0 N c116_25) := x_seq (by rfl) s
theorem x116_16 : execA E C (fg 116) B 62 E0 N c116_16 s = seqX (execA E C (fg 116) B 62 E0 N c116_17 s) (execA E C (fg 116) B 62 E0 N c116_22) := x_seq (by rfl) s
theorem x116_15 : execA E C (fg 116) B 62 E0 N c116_15 s = iterA (execA E C (fg 116) B 62 E0 N c116_16) (headA E0) N s := x_loop (by rfl) s
theorem x116_14 : execA E C (fg 116) B 62 E0 N c116_14 s = blockX 0 (fun s => (forget s.1 [0, 1, 3, 6, 10, 11, 12, 46], s.2)) (execA E C (fg 116) B 62 E0 N c116_15 s) := x_block (by rfl) (by rfl) s
theorem x116_12 : execA E C (fg 116) B 62 E0 N c116_12 s = seqX (execA E C (fg 116) B 62 E0 N c116_13 s) (execA E C (fg 116) B 62 E0 N c116_14) := x_seq (by rfl) s
theorem x116_10 : execA E C (fg 116) B 62 E0 N c116_10 s = seqX (execA E C (fg 116) B 62 E0 N c116_11 s) (execA E C (fg 116) B 62 E0 N c116_12) := x_seq (by rfl) s
theorem x116_2 : execA E C (fg 116) B 62 E0 N c116_2 s = seqX (execA E C (fg 116) B 62 E0 N c116_3 s) (execA E C (fg 116) B 62 E0 N c116_10) := x_seq (by rfl) s
theorem x116_0 : execA E C (fg 116) B 62 E0 N c116_0 s = seqX (execA E C (fg 116) B 62 E0 N c116_1 s) (execA E C (fg 116) B 62 E0 N c116_2) := x_seq (by rfl) s
theorem fi_116 : fInfo E 116 = some ⟨62, #[], c116_0⟩ := nrfl rfl
theorem b_116 (args : List AV) : bodyA E C fg N 116 args H B = bodyX E [] (execA E C (fg 116) B 62 H N c116_0 (frame0 args 0 [], H)) := bodyA_eq fi_116 args H
abbrev F_116 := And.intro (And.intro (And.intro (And.intro (And.intro (And.intro @x116_1 @r116_0_l) (And.intro @s116_0_0 (And.intro @s116_0_1 @s116_0_2))) (And.intro (And.intro @x116_4 (And.intro @r116_1_l @s116_1_0)) (And.intro @s116_1_1 (And.intro @s116_1_2 @x116_7)))) (And.intro (And.intro (And.intro @r116_2_l @s116_2_0) (And.intro @s116_2_1 (And.intro @s116_2_2 @x116_8))) (And.intro (And.intro @x116_6 (And.intro @x116_9 @x116_5)) (And.intro @x116_3 (And.intro @x116_11 @r116_3_l))))) (And.intro (And.intro (And.intro (And.intro @s116_3_0 @s116_3_1) (And.intro @s116_3_2 (And.intro @s116_3_3 @s116_3_4))) (And.intro (And.intro @s116_3_5 (And.intro @s116_3_6 @x116_13)) (And.intro @r116_4_l (And.intro @s116_4_0 @s116_4_1)))) (And.intro (And.intro (And.intro @s116_4_2 (And.intro @s116_4_3 @s116_4_4)) (And.intro @s116_4_5 (And.intro @s116_4_6 @s116_4_7))) (And.intro (And.intro @s116_4_8 (And.intro @s116_4_9 @x116_18)) (And.intro @r116_5_l (And.intro @s116_5_0 @s116_5_1)))))) (And.intro (And.intro (And.intro (And.intro (And.intro @s116_5_2 @s116_5_3) (And.intro @s116_5_4 (And.intro @s116_5_5 @s116_5_6))) (And.intro (And.intro @s116_5_7 (And.intro @s116_5_8 @s116_5_9)) (And.intro @s116_5_10 (And.intro @x116_20 @x116_21)))) (And.intro (And.intro (And.intro @x116_19 @x116_17) (And.intro @x116_24 (And.intro @r116_7_l @r116_7_dr))) (And.intro (And.intro @r116_7_an (And.intro @s116_7_0 @s116_7_1)) (And.intro @s116_7_2 (And.intro @s116_7_3 @s116_7_4))))) (And.intro (And.intro (And.intro (And.intro @s116_7_5 @s116_7_6) (And.intro @s116_7_7 (And.intro @s116_7_8 @s116_7_9))) (And.intro (And.intro @s116_7_10 (And.intro @s116_7_11 @s116_7_12)) (And.intro @x116_23 (And.intro @x116_25 @r116_6_l)))) (And.intro (And.intro (And.intro @s116_6_0 (And.intro @s116_6_1 @s116_6_2)) (And.intro @x116_22 (And.intro @x116_16 @x116_15))) (And.intro (And.intro @x116_14 (And.intro @x116_12 @x116_10)) (And.intro @x116_2 (And.intro @x116_0 @b_116))))))
noncomputable def c37_0 : Code := kBody Proofs.Try.f37
noncomputable def c37_1 : Code := kL c37_0
noncomputable def r37_0 : Array Oper := kO c37_1
noncomputable def o37_0_0 : Oper := opN r37_0 0
noncomputable def o37_0_1 : Oper := opN r37_0 1
theorem x37_1 : execA E C (fg 37) B 15 E0 N c37_1 s = regX (runA E C B 15 r37_0 r37_0.toList s) (fun s => gcM E0 [2, 3] (forget s.1 [2, 3], s.2)) := x_reg (ops := r37_0) (by rfl) (by rfl) s
theorem r37_0_l : r37_0.toList = [o37_0_0, o37_0_1] := nrfl rfl
theorem s37_0_0 : stepA E C B 15 r37_0 o37_0_0 (φ, H) = some (fput φ 2 (.nilsl), H) := nrfl rfl
theorem s37_0_1 : stepA E C B 15 r37_0 o37_0_1 (φ, H) = some (fput φ 3 (.int .i64 0), H) := nrfl rfl
noncomputable def c37_2 : Code := kR c37_0
noncomputable def c37_3 : Code := kL c37_2
noncomputable def c37_4 : Code := kL c37_3
noncomputable def r37_1 : Array Oper := kO c37_4
noncomputable def o37_1_0 : Oper := opN r37_1 0
noncomputable def o37_1_1 : Oper := opN r37_1 1
noncomputable def o37_1_2 : Oper := opN r37_1 2
theorem x37_4 : execA E C (fg 37) B 15 E0 N c37_4 s = regX (runA E C B 15 r37_1 r37_1.toList s) (fun s => gcM E0 [6, 7] (forget s.1 [6, 7], s.2)) := x_reg (ops := r37_1) (by rfl) (by rfl) s
theorem r37_1_l : r37_1.toList = [o37_1_0, o37_1_1, o37_1_2] := nrfl rfl
theorem s37_1_0 : stepA E C B 15 r37_1 o37_1_0 (φ, H) = some (fput φ 6 (fget φ 0), H) := nrfl rfl
theorem s37_1_1 : stepA E C B 15 r37_1 o37_1_1 (φ, H) = stp (some 7) φ H (aCall C (fun j => B + j * 15 + 7) true 25 [(fget φ 6)]) := nrfl rfl
theorem s37_1_2 : stepA E C B 15 r37_1 o37_1_2 (φ, H) = some (fput φ 4 (fget φ 7), H) := nrfl rfl
noncomputable def c37_5 : Code := kR c37_3
noncomputable def c37_6 : Code := kL c37_5
noncomputable def r37_2 : Array Oper := kO c37_6
noncomputable def o37_2_0 : Oper := opN r37_2 0
noncomputable def o37_2_1 : Oper := opN r37_2 1
theorem x37_6 : execA E C (fg 37) B 15 E0 N c37_6 s = regX (runA E C B 15 r37_2 r37_2.toList s) (fun s => gcM E0 [8] (forget s.1 [8], s.2)) := x_reg (ops := r37_2) (by rfl) (by rfl) s
theorem r37_2_l : r37_2.toList = [o37_2_0, o37_2_1] := nrfl rfl
theorem s37_2_0 : stepA E C B 15 r37_2 o37_2_0 (φ, H) = some (fput φ 8 (fget φ 4), H) := nrfl rfl
theorem s37_2_1 : stepA E C B 15 r37_2 o37_2_1 (φ, H) = stp (some 9) φ H (just (aBin E.T .neq 24 (fget φ 8) (.int .i64 0))) := nrfl rfl
noncomputable def c37_7 : Code := kR c37_5
noncomputable def c37_8 : Code := kT c37_7
noncomputable def c37_9 : Code := kL c37_8
noncomputable def r37_3 : Array Oper := kO c37_9
noncomputable def o37_3_0 : Oper := opN r37_3 0
noncomputable def o37_3_1 : Oper := opN r37_3 1
noncomputable def o37_3_2 : Oper := opN r37_3 2
theorem x37_9 : execA E C (fg 37) B 15 E0 N c37_9 s = regX (runA E C B 15 r37_3 r37_3.toList s) (fun s => gcM E0 [0, 4, 9, 10] (forget s.1 [0, 4, 9, 10], s.2)) := x_reg (ops := r37_3) (by rfl) (by rfl) s
theorem r37_3_l : r37_3.toList = [o37_3_0, o37_3_1, o37_3_2] := nrfl rfl
theorem s37_3_0 : stepA E C B 15 r37_3 o37_3_0 (φ, H) = some (fput φ 10 (fget φ 4), H) := nrfl rfl
theorem s37_3_1 : stepA E C B 15 r37_3 o37_3_1 (φ, H) = some (fput φ 2 (.nilsl), H) := nrfl rfl
theorem s37_3_2 : stepA E C B 15 r37_3 o37_3_2 (φ, H) = some (fput φ 3 (fget φ 10), H) := nrfl rfl
noncomputable def c37_10 : Code := kR c37_8
theorem x37_10 : execA E C (fg 37) B 15 E0 N c37_10 s = some (.ret, s) := x_ret (by rfl) s
theorem x37_8 : execA E C (fg 37) B 15 E0 N c37_8 s = seqX (execA E C (fg 37) B 15 E0 N c37_9 s) (execA E C (fg 37) B 15 E0 N c37_10) := x_seq (by rfl) s
noncomputable def c37_11 : Code := kE c37_7
theorem x37_11 : execA E C (fg 37) B 15 E0 N c37_11 s = some (.normal, s) := x_skip (by rfl) s
theorem x37_7 : execA E C (fg 37) B 15 E0 N c37_7 (φ, H) = condX (fget φ 9) (execA E C (fg 37) B 15 E0 N c37_8 (φ, H)) (execA E C (fg 37) B 15 E0 N c37_11 (φ, H)) := x_cond (by rfl) _
theorem x37_5 : execA E C (fg 37) B 15 E0 N c37_5 s = seqX (execA E C (fg 37) B 15 E0 N c37_6 s) (execA E C (fg 37) B 15 E0 N c37_7) := x_seq (by rfl) s
theorem x37_3 : execA E C (fg 37) B 15 E0 N c37_3 s = seqX (execA E C (fg 37) B 15 E0 N c37_4 s) (execA E C (fg 37) B 15 E0 N c37_5) := x_seq (by rfl) s
noncomputable def c37_12 : Code := kR c37_2
noncomputable def c37_13 : Code := kL c37_12
noncomputable def r37_4 : Array Oper := kO c37_13
noncomputable def o37_4_0 : Oper := opN r37_4 0
theorem x37_13 : execA E C (fg 37) B 15 E0 N c37_13 s = regX (runA E C B 15 r37_4 r37_4.toList s) (fun s => gcM E0 [4, 9] (forget s.1 [4, 9], s.2)) := x_reg (ops := r37_4) (by rfl) (by rfl) s
theorem r37_4_l : r37_4.toList = [o37_4_0] := nrfl rfl
theorem s37_4_0 : stepA E C B 15 r37_4 o37_4_0 (φ, H) = stp (some 5) φ H (opBox (B + 5) (zeroCells E.T 39)) := nrfl rfl
noncomputable def c37_14 : Code := kR c37_12
noncomputable def c37_15 : Code := kL c37_14
noncomputable def r37_5 : Array Oper := kO c37_15
noncomputable def o37_5_0 : Oper := opN r37_5 0
noncomputable def o37_5_1 : Oper := opN r37_5 1
noncomputable def o37_5_2 : Oper := opN r37_5 2
theorem x37_15 : execA E C (fg 37) B 15 E0 N c37_15 s = regX (runA E C B 15 r37_5 r37_5.toList s) (fun s => gcM E0 [0, 11, 12, 13] (forget s.1 [0, 11, 12, 13], s.2)) := x_reg (ops := r37_5) (by rfl) (by rfl) s
theorem r37_5_l : r37_5.toList = [o37_5_0, o37_5_1, o37_5_2] := nrfl rfl
theorem s37_5_0 : stepA E C B 15 r37_5 o37_5_0 (φ, H) = some (fput φ 11 (fget φ 0), H) := nrfl rfl
theorem s37_5_1 : stepA E C B 15 r37_5 o37_5_1 (φ, H) = stp (some 12) φ H (.pure (.clo 93 [(fget φ 5)], [])) := nrfl rfl
theorem s37_5_2 : stepA E C B 15 r37_5 o37_5_2 (φ, H) = mutX (some 13) φ (C 92 [(fget φ 11), (fget φ 12)] H (B + 15 * 8)) := nrfl rfl
noncomputable def c37_16 : Code := kR c37_14
noncomputable def c37_17 : Code := kL c37_16
noncomputable def r37_6 : Array Oper := kO c37_17
noncomputable def o37_6_0 : Oper := opN r37_6 0
noncomputable def o37_6_1 : Oper := opN r37_6 1
noncomputable def o37_6_2 : Oper := opN r37_6 2
theorem x37_17 : execA E C (fg 37) B 15 E0 N c37_17 s = regX (runA E C B 15 r37_6 r37_6.toList s) (fun s => gcM E0 [5, 14] (forget s.1 [5, 14], s.2)) := x_reg (ops := r37_6) (by rfl) (by rfl) s
theorem r37_6_l : r37_6.toList = [o37_6_0, o37_6_1, o37_6_2] := nrfl rfl
theorem s37_6_0 : stepA E C B 15 r37_6 o37_6_0 (φ, H) = stp (some 14) φ H (just (aLoad E.T 39 (fget φ 5))) := nrfl rfl
theorem s37_6_1 : stepA E C B 15 r37_6 o37_6_1 (φ, H) = some (fput φ 2 (fget φ 14), H) := nrfl rfl
theorem s37_6_2 : stepA E C B 15 r37_6 o37_6_2 (φ, H) = some (fput φ 3 (.int .i64 0), H) := nrfl rfl
noncomputable def c37_18 : Code := kR c37_16
theorem x37_18 : execA E C (fg 37) B 15 E0 N c37_18 s = some (.ret, s) := x_ret (by rfl) s
theorem x37_16 : execA E C (fg 37) B 15 E0 N c37_16 s = seqX (execA E C (fg 37) B 15 E0 N c37_17 s) (execA E C (fg 37) B 15 E0 N c37_18) := x_seq (by rfl) s
theorem x37_14 : execA E C (fg 37) B 15 E0 N c37_14 s = seqX (execA E C (fg 37) B 15 E0 N c37_15 s) (execA E C (fg 37) B 15 E0 N c37_16) := x_seq (by rfl) s
theorem x37_12 : execA E C (fg 37) B 15 E0 N c37_12 s = seqX (execA E C (fg 37) B 15 E0 N c37_13 s) (execA E C (fg 37) B 15 E0 N c37_14) := x_seq (by rfl) s
theorem x37_2 : execA E C (fg 37) B 15 E0 N c37_2 s = seqX (execA E C (fg 37) B 15 E0 N c37_3 s) (execA E C (fg 37) B 15 E0 N c37_12) := x_seq (by rfl) s
theorem x37_0 : execA E C (fg 37) B 15 E0 N c37_0 s = seqX (execA E C (fg 37) B 15 E0 N c37_1 s) (execA E C (fg 37) B 15 E0 N c37_2) := x_seq (by rfl) s
theorem fi_37 : fInfo E 37 = some ⟨15, #[.tmp 2, .tmp 3], c37_0⟩ := nrfl rfl
theorem b_37 (args : List AV) : bodyA E C fg N 37 args H B = bodyX E [.tmp 2, .tmp 3] (execA E C (fg 37) B 15 H N c37_0 (frame0 args 0 [], H)) := bodyA_eq fi_37 args H
abbrev F_37 := And.intro (And.intro (And.intro (And.intro (And.intro @x37_1 @r37_0_l) (And.intro @s37_0_0 (And.intro @s37_0_1 @x37_4))) (And.intro (And.intro @r37_1_l (And.intro @s37_1_0 @s37_1_1)) (And.intro @s37_1_2 (And.intro @x37_6 @r37_2_l)))) (And.intro (And.intro (And.intro @s37_2_0 @s37_2_1) (And.intro @x37_9 (And.intro @r37_3_l @s37_3_0))) (And.intro (And.intro @s37_3_1 (And.intro @s37_3_2 @x37_10)) (And.intro @x37_8 (And.intro @x37_11 @x37_7))))) (And.intro (And.intro (And.intro (And.intro @x37_5 @x37_3) (And.intro @x37_13 (And.intro @r37_4_l @s37_4_0))) (And.intro (And.intro @x37_15 (And.intro @r37_5_l @s37_5_0)) (And.intro @s37_5_1 (And.intro @s37_5_2 @x37_17)))) (And.intro (And.intro (And.intro @r37_6_l @s37_6_0) (And.intro @s37_6_1 (And.intro @s37_6_2 @x37_18))) (And.intro (And.intro @x37_16 (And.intro @x37_14 @x37_12)) (And.intro @x37_2 (And.intro @x37_0 @b_37)))))
noncomputable def c93_0 : Code := kBody Proofs.Try.f93
noncomputable def r93_0 : Array Oper := kO c93_0
noncomputable def o93_0_0 : Oper := opN r93_0 0
noncomputable def o93_0_1 : Oper := opN r93_0 1
noncomputable def o93_0_2 : Oper := opN r93_0 2
noncomputable def o93_0_3 : Oper := opN r93_0 3
noncomputable def o93_0_4 : Oper := opN r93_0 4
noncomputable def o93_0_5 : Oper := opN r93_0 5
theorem x93_0 : execA E C (fg 93) B 8 E0 N c93_0 s = regX (drawA E C B 8 r93_0 s) (fun s => gcM E0 [0, 1, 3, 4, 5, 6, 7] (forget s.1 [0, 1, 3, 4, 5, 6, 7], s.2)) := x_draw (ops := r93_0) (by rfl) (by rfl) s
theorem r93_0_l : r93_0.toList = [o93_0_0, o93_0_1, o93_0_2, o93_0_3, o93_0_4, o93_0_5] := nrfl rfl
theorem r93_0_st : statOk r93_0 = true := by kernel_rfl
theorem r93_0_dr : drawA E C B 8 r93_0 s = if neat 8 s = true then drX r93_0 (runT E C B 8 r93_0 r93_0.toList 0 s) else none := draw_eq r93_0_st s
theorem r93_0_an (l : List (Nat × Tr)) : dynOk r93_0 l = (!writing l || dynPairs [[], [], [1], [1, 2], [0, 1, 2, 3], [0, 1, 2, 3, 4]] (touching l)) := dynOk_eq (by kernel_rfl) l
theorem s93_0_0 : stepT E C B 8 r93_0 o93_0_0 (φ, H) = stpT (some 3) φ H (just (aLoad E.T 39 (fget φ 1))) := stT_go rfl (goT_R rfl rfl)
theorem s93_0_1 : stepT E C B 8 r93_0 o93_0_1 (φ, H) = some ((fput φ 4 (fget φ 0), H), ⟨false, [], []⟩) := stT_go rfl (goT_mv rfl rfl)
theorem s93_0_2 : stepT E C B 8 r93_0 o93_0_2 (φ, H) = stpT (some 5) φ H (aCall C (fun j => B + j * 8 + 5) true 66 [(fget φ 4)]) := stT_go rfl (goT_R rfl rfl)
theorem s93_0_3 : stepT E C B 8 r93_0 o93_0_3 (φ, H) = stpT (some 6) φ H (aBuildSlice E.T (B + 6) 39 1 (evO E φ) [(0, Operand.tmp 5)]) := stT_go rfl (goT_R rfl rfl)
theorem s93_0_4 : stepT E C B 8 r93_0 o93_0_4 (φ, H) = stpT (some 7) φ H (aBuiltin E.T (B + 7) .append #[39, 39] [(fget φ 3), (fget φ 6)]) := stT_go rfl (goT_R rfl rfl)
theorem s93_0_5 : stepT E C B 8 r93_0 o93_0_5 (φ, H) = stpT none φ H (opStore E.T 39 (fget φ 1) (fget φ 7)) := stT_go rfl (goT_R rfl rfl)
theorem fi_93 : fInfo E 93 = some ⟨8, #[], c93_0⟩ := nrfl rfl
theorem b_93 (args : List AV) : bodyA E C fg N 93 args H B = bodyX E [] (execA E C (fg 93) B 8 H N c93_0 (frame0 args 0 [], H)) := bodyA_eq fi_93 args H
abbrev F_93 := And.intro (And.intro (And.intro @x93_0 @r93_0_l) (And.intro @r93_0_dr (And.intro @r93_0_an @s93_0_0))) (And.intro (And.intro @s93_0_1 (And.intro @s93_0_2 @s93_0_3)) (And.intro @s93_0_4 (And.intro @s93_0_5 @b_93)))
end Go.AM.Ytfmnoohhhokicaa
end

section
namespace Go.AM.Ytfmnoohhhokicaa
open Go Go.AM
set_option maxRecDepth 100000
variable {C : Callee} {B N : Nat} {E0 : AHeap} (φ : AFr) (H : AHeap) (s : St)
noncomputable def c108_0 : Code := kBody Proofs.Try.f108
noncomputable def c108_1 : Code := kL c108_0
noncomputable def r108_0 : Array Oper := kO c108_1
noncomputable def o108_0_0 : Oper := opN r108_0 0
noncomputable def o108_0_1 : Oper := opN r108_0 1
noncomputable def o108_0_2 : Oper := opN r108_0 2
theorem x108_1 : execA E C (fg 108) B 14 E0 N c108_1 s = regX (runA E C B 14 r108_0 r108_0.toList s) (fun s => gcM E0 [5, 6] (forget s.1 [5, 6], s.2)) := x_reg (ops := r108_0) (by rfl) (by rfl) s
theorem r108_0_l : r108_0.toList = [o108_0_0, o108_0_1, o108_0_2] := nrfl rfl
theorem s108_0_0 : stepA E C B 14 r108_0 o108_0_0 (φ, H) = some (fput φ 5 (fget φ 0), H) := nrfl rfl
theorem s108_0_1 : stepA E C B 14 r108_0 o108_0_1 (φ, H) = stp (some 6) φ H (aBuiltin E.T (B + 6) .len #[22] [(fget φ 5)]) := nrfl rfl
theorem s108_0_2 : stepA E C B 14 r108_0 o108_0_2 (φ, H) = some (fput φ 4 (fget φ 6), H) := nrfl rfl
noncomputable def c108_2 : Code := kR c108_0
noncomputable def r108_1 : Array Oper := kO c108_2
noncomputable def o108_1_0 : Oper := opN r108_1 0
noncomputable def o108_1_1 : Oper := opN r108_1 1
noncomputable def o108_1_2 : Oper := opN r108_1 2
noncomputable def o108_1_3 : Oper := opN r108_1 3
noncomputable def o108_1_4 : Oper := opN r108_1 4
noncomputable def o108_1_5 : Oper := opN r108_1 5
noncomputable def o108_1_6 : Oper := opN r108_1 6
theorem x108_2 : execA E C (fg 108) B 14 E0 N c108_2 s = regX (runA E C B 14 r108_1 r108_1.toList s) (fun s => gcM E0 [0, 1, 4, 7, 8, 9, 10, 11, 12, 13] (forget s.1 [0, 1, 4, 7, 8, 9, 10, 11, 12, 13], s.2)) := x_reg (ops := r108_1) (by rfl) (by rfl) s
theorem r108_1_l : r108_1.toList = [o108_1_0, o108_1_1, o108_1_2, o108_1_3, o108_1_4, o108_1_5, o108_1_6] := nrfl rfl
theorem s108_1_0 : stepA E C B 14 r108_1 o108_1_0 (φ, H) = some (fput φ 7 (fget φ 0), H) := nrfl rfl
theorem s108_1_1 : stepA E C B 14 r108_1 o108_1_1 (φ, H) = some (fput φ 8 (fget φ 4), H) := nrfl rfl
theorem s108_1_2 : stepA E C B 14 r108_1 o108_1_2 (φ, H) = some (fput φ 9 (fget φ 4), H) := nrfl rfl
theorem s108_1_3 : stepA E C B 14 r108_1 o108_1_3 (φ, H) = stp (some 10) φ H (justO (aConv E.T 3 98 (fget φ 9))) := nrfl rfl
theorem s108_1_4 : stepA E C B 14 r108_1 o108_1_4 (φ, H) = stp (some 11) φ H (aCall C (fun j => B + j * 14 + 11) true 111 [(fget φ 10)]) := nrfl rfl
theorem s108_1_5 : stepA E C B 14 r108_1 o108_1_5 (φ, H) = some (fput φ 12 (fget φ 1), H) := nrfl rfl
theorem s108_1_6 : stepA E C B 14 r108_1 o108_1_6 (φ, H) = mutX (some 13) φ (C 121 [(fget φ 7), (.int .i64 0), (fget φ 8), (fget φ 11), (fget φ 12)] H (B + 14 * 8)) := nrfl rfl
theorem x108_0 : execA E C (fg 108) B 14 E0 N c108_0 s = seqX (execA E C (fg 108) B 14 E0 N c108_1 s) (execA E C (fg 108) B 14 E0 N c108_2) := x_seq (by rfl) s
theorem fi_108 : fInfo E 108 = some ⟨14, #[], c108_0⟩ := nrfl rfl
theorem b_108 (args : List AV) : bodyA E C fg N 108 args H B = bodyX E [] (execA E C (fg 108) B 14 H N c108_0 (frame0 args 0 [], H)) := bodyA_eq fi_108 args H
abbrev F_108 := And.intro (And.intro (And.intro (And.intro @x108_1 @r108_0_l) (And.intro @s108_0_0 @s108_0_1)) (And.intro (And.intro @s108_0_2 @x108_2) (And.intro @r108_1_l @s108_1_0))) (And.intro (And.intro (And.intro @s108_1_1 @s108_1_2) (And.intro @s108_1_3 @s108_1_4)) (And.intro (And.intro @s108_1_5 @s108_1_6) (And.intro @x108_0 @b_108)))
noncomputable def c121_0 : Code := kBody Proofs.Try.f121
noncomputable def c121_1 : Code := kL c121_0
noncomputable def r121_0 : Array Oper := kO c121_1
noncomputable def o121_0_0 : Oper := opN r121_0 0
theorem x121_1 : execA E C (fg 121) B 148 E0 N c121_1 s = regX (runA E C B 148 r121_0 r121_0.toList s) (fun s => gcM E0 [] (forget s.1 [], s.2)) := x_reg (ops := r121_0) (by rfl) (by rfl) s
theorem r121_0_l : r121_0.toList = [o121_0_0] := nrfl rfl
theorem s121_0_0 : stepA E C B 148 r121_0 o121_0_0 (φ, H) = some (fput φ 10 (.bool true), H) := nrfl rfl
noncomputable def c121_2 : Code := kR c121_0
noncomputable def c121_3 : Code := kL c121_2
noncomputable def r121_1 : Array Oper := kO c121_3
noncomputable def o121_1_0 : Oper := opN r121_1 0
theorem x121_3 : execA E C (fg 121) B 148 E0 N c121_3 s = regX (runA E C B 148 r121_1 r121_1.toList s) (fun s => gcM E0 [] (forget s.1 [], s.2)) := x_reg (ops := r121_1) (by rfl) (by rfl) s
theorem r121_1_l : r121_1.toList = [o121_1_0] := nrfl rfl
theorem s121_1_0 : stepA E C B 148 r121_1 o121_1_0 (φ, H) = some (fput φ 11 (.bool true), H) := nrfl rfl
noncomputable def c121_4 : Code := kR c121_2
noncomputable def c121_5 : Code := kB c121_4
noncomputable def c121_6 : Code := kB c121_5
noncomputable def c121_7 : Code := kB c121_6
noncomputable def c121_8 : Code := kL c121_7
noncomputable def r121_2 : Array Oper := kO c121_8
noncomputable def o121_2_0 : Oper := opN r121_2 0
noncomputable def o121_2_1 : Oper := opN r121_2 1
noncomputable def o121_2_2 : Oper := opN r121_2 2
noncomputable def o121_2_3 : Oper := opN r121_2 3
theorem x121_8 : execA E C (fg 121) B 148 E0 N c121_8 s = regX (runA E C B 148 r121_2 r121_2.toList s) (fun s => gcM E0 [21, 22, 23] (forget s.1 [21, 22, 23], s.2)) := x_reg (ops := r121_2) (by rfl) (by rfl) s
theorem r121_2_l : r121_2.toList = [o121_2_0, o121_2_1, o121_2_2, o121_2_3] := nrfl rfl
theorem s121_2_0 : stepA E C B 148 r121_2 o121_2_0 (φ, H) = some (fput φ 21 (fget φ 2), H) := nrfl rfl
theorem s121_2_1 : stepA E C B 148 r121_2 o121_2_1 (φ, H) = some (fput φ 22 (fget φ 1), H) := nrfl rfl
theorem s121_2_2 : stepA E C B 148 r121_2 o121_2_2 (φ, H) = stp (some 23) φ H (just (aBin E.T .sub 3 (fget φ 21) (fget φ 22))) := nrfl rfl
theorem s121_2_3 : stepA E C B 148 r121_2 o121_2_3 (φ, H) = some (fput φ 12 (fget φ 23), H) := nrfl rfl
noncomputable def c121_9 : Code := kR c121_7
noncomputable def c121_10 : Code := kL c121_9
noncomputable def c121_11 : Code := kL c121_10
noncomputable def r121_3 : Array Oper := kO c121_11
noncomputable def o121_3_0 : Oper := opN r121_3 0
noncomputable def o121_3_1 : Oper := opN r121_3 1
theorem x121_11 : execA E C (fg 121) B 148 E0 N c121_11 s = regX (runA E C B 148 r121_3 r121_3.toList s) (fun s => gcM E0 [24] (forget s.1 [24], s.2)) := x_reg (ops := r121_3) (by rfl) (by rfl) s
theorem r121_3_l : r121_3.toList = [o121_3_0, o121_3_1] := nrfl rfl
theorem s121_3_0 : stepA E C B 148 r121_3 o121_3_0 (φ, H) = some (fput φ 24 (fget φ 12), H) := nrfl rfl
theorem s121_3_1 : stepA E C B 148 r121_3 o121_3_1 (φ, H) = stp (some 25) φ H (just (aBin E.T .leq 3 (fget φ 24) (.int .i64 12))) := nrfl rfl
noncomputable def c121_12 : Code := kR c121_10
noncomputable def c121_13 : Code := kT c121_12
noncomputable def c121_14 : Code := kL c121_13
noncomputable def r121_4 : Array Oper := kO c121_14
noncomputable def o121_4_0 : Oper := opN r121_4 0
noncomputable def o121_4_1 : Oper := opN r121_4 1
noncomputable def o121_4_2 : Oper := opN r121_4 2
noncomputable def o121_4_3 : Oper := opN r121_4 3
noncomputable def o121_4_4 : Oper := opN r121_4 4
theorem x121_14 : execA E C (fg 121) B 148 E0 N c121_14 s = regX (runA E C B 148 r121_4 r121_4.toList s) (fun s => gcM E0 [0, 1, 2, 3, 4, 10, 11, 12, 25, 26, 27, 28, 29, 30] (forget s.1 [0, 1, 2, 3, 4, 10, 11, 12, 25, 26, 27, 28, 29, 30], s.2)) := x_reg (ops := r121_4) (by rfl) (by rfl) s
theorem r121_4_l : r121_4.toList = [o121_4_0, o121_4_1, o121_4_2, o121_4_3, o121_4_4] := nrfl rfl
theorem s121_4_0 : stepA E C B 148 r121_4 o121_4_0 (φ, H) = some (fput φ 26 (fget φ 0), H) := nrfl rfl
theorem s121_4_1 : stepA E C B 148 r121_4 o121_4_1 (φ, H) = some (fput φ 27 (fget φ 1), H) := nrfl rfl
theorem s121_4_2 : stepA E C B 148 r121_4 o121_4_2 (φ, H) = some (fput φ 28 (fget φ 2), H) := nrfl rfl
theorem s121_4_3 : stepA E C B 148 r121_4 o121_4_3 (φ, H) = some (fput φ 29 (fget φ 4), H) := nrfl rfl
theorem s121_4_4 : stepA E C B 148 r121_4 o121_4_4 (φ, H) = mutX (some 30) φ (C 133 [(fget φ 26), (fget φ 27), (fget φ 28), (fget φ 29)] H (B + 148 * 8)) := nrfl rfl
noncomputable def c121_15 : Code := kR c121_13
theorem x121_15 : execA E C (fg 121) B 148 E0 N c121_15 s = some (.ret, s) := x_ret (by rfl) s
theorem x121_13 : execA E C (fg 121) B 148 E0 N c121_13 s = seqX (execA E C (fg 121) B 148 E0 N c121_14 s) (execA E C (fg 121) B 148 E0 N c121_15) := x_seq (by rfl) s
noncomputable def c121_16 : Code := kE c121_12
theorem x121_16 : execA E C (fg 121) B 148 E0 N c121_16 s = some (.normal, s) := x_skip (by rfl) s
theorem x121_12 : execA E C (fg 121) B 148 E0 N c121_12 (φ, H) = condX (fget φ 25) (execA E C (fg 121) B 148 E0 N c121_13 (φ, H)) (execA E C (fg 121) B 148 E0 N c121_16 (φ, H)) := x_cond (by rfl) _
theorem x121_10 : execA E C (fg 121) B 148 E0 N c121_10 s = seqX (execA E C (fg 121) B 148 E0 N c121_11 s) (execA E C (fg 121) B 148 E0 N c121_12) := x_seq (by rfl) s
noncomputable def c121_17 : Code := kR c121_9
noncomputable def c121_18 : Code := kL c121_17
noncomputable def c121_19 : Code := kL c121_18
noncomputable def r121_5 : Array Oper := kO c121_19
noncomputable def o121_5_0 : Oper := opN r121_5 0
noncomputable def o121_5_1 : Oper := opN r121_5 1
theorem x121_19 : execA E C (fg 121) B 148 E0 N c121_19 s = regX (runA E C B 148 r121_5 r121_5.toList s) (fun s => gcM E0 [25, 31] (forget s.1 [25, 31], s.2)) := x_reg (ops := r121_5) (by rfl) (by rfl) s
theorem r121_5_l : r121_5.toList = [o121_5_0, o121_5_1] := nrfl rfl
theorem s121_5_0 : stepA E C B 148 r121_5 o121_5_0 (φ, H) = some (fput φ 31 (fget φ 3), H) := nrfl rfl
theorem s121_5_1 : stepA E C B 148 r121_5 o121_5_1 (φ, H) = stp (some 32) φ H (just (aBin E.T .eql 3 (fget φ 31) (.int .i64 0))) := nrfl rfl
noncomputable def c121_20 : Code := kR c121_18
noncomputable def c121_21 : Code := kT c121_20
noncomputable def c121_22 : Code := kL c121_21
noncomputable def r121_6 : Array Oper := kO c121_22
noncomputable def o121_6_0 : Oper := opN r121_6 0
noncomputable def o121_6_1 : Oper := opN r121_6 1
noncomputable def o121_6_2 : Oper := opN r121_6 2
noncomputable def o121_6_3 : Oper := opN r121_6 3
noncomputable def o121_6_4 : Oper := opN r121_6 4
theorem x121_22 : execA E C (fg 121) B 148 E0 N c121_22 s = regX (runA E C B 148 r121_6 r121_6.toList s) (fun s => gcM E0 [0, 1, 2, 3, 4, 10, 11, 12, 32, 33, 34, 35, 36, 37] (forget s.1 [0, 1, 2, 3, 4, 10, 11, 12, 32, 33, 34, 35, 36, 37], s.2)) := x_reg (ops := r121_6) (by rfl) (by rfl) s
theorem r121_6_l : r121_6.toList = [o121_6_0, o121_6_1, o121_6_2, o121_6_3, o121_6_4] := nrfl rfl
theorem s121_6_0 : stepA E C B 148 r121_6 o121_6_0 (φ, H) = some (fput φ 33 (fget φ 0), H) := nrfl rfl
theorem s121_6_1 : stepA E C B 148 r121_6 o121_6_1 (φ, H) = some (fput φ 34 (fget φ 1), H) := nrfl rfl
theorem s121_6_2 : stepA E C B 148 r121_6 o121_6_2 (φ, H) = some (fput φ 35 (fget φ 2), H) := nrfl rfl
theorem s121_6_3 : stepA E C B 148 r121_6 o121_6_3 (φ, H) = some (fput φ 36 (fget φ 4), H) := nrfl rfl
theorem s121_6_4 : stepA E C B 148 r121_6 o121_6_4 (φ, H) = mutX (some 37) φ (C 134 [(fget φ 33), (fget φ 34), (fget φ 35), (fget φ 36)] H (B + 148 * 8)) := nrfl rfl
noncomputable def c121_23 : Code := kR c121_21
theorem x121_23 : execA E C (fg 121) B 148 E0 N c121_23 s = some (.ret, s) := x_ret (by rfl) s
theorem x121_21 : execA E C (fg 121) B 148 E0 N c121_21 s = seqX (execA E C (fg 121) B 148 E0 N c121_22 s) (execA E C (fg 121) B 148 E0 N c121_23) := x_seq (by rfl) s
noncomputable def c121_24 : Code := kE c121_20
theorem x121_24 : execA E C (fg 121) B 148 E0 N c121_24 s = some (.normal, s) := x_skip (by rfl) s
theorem x121_20 : execA E C (fg 121) B 148 E0 N c121_20 (φ, H) = condX (fget φ 32) (execA E C (fg 121) B 148 E0 N c121_21 (φ, H)) (execA E C (fg 121) B 148 E0 N c121_24 (φ, H)) := x_cond (by rfl) _
theorem x121_18 : execA E C (fg 121) B 148 E0 N c121_18 s = seqX (execA E C (fg 121) B 148 E0 N c121_19 s) (execA E C (fg 121) B 148 E0 N c121_20) := x_seq (by rfl) s
noncomputable def c121_25 : Code := kR c121_17
noncomputable def c121_26 : Code := kL c121_25
noncomputable def c121_27 : Code := kL c121_26
noncomputable def r121_7 : Array Oper := kO c121_27
noncomputable def o121_7_0 : Oper := opN r121_7 0
noncomputable def o121_7_1 : Oper := opN r121_7 1
theorem x121_27 : execA E C (fg 121) B 148 E0 N c121_27 s = regX (runA E C B 148 r121_7 r121_7.toList s) (fun s => gcM E0 [32, 38] (forget s.1 [32, 38], s.2)) := x_reg (ops := r121_7) (by rfl) (by rfl) s
theorem r121_7_l : r121_7.toList = [o121_7_0, o121_7_1] := nrfl rfl
theorem s121_7_0 : stepA E C B 148 r121_7 o121_7_0 (φ, H) = some (fput φ 38 (fget φ 10), H) := nrfl rfl
theorem s121_7_1 : stepA E C B 148 r121_7 o121_7_1 (φ, H) = stp (some 39) φ H (justO (aUn .not (fget φ 38))) := nrfl rfl
noncomputable def c121_28 : Code := kR c121_26
noncomputable def c121_29 : Code := kT c121_28
noncomputable def c121_30 : Code := kL c121_29
noncomputable def r121_8 : Array Oper := kO c121_30
noncomputable def o121_8_0 : Oper := opN r121_8 0
noncomputable def o121_8_1 : Oper := opN r121_8 1
noncomputable def o121_8_2 : Oper := opN r121_8 2
noncomputable def o121_8_3 : Oper := opN r121_8 3
noncomputable def o121_8_4 : Oper := opN r121_8 4
theorem x121_30 : execA E C (fg 121) B 148 E0 N c121_30 s = regX (runA E C B 148 r121_8 r121_8.toList s) (fun s => gcM E0 [39, 40, 41, 42, 43, 44] (forget s.1 [39, 40, 41, 42, 43, 44], s.2)) := x_reg (ops := r121_8) (by rfl) (by rfl) s
theorem r121_8_l : r121_8.toList = [o121_8_0, o121_8_1, o121_8_2, o121_8_3, o121_8_4] := nrfl rfl
theorem s121_8_0 : stepA E C B 148 r121_8 o121_8_0 (φ, H) = some (fput φ 40 (fget φ 0), H) := nrfl rfl
theorem s121_8_1 : stepA E C B 148 r121_8 o121_8_1 (φ, H) = some (fput φ 41 (fget φ 1), H) := nrfl rfl
theorem s121_8_2 : stepA E C B 148 r121_8 o121_8_2 (φ, H) = some (fput φ 42 (fget φ 2), H) := nrfl rfl
theorem s121_8_3 : stepA E C B 148 r121_8 o121_8_3 (φ, H) = some (fput φ 43 (fget φ 4), H) := nrfl rfl
theorem s121_8_4 : stepA E C B 148 r121_8 o121_8_4 (φ, H) = mutX (some 44) φ (C 135 [(fget φ 40), (fget φ 41), (fget φ 42), (fget φ 43)] H (B + 148 * 8)) := nrfl rfl
noncomputable def c121_31 : Code := kR c121_29
noncomputable def r121_9 : Array Oper := kO c121_31
noncomputable def o121_9_0 : Oper := opN r121_9 0
noncomputable def o121_9_1 : Oper := opN r121_9 1
noncomputable def o121_9_2 : Oper := opN r121_9 2
theorem x121_31 : execA E C (fg 121) B 148 E0 N c121_31 s = regX (runA E C B 148 r121_9 r121_9.toList s) (fun s => gcM E0 [45, 46] (forget s.1 [45, 46], s.2)) := x_reg (ops := r121_9) (by rfl) (by rfl) s
theorem r121_9_l : r121_9.toList = [o121_9_0, o121_9_1, o121_9_2] := nrfl rfl
theorem s121_9_0 : stepA E C B 148 r121_9 o121_9_0 (φ, H) = some (fput φ 45 (fget φ 3), H) := nrfl rfl
theorem s121_9_1 : stepA E C B 148 r121_9 o121_9_1 (φ, H) = stp (some 46) φ H (just (aBin E.T .sub 3 (fget φ 45) (.int .i64 1))) := nrfl rfl
theorem s121_9_2 : stepA E C B 148 r121_9 o121_9_2 (φ, H) = some (fput φ 3 (fget φ 46), H) := nrfl rfl
theorem x121_29 : execA E C (fg 121) B 148 E0 N c121_29 s = seqX (execA E C (fg 121) B 148 E0 N c121_30 s) (execA E C (fg 121) B 148 E0 N c121_31) := x_seq (by rfl) s
noncomputable def c121_32 : Code := kE c121_28
theorem x121_32 : execA E C (fg 121) B 148 E0 N c121_32 s = some (.normal, s) := x_skip (by rfl) s
theorem x121_28 : execA E C (fg 121) B 148 E0 N c121_28 (φ, H) = condX (fget φ 39) (execA E C (fg 121) B 148 E0 N c121_29 (φ, H)) (execA E C (fg 121) B 148 E0 N c121_32 (φ, H)) := x_cond (by rfl) _
theorem x121_26 : execA E C (fg 121) B 148 E0 N c121_26 s = seqX (execA E C (fg 121) B 148 E0 N c121_27 s) (execA E C (fg 121) B 148 E0 N c121_28) := x_seq (by rfl) s
noncomputable def c121_33 : Code := kR c121_25
noncomputable def c121_34 : Code := kL c121_33
noncomputable def r121_10 : Array Oper := kO c121_34
noncomputable def o121_10_0 : Oper := opN r121_10 0
noncomputable def o121_10_1 : Oper := opN r121_10 1
noncomputable def o121_10_2 : Oper := opN r121_10 2
noncomputable def o121_10_3 : Oper := opN r121_10 3
noncomputable def o121_10_4 : Oper := opN r121_10 4
noncomputable def o121_10_5 : Oper := opN r121_10 5
noncomputable def o121_10_6 : Oper := opN r121_10 6
noncomputable def o121_10_7 : Oper := opN r121_10 7
noncomputable def o121_10_8 : Oper := opN r121_10 8
noncomputable def o121_10_9 : Oper := opN r121_10 9
theorem x121_34 : execA E C (fg 121) B 148 E0 N c121_34 s = regX (runA E C B 148 r121_10 r121_10.toList s) (fun s => gcM E0 [39, 47, 48, 49, 50, 51, 52, 53, 54] (forget s.1 [39, 47, 48, 49, 50, 51, 52, 53, 54], s.2)) := x_reg (ops := r121_10) (by rfl) (by rfl) s
theorem r121_10_l : r121_10.toList = [o121_10_0, o121_10_1, o121_10_2, o121_10_3, o121_10_4, o121_10_5, o121_10_6, o121_10_7, o121_10_8, o121_10_9] := nrfl rfl
theorem s121_10_0 : stepA E C B 148 r121_10 o121_10_0 (φ, H) = some (fput φ 48 (fget φ 0), H) := nrfl rfl
theorem s121_10_1 : stepA E C B 148 r121_10 o121_10_1 (φ, H) = some (fput φ 49 (fget φ 1), H) := nrfl rfl
theorem s121_10_2 : stepA E C B 148 r121_10 o121_10_2 (φ, H) = some (fput φ 50 (fget φ 2), H) := nrfl rfl
theorem s121_10_3 : stepA E C B 148 r121_10 o121_10_3 (φ, H) = some (fput φ 51 (fget φ 4), H) := nrfl rfl
theorem s121_10_4 : stepA E C B 148 r121_10 o121_10_4 (φ, H) = mutX (some 52) φ (C 136 [(fget φ 48), (fget φ 49), (fget φ 50), (fget φ 51)] H (B + 148 * 8)) := nrfl rfl
theorem s121_10_5 : stepA E C B 148 r121_10 o121_10_5 (φ, H) = some (fput φ 47 (fget φ 52), H) := nrfl rfl
theorem s121_10_6 : stepA E C B 148 r121_10 o121_10_6 (φ, H) = stp (some 53) φ H (opExtract (fget φ 47) 0) := nrfl rfl
theorem s121_10_7 : stepA E C B 148 r121_10 o121_10_7 (φ, H) = stp (some 54) φ H (opExtract (fget φ 47) 1) := nrfl rfl
theorem s121_10_8 : stepA E C B 148 r121_10 o121_10_8 (φ, H) = some (fput φ 13 (fget φ 53), H) := nrfl rfl
theorem s121_10_9 : stepA E C B 148 r121_10 o121_10_9 (φ, H) = some (fput φ 14 (fget φ 54), H) := nrfl rfl
noncomputable def c121_35 : Code := kR c121_33
noncomputable def c121_36 : Code := kL c121_35
noncomputable def c121_37 : Code := kL c121_36
noncomputable def r121_11 : Array Oper := kO c121_37
noncomputable def o121_11_0 : Oper := opN r121_11 0
noncomputable def o121_11_1 : Oper := opN r121_11 1
theorem x121_37 : execA E C (fg 121) B 148 E0 N c121_37 s = regX (runA E C B 148 r121_11 r121_11.toList s) (fun s => gcM E0 [55] (forget s.1 [55], s.2)) := x_reg (ops := r121_11) (by rfl) (by rfl) s
theorem r121_11_l : r121_11.toList = [o121_11_0, o121_11_1] := nrfl rfl
theorem s121_11_0 : stepA E C B 148 r121_11 o121_11_0 (φ, H) = some (fput φ 55 (fget φ 14), H) := nrfl rfl
theorem s121_11_1 : stepA E C B 148 r121_11 o121_11_1 (φ, H) = stp (some 56) φ H (just (aBin E.T .eql 105 (fget φ 55) (.int .i64 2))) := nrfl rfl
noncomputable def c121_38 : Code := kR c121_36
noncomputable def c121_39 : Code := kT c121_38
noncomputable def c121_40 : Code := kL c121_39
noncomputable def r121_12 : Array Oper := kO c121_40
noncomputable def o121_12_0 : Oper := opN r121_12 0
noncomputable def o121_12_1 : Oper := opN r121_12 1
noncomputable def o121_12_2 : Oper := opN r121_12 2
noncomputable def o121_12_3 : Oper := opN r121_12 3
noncomputable def o121_12_4 : Oper := opN r121_12 4
theorem x121_40 : execA E C (fg 121) B 148 E0 N c121_40 s = regX (runA E C B 148 r121_12 r121_12.toList s) (fun s => gcM E0 [14, 56, 57, 58, 59, 60, 61] (forget s.1 [14, 56, 57, 58, 59, 60, 61], s.2)) := x_reg (ops := r121_12) (by rfl) (by rfl) s
theorem r121_12_l : r121_12.toList = [o121_12_0, o121_12_1, o121_12_2, o121_12_3, o121_12_4] := nrfl rfl
theorem s121_12_0 : stepA E C B 148 r121_12 o121_12_0 (φ, H) = some (fput φ 57 (fget φ 0), H) := nrfl rfl
theorem s121_12_1 : stepA E C B 148 r121_12 o121_12_1 (φ, H) = some (fput φ 58 (fget φ 1), H) := nrfl rfl
theorem s121_12_2 : stepA E C B 148 r121_12 o121_12_2 (φ, H) = some (fput φ 59 (fget φ 2), H) := nrfl rfl
theorem s121_12_3 : stepA E C B 148 r121_12 o121_12_3 (φ, H) = some (fput φ 60 (fget φ 4), H) := nrfl rfl
theorem s121_12_4 : stepA E C B 148 r121_12 o121_12_4 (φ, H) = mutX (some 61) φ (C 137 [(fget φ 57), (fget φ 58), (fget φ 59), (fget φ 60)] H (B + 148 * 8)) := nrfl rfl
noncomputable def c121_41 : Code := kR c121_39
noncomputable def c121_42 : Code := kL c121_41
noncomputable def r121_13 : Array Oper := kO c121_42
noncomputable def o121_13_0 : Oper := opN r121_13 0
noncomputable def o121_13_1 : Oper := opN r121_13 1
noncomputable def o121_13_2 : Oper := opN r121_13 2
noncomputable def o121_13_3 : Oper := opN r121_13 3
noncomputable def o121_13_4 : Oper := opN r121_13 4
noncomputable def o121_13_5 : Oper := opN r121_13 5
noncomputable def o121_13_6 : Oper := opN r121_13 6
theorem x121_42 : execA E C (fg 121) B 148 E0 N c121_42 s = regX (runA E C B 148 r121_13 r121_13.toList s) (fun s => gcM E0 [62, 63, 64, 65, 66, 67] (forget s.1 [62, 63, 64, 65, 66, 67], s.2)) := x_reg (ops := r121_13) (by rfl) (by rfl) s
theorem r121_13_l : r121_13.toList = [o121_13_0, o121_13_1, o121_13_2, o121_13_3, o121_13_4, o121_13_5, o121_13_6] := nrfl rfl
theorem s121_13_0 : stepA E C B 148 r121_13 o121_13_0 (φ, H) = some (fput φ 62 (fget φ 2), H) := nrfl rfl
theorem s121_13_1 : stepA E C B 148 r121_13 o121_13_1 (φ, H) = stp (some 63) φ H (just (aBin E.T .sub 3 (fget φ 62) (.int .i64 1))) := nrfl rfl
theorem s121_13_2 : stepA E C B 148 r121_13 o121_13_2 (φ, H) = some (fput φ 64 (fget φ 13), H) := nrfl rfl
theorem s121_13_3 : stepA E C B 148 r121_13 o121_13_3 (φ, H) = some (fput φ 65 (fget φ 1), H) := nrfl rfl
theorem s121_13_4 : stepA E C B 148 r121_13 o121_13_4 (φ, H) = stp (some 66) φ H (just (aBin E.T .sub 3 (fget φ 64) (fget φ 65))) := nrfl rfl
theorem s121_13_5 : stepA E C B 148 r121_13 o121_13_5 (φ, H) = stp (some 67) φ H (just (aBin E.T .sub 3 (fget φ 63) (fget φ 66))) := nrfl rfl
theorem s121_13_6 : stepA E C B 148 r121_13 o121_13_6 (φ, H) = some (fput φ 13 (fget φ 67), H) := nrfl rfl
noncomputable def c121_43 : Code := kR c121_41
noncomputable def r121_14 : Array Oper := kO c121_43
noncomputable def o121_14_0 : Oper := opN r121_14 0
theorem x121_43 : execA E C (fg 121) B 148 E0 N c121_43 s = regX (runA E C B 148 r121_14 r121_14.toList s) (fun s => gcM E0 [] (forget s.1 [], s.2)) := x_reg (ops := r121_14) (by rfl) (by rfl) s
theorem r121_14_l : r121_14.toList = [o121_14_0] := nrfl rfl
theorem s121_14_0 : stepA E C B 148 r121_14 o121_14_0 (φ, H) = some (fput φ 14 (.int .i64 1), H) := nrfl rfl
theorem x121_41 : execA E C (fg 121) B 148 E0 N c121_41 s = seqX (execA E C (fg 121) B 148 E0 N c121_42 s) (execA E C (fg 121) B 148 E0 N c121_43) := x_seq (by rfl) s
theorem x121_39 : execA E C (fg 121) B 148 E0 N c121_39 s = seqX (execA E C (fg 121) B 148 E0 N c121_40 s) (execA E C (fg 121) B 148 E0 N c121_41) := x_seq (by rfl) s
noncomputable def c121_44 : Code := kE c121_38
theorem x121_44 : execA E C (fg 121) B 148 E0 N c121_44 s = some (.normal, s) := x_skip (by rfl) s
theorem x121_38 : execA E C (fg 121) B 148 E0 N c121_38 (φ, H) = condX (fget φ 56) (execA E C (fg 121) B 148 E0 N c121_39 (φ, H)) (execA E C (fg 121) B 148 E0 N c121_44 (φ, H)) := x_cond (by rfl) _
theorem x121_36 : execA E C (fg 121) B 148 E0 N c121_36 s = seqX (execA E C (fg 121) B 148 E0 N c121_37 s) (execA E C (fg 121) B 148 E0 N c121_38) := x_seq (by rfl) s
noncomputable def c121_45 : Code := kR c121_35
noncomputable def c121_46 : Code := kL c121_45
noncomputable def c121_47 : Code := kL c121_46
noncomputable def r121_15 : Array Oper := kO c121_47
noncomputable def o121_15_0 : Oper := opN r121_15 0
noncomputable def o121_15_1 : Oper := opN r121_15 1
noncomputable def o121_15_2 : Oper := opN r121_15 2
noncomputable def o121_15_3 : Oper := opN r121_15 3
noncomputable def o121_15_4 : Oper := opN r121_15 4
noncomputable def o121_15_5 : Oper := opN r121_15 5
noncomputable def o121_15_6 : Oper := opN r121_15 6
noncomputable def o121_15_7 : Oper := opN r121_15 7
theorem x121_47 : execA E C (fg 121) B 148 E0 N c121_47 s = regX (runA E C B 148 r121_15 r121_15.toList s) (fun s => gcM E0 [14, 56, 68, 69, 70, 71, 72, 73, 74] (forget s.1 [14, 56, 68, 69, 70, 71, 72, 73, 74], s.2)) := x_reg (ops := r121_15) (by rfl) (by rfl) s
theorem r121_15_l : r121_15.toList = [o121_15_0, o121_15_1, o121_15_2, o121_15_3, o121_15_4, o121_15_5, o121_15_6, o121_15_7] := nrfl rfl
theorem s121_15_0 : stepA E C B 148 r121_15 o121_15_0 (φ, H) = some (fput φ 68 (fget φ 10), H) := nrfl rfl
theorem s121_15_1 : stepA E C B 148 r121_15 o121_15_1 (φ, H) = some (fput φ 69 (fget φ 68), H) := nrfl rfl
theorem s121_15_2 : stepA E C B 148 r121_15 o121_15_2 (φ, H) = gd φ 69 true (fun φ => some (fput φ 70 (.tup []), H)) (fun φ => some (fput φ 70 (fget φ 11), H)) := s_gd (j := 1) (oj := o121_15_1) rfl rfl rfl (fun _ => rfl) (fun _ => rfl)
theorem s121_15_3 : stepA E C B 148 r121_15 o121_15_3 (φ, H) = stp (some 71) φ H (opPick (fget φ 69) (fget φ 70) (.bool false)) := nrfl rfl
theorem s121_15_4 : stepA E C B 148 r121_15 o121_15_4 (φ, H) = some (fput φ 72 (fget φ 71), H) := nrfl rfl
theorem s121_15_5 : stepA E C B 148 r121_15 o121_15_5 (φ, H) = gd φ 72 true (fun φ => some (fput φ 73 (.tup []), H)) (fun φ => some (fput φ 73 (fget φ 14), H)) := s_gd (j := 4) (oj := o121_15_4) rfl rfl rfl (fun _ => rfl) (fun _ => rfl)
theorem s121_15_6 : stepA E C B 148 r121_15 o121_15_6 (φ, H) = gd φ 72 true (fun φ => some (fput φ 74 (.tup []), H)) (fun φ => stp (some 74) φ H (just (aBin E.T .eql 105 (fget φ 73) (.int .i64 1)))) := s_gd (j := 4) (oj := o121_15_4) rfl rfl rfl (fun _ => rfl) (fun _ => rfl)
theorem s121_15_7 : stepA E C B 148 r121_15 o121_15_7 (φ, H) = stp (some 75) φ H (opPick (fget φ 72) (fget φ 74) (.bool false)) := nrfl rfl
noncomputable def c121_48 : Code := kR c121_46
noncomputable def c121_49 : Code := kT c121_48
noncomputable def c121_50 : Code := kL c121_49
noncomputable def r121_16 : Array Oper := kO c121_50
noncomputable def o121_16_0 : Oper := opN r121_16 0
noncomputable def o121_16_1 : Oper := opN r121_16 1
noncomputable def o121_16_2 : Oper := opN r121_16 2
noncomputable def o121_16_3 : Oper := opN r121_16 3
noncomputable def o121_16_4 : Oper := opN r121_16 4
theorem x121_50 : execA E C (fg 121) B 148 E0 N c121_50 s = regX (runA E C B 148 r121_16 r121_16.toList s) (fun s => gcM E0 [75, 76, 77, 78, 79] (forget s.1 [75, 76, 77, 78, 79], s.2)) := x_reg (ops := r121_16) (by rfl) (by rfl) s
theorem r121_16_l : r121_16.toList = [o121_16_0, o121_16_1, o121_16_2, o121_16_3, o121_16_4] := nrfl rfl
theorem s121_16_0 : stepA E C B 148 r121_16 o121_16_0 (φ, H) = some (fput φ 76 (fget φ 0), H) := nrfl rfl
theorem s121_16_1 : stepA E C B 148 r121_16 o121_16_1 (φ, H) = some (fput φ 77 (fget φ 1), H) := nrfl rfl
theorem s121_16_2 : stepA E C B 148 r121_16 o121_16_2 (φ, H) = some (fput φ 78 (fget φ 2), H) := nrfl rfl
theorem s121_16_3 : stepA E C B 148 r121_16 o121_16_3 (φ, H) = some (fput φ 79 (fget φ 4), H) := nrfl rfl
theorem s121_16_4 : stepA E C B 148 r121_16 o121_16_4 (φ, H) = mutX (some 80) φ (C 138 [(fget φ 76), (fget φ 77), (fget φ 78), (fget φ 79)] H (B + 148 * 8)) := nrfl rfl
noncomputable def c121_51 : Code := kR c121_49
noncomputable def c121_52 : Code := kT c121_51
theorem x121_52 : execA E C (fg 121) B 148 E0 N c121_52 s = some (.ret, s) := x_ret (by rfl) s
noncomputable def c121_53 : Code := kE c121_51
theorem x121_53 : execA E C (fg 121) B 148 E0 N c121_53 s = some (.normal, s) := x_skip (by rfl) s
theorem x121_51 : execA E C (fg 121) B 148 E0 N c121_51 (φ, H) = condX (fget φ 80) (execA E C (fg 121) B 148 E0 N c121_52 (φ, H)) (execA E C (fg 121) B 148 E0 N c121_53 (φ, H)) := x_cond (by rfl) _
theorem x121_49 : execA E C (fg 121) B 148 E0 N c121_49 s = seqX (execA E C (fg 121) B 148 E0 N c121_50 s) (execA E C (fg 121) B 148 E0 N c121_51) := x_seq (by rfl) s
noncomputable def c121_54 : Code := kE c121_48
theorem x121_54 : execA E C (fg 121) B 148 E0 N c121_54 s = some (.normal, s) := x_skip (by rfl) s
theorem x121_48 : execA E C (fg 121) B 148 E0 N c121_48 (φ, H) = condX (fget φ 75) (execA E C (fg 121) B 148 E0 N c121_49 (φ, H)) (execA E C (fg 121) B 148 E0 N c121_54 (φ, H)) := x_cond (by rfl) _
theorem x121_46 : execA E C (fg 121) B 148 E0 N c121_46 s = seqX (execA E C (fg 121) B 148 E0 N c121_47 s) (execA E C (fg 121) B 148 E0 N c121_48) := x_seq (by rfl) s
noncomputable def c121_55 : Code := kR c121_45
noncomputable def c121_56 : Code := kL c121_55
noncomputable def c121_57 : Code := kL c121_56
noncomputable def r121_17 : Array Oper := kO c121_57
noncomputable def o121_17_0 : Oper := opN r121_17 0
noncomputable def o121_17_1 : Oper := opN r121_17 1
noncomputable def o121_17_2 : Oper := opN r121_17 2
noncomputable def o121_17_3 : Oper := opN r121_17 3
noncomputable def o121_17_4 : Oper := opN r121_17 4
noncomputable def o121_17_5 : Oper := opN r121_17 5
noncomputable def o121_17_6 : Oper := opN r121_17 6
noncomputable def o121_17_7 : Oper := opN r121_17 7
noncomputable def o121_17_8 : Oper := opN r121_17 8
noncomputable def o121_17_9 : Oper := opN r121_17 9
noncomputable def o121_17_10 : Oper := opN r121_17 10
noncomputable def o121_17_11 : Oper := opN r121_17 11
noncomputable def o121_17_12 : Oper := opN r121_17 12
noncomputable def o121_17_13 : Oper := opN r121_17 13
noncomputable def o121_17_14 : Oper := opN r121_17 14
noncomputable def o121_17_15 : Oper := opN r121_17 15
noncomputable def o121_17_16 : Oper := opN r121_17 16
theorem x121_57 : execA E C (fg 121) B 148 E0 N c121_57 s = regX (drawA E C B 148 r121_17 s) (fun s => gcM E0 [75, 80, 81, 82, 83, 84, 85, 86, 87, 88, 89, 90, 91, 92, 93, 94, 95, 96] (forget s.1 [75, 80, 81, 82, 83, 84, 85, 86, 87, 88, 89, 90, 91, 92, 93, 94, 95, 96], s.2)) := x_draw (ops := r121_17) (by rfl) (by rfl) s
theorem r121_17_l : r121_17.toList = [o121_17_0, o121_17_1, o121_17_2, o121_17_3, o121_17_4, o121_17_5, o121_17_6, o121_17_7, o121_17_8, o121_17_9, o121_17_10, o121_17_11, o121_17_12, o121_17_13, o121_17_14, o121_17_15, o121_17_16] := nrfl rfl
theorem r121_17_st : statOk r121_17 = true := by kernel_rfl
theorem r121_17_dr : drawA E C B 148 r121_17 s = if neat 148 s = true then drX r121_17 (runT E C B 148 r121_17 r121_17.toList 0 s) else none := draw_eq r121_17_st s
theorem r121_17_an (l : List (Nat × Tr)) : dynOk r121_17 l = (!writing l || dynPairs [[], [0], [0, 1], [0, 1, 2], [0, 1, 2], [0, 1, 2], [0, 1, 2, 5], [0, 1, 2, 4, 5, 6], [0, 1, 2, 4, 5, 6, 7], [0, 1, 2], [0, 1, 2], [0, 1, 2, 9, 10], [0, 1, 2, 9, 10, 11], [0, 1, 2, 3, 4, 5, 6, 7, 8, 9, 10, 11, 12], [0, 1, 2, 3, 4, 5, 6, 7, 8, 9, 10, 11, 12, 13], [0, 1, 2, 3, 4, 5, 6, 7, 8, 9, 10, 11, 12, 13, 14], [0, 1, 2, 3, 4, 5, 6, 7, 8, 9, 10, 11, 12, 13, 14, 15]] (touching l)) := dynOk_eq (by kernel_rfl) l
theorem s121_17_0 : stepT E C B 148 r121_17 o121_17_0 (φ, H) = some ((fput φ 81 (fget φ 1), H), ⟨false, [], []⟩) := stT_go rfl (goT_mv rfl rfl)
theorem s121_17_1 : stepT E C B 148 r121_17 o121_17_1 (φ, H) = stpT (some 82) φ H (just (aBin E.T .gtr 3 (fget φ 81) (.int .i64 0))) := stT_go rfl (goT_R rfl rfl)
theorem s121_17_2 : stepT E C B 148 r121_17 o121_17_2 (φ, H) = some ((fput φ 83 (fget φ 82), H), ⟨false, [], []⟩) := stT_go rfl (goT_mv rfl rfl)
theorem s121_17_3 : stepT E C B 148 r121_17 o121_17_3 (φ, H) = gdT φ 83 true (fun φ => (some (fput φ 84 (.tup []), H)).map fun s => (s, ⟨false, [], []⟩)) (fun φ => some ((fput φ 84 (fget φ 4), H), ⟨false, [], []⟩)) := stT_gd (j := 2) (oj := o121_17_2) rfl rfl rfl (fun _ => rfl) (fun _ => goT_mv rfl rfl)
theorem s121_17_4 : stepT E C B 148 r121_17 o121_17_4 (φ, H) = gdT φ 83 true (fun φ => (some (fput φ 85 (.tup []), H)).map fun s => (s, ⟨false, [], []⟩)) (fun φ => some ((fput φ 85 (fget φ 0), H), ⟨false, [], []⟩)) := stT_gd (j := 2) (oj := o121_17_2) rfl rfl rfl (fun _ => rfl) (fun _ => goT_mv rfl rfl)
theorem s121_17_5 : stepT E C B 148 r121_17 o121_17_5 (φ, H) = gdT φ 83 true (fun φ => (some (fput φ 86 (.tup []), H)).map fun s => (s, ⟨false, [], []⟩)) (fun φ => some ((fput φ 86 (fget φ 1), H), ⟨false, [], []⟩)) := stT_gd (j := 2) (oj := o121_17_2) rfl rfl rfl (fun _ => rfl) (fun _ => goT_mv rfl rfl)
theorem s121_17_6 : stepT E C B 148 r121_17 o121_17_6 (φ, H) = gdT φ 83 true (fun φ => (some (fput φ 87 (.tup []), H)).map fun s => (s, ⟨false, [], []⟩)) (fun φ => stpT (some 87) φ H (just (aBin E.T .sub 3 (fget φ 86) (.int .i64 1)))) := stT_gd (j := 2) (oj := o121_17_2) rfl rfl rfl (fun _ => rfl) (fun _ => goT_R rfl rfl)
theorem s121_17_7 : stepT E C B 148 r121_17 o121_17_7 (φ, H) = gdT φ 83 true (fun φ => (some (fput φ 88 (.tup []), H)).map fun s => (s, ⟨false, [], []⟩)) (fun φ => stpT (some 88) φ H (just (aIndexAddr E.T 22 (fget φ 85) (fget φ 87)))) := stT_gd (j := 2) (oj := o121_17_2) rfl rfl rfl (fun _ => rfl) (fun _ => goT_R rfl rfl)
theorem s121_17_8 : stepT E C B 148 r121_17 o121_17_8 (φ, H) = gdT φ 83 true (fun φ => (some (fput φ 89 (.tup []), H)).map fun s => (s, ⟨false, [], []⟩)) (fun φ => stpT (some 89) φ H (just (aLoad E.T 3 (fget φ 88)))) := stT_gd (j := 2) (oj := o121_17_2) rfl rfl rfl (fun _ => rfl) (fun _ => goT_R rfl rfl)
theorem s121_17_9 : stepT E C B 148 r121_17 o121_17_9 (φ, H) = gdT φ 83 true (fun φ => (some (fput φ 90 (.tup []), H)).map fun s => (s, ⟨false, [], []⟩)) (fun φ => some ((fput φ 90 (fget φ 0), H), ⟨false, [], []⟩)) := stT_gd (j := 2) (oj := o121_17_2) rfl rfl rfl (fun _ => rfl) (fun _ => goT_mv rfl rfl)
theorem s121_17_10 : stepT E C B 148 r121_17 o121_17_10 (φ, H) = gdT φ 83 true (fun φ => (some (fput φ 91 (.tup []), H)).map fun s => (s, ⟨false, [], []⟩)) (fun φ => some ((fput φ 91 (fget φ 13), H), ⟨false, [], []⟩)) := stT_gd (j := 2) (oj := o121_17_2) rfl rfl rfl (fun _ => rfl) (fun _ => goT_mv rfl rfl)
theorem s121_17_11 : stepT E C B 148 r121_17 o121_17_11 (φ, H) = gdT φ 83 true (fun φ => (some (fput φ 92 (.tup []), H)).map fun s => (s, ⟨false, [], []⟩)) (fun φ => stpT (some 92) φ H (just (aIndexAddr E.T 22 (fget φ 90) (fget φ 91)))) := stT_gd (j := 2) (oj := o121_17_2) rfl rfl rfl (fun _ => rfl) (fun _ => goT_R rfl rfl)
theorem s121_17_12 : stepT E C B 148 r121_17 o121_17_12 (φ, H) = gdT φ 83 true (fun φ => (some (fput φ 93 (.tup []), H)).map fun s => (s, ⟨false, [], []⟩)) (fun φ => stpT (some 93) φ H (just (aLoad E.T 3 (fget φ 92)))) := stT_gd (j := 2) (oj := o121_17_2) rfl rfl rfl (fun _ => rfl) (fun _ => goT_R rfl rfl)
theorem s121_17_13 : stepT E C B 148 r121_17 o121_17_13 (φ, H) = gdT φ 83 true (fun φ => (some (fput φ 94 (.tup []), H)).map fun s => (s, ⟨false, [], []⟩)) (fun φ => callVT E C (B + 148 * 8) (some 94) (fun j => B + j * 148 + 94) φ H (fget φ 84) [(fget φ 89), (fget φ 93)] true) := stT_gd (j := 2) (oj := o121_17_2) rfl rfl rfl (fun _ => rfl) (fun _ => goT_V rfl rfl)
theorem s121_17_14 : stepT E C B 148 r121_17 o121_17_14 (φ, H) = gdT φ 83 true (fun φ => (some (fput φ 95 (.tup []), H)).map fun s => (s, ⟨false, [], []⟩)) (fun φ => stpT (some 95) φ H (just (aBin E.T .lss 3 (fget φ 94) (.int .i64 0)))) := stT_gd (j := 2) (oj := o121_17_2) rfl rfl rfl (fun _ => rfl) (fun _ => goT_R rfl rfl)
theorem s121_17_15 : stepT E C B 148 r121_17 o121_17_15 (φ, H) = gdT φ 83 true (fun φ => (some (fput φ 96 (.tup []), H)).map fun s => (s, ⟨false, [], []⟩)) (fun φ => stpT (some 96) φ H (justO (aUn .not (fget φ 95)))) := stT_gd (j := 2) (oj := o121_17_2) rfl rfl rfl (fun _ => rfl) (fun _ => goT_R rfl rfl)
theorem s121_17_16 : stepT E C B 148 r121_17 o121_17_16 (φ, H) = stpT (some 97) φ H (opPick (fget φ 83) (fget φ 96) (.bool false)) := stT_go rfl (goT_R rfl rfl)
noncomputable def c121_58 : Code := kR c121_56
noncomputable def c121_59 : Code := kT c121_58
noncomputable def c121_60 : Code := kL c121_59
noncomputable def r121_18 : Array Oper := kO c121_60
noncomputable def o121_18_0 : Oper := opN r121_18 0
noncomputable def o121_18_1 : Oper := opN r121_18 1
noncomputable def o121_18_2 : Oper := opN r121_18 2
noncomputable def o121_18_3 : Oper := opN r121_18 3
noncomputable def o121_18_4 : Oper := opN r121_18 4
noncomputable def o121_18_5 : Oper := opN r121_18 5
noncomputable def o121_18_6 : Oper := opN r121_18 6
theorem x121_60 : execA E C (fg 121) B 148 E0 N c121_60 s = regX (runA E C B 148 r121_18 r121_18.toList s) (fun s => gcM E0 [1, 12, 13, 97, 98, 99, 100, 101, 102, 103] (forget s.1 [1, 12, 13, 97, 98, 99, 100, 101, 102, 103], s.2)) := x_reg (ops := r121_18) (by rfl) (by rfl) s
theorem r121_18_l : r121_18.toList = [o121_18_0, o121_18_1, o121_18_2, o121_18_3, o121_18_4, o121_18_5, o121_18_6] := nrfl rfl
theorem s121_18_0 : stepA E C B 148 r121_18 o121_18_0 (φ, H) = some (fput φ 98 (fget φ 0), H) := nrfl rfl
theorem s121_18_1 : stepA E C B 148 r121_18 o121_18_1 (φ, H) = some (fput φ 99 (fget φ 1), H) := nrfl rfl
theorem s121_18_2 : stepA E C B 148 r121_18 o121_18_2 (φ, H) = some (fput φ 100 (fget φ 2), H) := nrfl rfl
theorem s121_18_3 : stepA E C B 148 r121_18 o121_18_3 (φ, H) = some (fput φ 101 (fget φ 13), H) := nrfl rfl
theorem s121_18_4 : stepA E C B 148 r121_18 o121_18_4 (φ, H) = some (fput φ 102 (fget φ 4), H) := nrfl rfl
theorem s121_18_5 : stepA E C B 148 r121_18 o121_18_5 (φ, H) = mutX (some 103) φ (C 139 [(fget φ 98), (fget φ 99), (fget φ 100), (fget φ 101), (fget φ 102)] H (B + 148 * 8)) := nrfl rfl
theorem s121_18_6 : stepA E C B 148 r121_18 o121_18_6 (φ, H) = some (fput φ 15 (fget φ 103), H) := nrfl rfl
noncomputable def c121_61 : Code := kR c121_59
noncomputable def c121_62 : Code := kL c121_61
noncomputable def r121_19 : Array Oper := kO c121_62
noncomputable def o121_19_0 : Oper := opN r121_19 0
noncomputable def o121_19_1 : Oper := opN r121_19 1
theorem x121_62 : execA E C (fg 121) B 148 E0 N c121_62 s = regX (runA E C B 148 r121_19 r121_19.toList s) (fun s => gcM E0 [15, 104] (forget s.1 [15, 104], s.2)) := x_reg (ops := r121_19) (by rfl) (by rfl) s
theorem r121_19_l : r121_19.toList = [o121_19_0, o121_19_1] := nrfl rfl
theorem s121_19_0 : stepA E C B 148 r121_19 o121_19_0 (φ, H) = some (fput φ 104 (fget φ 15), H) := nrfl rfl
theorem s121_19_1 : stepA E C B 148 r121_19 o121_19_1 (φ, H) = some (fput φ 1 (fget φ 104), H) := nrfl rfl
noncomputable def c121_63 : Code := kR c121_61
theorem x121_63 : execA E C (fg 121) B 148 E0 N c121_63 s = some (.exit 1, s) := x_exit (by rfl) s
theorem x121_61 : execA E C (fg 121) B 148 E0 N c121_61 s = seqX (execA E C (fg 121) B 148 E0 N c121_62 s) (execA E C (fg 121) B 148 E0 N c121_63) := x_seq (by rfl) s
theorem x121_59 : execA E C (fg 121) B 148 E0 N c121_59 s = seqX (execA E C (fg 121) B 148 E0 N c121_60 s) (execA E C (fg 121) B 148 E0 N c121_61) := x_seq (by rfl) s
noncomputable def c121_64 : Code := kE c121_58
theorem x121_64 : execA E C (fg 121) B 148 E0 N c121_64 s = some (.normal, s) := x_skip (by rfl) s
theorem x121_58 : execA E C (fg 121) B 148 E0 N c121_58 (φ, H) = condX (fget φ 97) (execA E C (fg 121) B 148 E0 N c121_59 (φ, H)) (execA E C (fg 121) B 148 E0 N c121_64 (φ, H)) := x_cond (by rfl) _
theorem x121_56 : execA E C (fg 121) B 148 E0 N c121_56 s = seqX (execA E C (fg 121) B 148 E0 N c121_57 s) (execA E C (fg 121) B 148 E0 N c121_58) := x_seq (by rfl) s
noncomputable def c121_65 : Code := kR c121_55
noncomputable def c121_66 : Code := kL c121_65
noncomputable def r121_20 : Array Oper := kO c121_66
noncomputable def o121_20_0 : Oper := opN r121_20 0
noncomputable def o121_20_1 : Oper := opN r121_20 1
noncomputable def o121_20_2 : Oper := opN r121_20 2
noncomputable def o121_20_3 : Oper := opN r121_20 3
noncomputable def o121_20_4 : Oper := opN r121_20 4
noncomputable def o121_20_5 : Oper := opN r121_20 5
noncomputable def o121_20_6 : Oper := opN r121_20 6
noncomputable def o121_20_7 : Oper := opN r121_20 7
noncomputable def o121_20_8 : Oper := opN r121_20 8
noncomputable def o121_20_9 : Oper := opN r121_20 9
noncomputable def o121_20_10 : Oper := opN r121_20 10
theorem x121_66 : execA E C (fg 121) B 148 E0 N c121_66 s = regX (runA E C B 148 r121_20 r121_20.toList s) (fun s => gcM E0 [10, 11, 13, 97, 105, 106, 107, 108, 109, 110, 111, 112, 113] (forget s.1 [10, 11, 13, 97, 105, 106, 107, 108, 109, 110, 111, 112, 113], s.2)) := x_reg (ops := r121_20) (by rfl) (by rfl) s
theorem r121_20_l : r121_20.toList = [o121_20_0, o121_20_1, o121_20_2, o121_20_3, o121_20_4, o121_20_5, o121_20_6, o121_20_7, o121_20_8, o121_20_9, o121_20_10] := nrfl rfl
theorem s121_20_0 : stepA E C B 148 r121_20 o121_20_0 (φ, H) = some (fput φ 106 (fget φ 0), H) := nrfl rfl
theorem s121_20_1 : stepA E C B 148 r121_20 o121_20_1 (φ, H) = some (fput φ 107 (fget φ 1), H) := nrfl rfl
theorem s121_20_2 : stepA E C B 148 r121_20 o121_20_2 (φ, H) = some (fput φ 108 (fget φ 2), H) := nrfl rfl
theorem s121_20_3 : stepA E C B 148 r121_20 o121_20_3 (φ, H) = some (fput φ 109 (fget φ 13), H) := nrfl rfl
theorem s121_20_4 : stepA E C B 148 r121_20 o121_20_4 (φ, H) = some (fput φ 110 (fget φ 4), H) := nrfl rfl
theorem s121_20_5 : stepA E C B 148 r121_20 o121_20_5 (φ, H) = mutX (some 111) φ (C 140 [(fget φ 106), (fget φ 107), (fget φ 108), (fget φ 109), (fget φ 110)] H (B + 148 * 8)) := nrfl rfl
theorem s121_20_6 : stepA E C B 148 r121_20 o121_20_6 (φ, H) = some (fput φ 105 (fget φ 111), H) := nrfl rfl
theorem s121_20_7 : stepA E C B 148 r121_20 o121_20_7 (φ, H) = stp (some 112) φ H (opExtract (fget φ 105) 0) := nrfl rfl
theorem s121_20_8 : stepA E C B 148 r121_20 o121_20_8 (φ, H) = stp (some 113) φ H (opExtract (fget φ 105) 1) := nrfl rfl
theorem s121_20_9 : stepA E C B 148 r121_20 o121_20_9 (φ, H) = some (fput φ 16 (fget φ 112), H) := nrfl rfl
theorem s121_20_10 : stepA E C B 148 r121_20 o121_20_10 (φ, H) = some (fput φ 17 (fget φ 113), H) := nrfl rfl
noncomputable def c121_67 : Code := kR c121_65
noncomputable def c121_68 : Code := kL c121_67
noncomputable def r121_21 : Array Oper := kO c121_68
noncomputable def o121_21_0 : Oper := opN r121_21 0
noncomputable def o121_21_1 : Oper := opN r121_21 1
theorem x121_68 : execA E C (fg 121) B 148 E0 N c121_68 s = regX (runA E C B 148 r121_21 r121_21.toList s) (fun s => gcM E0 [17, 114] (forget s.1 [17, 114], s.2)) := x_reg (ops := r121_21) (by rfl) (by rfl) s
theorem r121_21_l : r121_21.toList = [o121_21_0, o121_21_1] := nrfl rfl
theorem s121_21_0 : stepA E C B 148 r121_21 o121_21_0 (φ, H) = some (fput φ 114 (fget φ 17), H) := nrfl rfl
theorem s121_21_1 : stepA E C B 148 r121_21 o121_21_1 (φ, H) = some (fput φ 11 (fget φ 114), H) := nrfl rfl
noncomputable def c121_69 : Code := kR c121_67
noncomputable def c121_70 : Code := kL c121_69
noncomputable def r121_22 : Array Oper := kO c121_70
noncomputable def o121_22_0 : Oper := opN r121_22 0
noncomputable def o121_22_1 : Oper := opN r121_22 1
noncomputable def o121_22_2 : Oper := opN r121_22 2
noncomputable def o121_22_3 : Oper := opN r121_22 3
noncomputable def o121_22_4 : Oper := opN r121_22 4
noncomputable def o121_22_5 : Oper := opN r121_22 5
noncomputable def o121_22_6 : Oper := opN r121_22 6
noncomputable def o121_22_7 : Oper := opN r121_22 7
theorem x121_70 : execA E C (fg 121) B 148 E0 N c121_70 s = regX (runA E C B 148 r121_22 r121_22.toList s) (fun s => gcM E0 [115, 116, 117, 118, 119, 120] (forget s.1 [115, 116, 117, 118, 119, 120], s.2)) := x_reg (ops := r121_22) (by rfl) (by rfl) s
theorem r121_22_l : r121_22.toList = [o121_22_0, o121_22_1, o121_22_2, o121_22_3, o121_22_4, o121_22_5, o121_22_6, o121_22_7] := nrfl rfl
theorem s121_22_0 : stepA E C B 148 r121_22 o121_22_0 (φ, H) = some (fput φ 115 (fget φ 16), H) := nrfl rfl
theorem s121_22_1 : stepA E C B 148 r121_22 o121_22_1 (φ, H) = some (fput φ 116 (fget φ 1), H) := nrfl rfl
theorem s121_22_2 : stepA E C B 148 r121_22 o121_22_2 (φ, H) = stp (some 117) φ H (just (aBin E.T .sub 3 (fget φ 115) (fget φ 116))) := nrfl rfl
theorem s121_22_3 : stepA E C B 148 r121_22 o121_22_3 (φ, H) = some (fput φ 118 (fget φ 2), H) := nrfl rfl
theorem s121_22_4 : stepA E C B 148 r121_22 o121_22_4 (φ, H) = some (fput φ 119 (fget φ 16), H) := nrfl rfl
theorem s121_22_5 : stepA E C B 148 r121_22 o121_22_5 (φ, H) = stp (some 120) φ H (just (aBin E.T .sub 3 (fget φ 118) (fget φ 119))) := nrfl rfl
theorem s121_22_6 : stepA E C B 148 r121_22 o121_22_6 (φ, H) = some (fput φ 18 (fget φ 117), H) := nrfl rfl
theorem s121_22_7 : stepA E C B 148 r121_22 o121_22_7 (φ, H) = some (fput φ 19 (fget φ 120), H) := nrfl rfl
noncomputable def c121_71 : Code := kR c121_69
noncomputable def c121_72 : Code := kL c121_71
noncomputable def r121_23 : Array Oper := kO c121_72
noncomputable def o121_23_0 : Oper := opN r121_23 0
noncomputable def o121_23_1 : Oper := opN r121_23 1
noncomputable def o121_23_2 : Oper := opN r121_23 2
theorem x121_72 : execA E C (fg 121) B 148 E0 N c121_72 s = regX (runA E C B 148 r121_23 r121_23.toList s) (fun s => gcM E0 [12, 121, 122] (forget s.1 [12, 121, 122], s.2)) := x_reg (ops := r121_23) (by rfl) (by rfl) s
theorem r121_23_l : r121_23.toList = [o121_23_0, o121_23_1, o121_23_2] := nrfl rfl
theorem s121_23_0 : stepA E C B 148 r121_23 o121_23_0 (φ, H) = some (fput φ 121 (fget φ 12), H) := nrfl rfl
theorem s121_23_1 : stepA E C B 148 r121_23 o121_23_1 (φ, H) = stp (some 122) φ H (just (aBin E.T .quo 3 (fget φ 121) (.int .i64 8))) := nrfl rfl
theorem s121_23_2 : stepA E C B 148 r121_23 o121_23_2 (φ, H) = some (fput φ 20 (fget φ 122), H) := nrfl rfl
noncomputable def c121_73 : Code := kR c121_71
noncomputable def c121_74 : Code := kL c121_73
noncomputable def r121_24 : Array Oper := kO c121_74
noncomputable def o121_24_0 : Oper := opN r121_24 0
noncomputable def o121_24_1 : Oper := opN r121_24 1
noncomputable def o121_24_2 : Oper := opN r121_24 2
theorem x121_74 : execA E C (fg 121) B 148 E0 N c121_74 s = regX (runA E C B 148 r121_24 r121_24.toList s) (fun s => gcM E0 [123, 124] (forget s.1 [123, 124], s.2)) := x_reg (ops := r121_24) (by rfl) (by rfl) s
theorem r121_24_l : r121_24.toList = [o121_24_0, o121_24_1, o121_24_2] := nrfl rfl
theorem s121_24_0 : stepA E C B 148 r121_24 o121_24_0 (φ, H) = some (fput φ 123 (fget φ 18), H) := nrfl rfl
theorem s121_24_1 : stepA E C B 148 r121_24 o121_24_1 (φ, H) = some (fput φ 124 (fget φ 19), H) := nrfl rfl
theorem s121_24_2 : stepA E C B 148 r121_24 o121_24_2 (φ, H) = stp (some 125) φ H (just (aBin E.T .lss 3 (fget φ 123) (fget φ 124))) := nrfl rfl
noncomputable def c121_75 : Code := kR c121_73
noncomputable def c121_76 : Code := kT c121_75
noncomputable def c121_77 : Code := kL c121_76
noncomputable def r121_25 : Array Oper := kO c121_77
noncomputable def o121_25_0 : Oper := opN r121_25 0
noncomputable def o121_25_1 : Oper := opN r121_25 1
noncomputable def o121_25_2 : Oper := opN r121_25 2
noncomputable def o121_25_3 : Oper := opN r121_25 3
theorem x121_77 : execA E C (fg 121) B 148 E0 N c121_77 s = regX (runA E C B 148 r121_25 r121_25.toList s) (fun s => gcM E0 [18, 19, 20, 125, 126, 127, 128] (forget s.1 [18, 19, 20, 125, 126, 127, 128], s.2)) := x_reg (ops := r121_25) (by rfl) (by rfl) s
theorem r121_25_l : r121_25.toList = [o121_25_0, o121_25_1, o121_25_2, o121_25_3] := nrfl rfl
theorem s121_25_0 : stepA E C B 148 r121_25 o121_25_0 (φ, H) = some (fput φ 126 (fget φ 18), H) := nrfl rfl
theorem s121_25_1 : stepA E C B 148 r121_25 o121_25_1 (φ, H) = some (fput φ 127 (fget φ 20), H) := nrfl rfl
theorem s121_25_2 : stepA E C B 148 r121_25 o121_25_2 (φ, H) = stp (some 128) φ H (just (aBin E.T .geq 3 (fget φ 126) (fget φ 127))) := nrfl rfl
theorem s121_25_3 : stepA E C B 148 r121_25 o121_25_3 (φ, H) = some (fput φ 10 (fget φ 128), H) := nrfl rfl
noncomputable def c121_78 : Code := kR c121_76
noncomputable def c121_79 : Code := kL c121_78
noncomputable def r121_26 : Array Oper := kO c121_79
noncomputable def o121_26_0 : Oper := opN r121_26 0
noncomputable def o121_26_1 : Oper := opN r121_26 1
noncomputable def o121_26_2 : Oper := opN r121_26 2
noncomputable def o121_26_3 : Oper := opN r121_26 3
noncomputable def o121_26_4 : Oper := opN r121_26 4
noncomputable def o121_26_5 : Oper := opN r121_26 5
theorem x121_79 : execA E C (fg 121) B 148 E0 N c121_79 s = regX (runA E C B 148 r121_26 r121_26.toList s) (fun s => gcM E0 [1, 129, 130, 131, 132, 133, 134] (forget s.1 [1, 129, 130, 131, 132, 133, 134], s.2)) := x_reg (ops := r121_26) (by rfl) (by rfl) s
theorem r121_26_l : r121_26.toList = [o121_26_0, o121_26_1, o121_26_2, o121_26_3, o121_26_4, o121_26_5] := nrfl rfl
theorem s121_26_0 : stepA E C B 148 r121_26 o121_26_0 (φ, H) = some (fput φ 129 (fget φ 0), H) := nrfl rfl
theorem s121_26_1 : stepA E C B 148 r121_26 o121_26_1 (φ, H) = some (fput φ 130 (fget φ 1), H) := nrfl rfl
theorem s121_26_2 : stepA E C B 148 r121_26 o121_26_2 (φ, H) = some (fput φ 131 (fget φ 16), H) := nrfl rfl
theorem s121_26_3 : stepA E C B 148 r121_26 o121_26_3 (φ, H) = some (fput φ 132 (fget φ 3), H) := nrfl rfl
theorem s121_26_4 : stepA E C B 148 r121_26 o121_26_4 (φ, H) = some (fput φ 133 (fget φ 4), H) := nrfl rfl
theorem s121_26_5 : stepA E C B 148 r121_26 o121_26_5 (φ, H) = mutX (some 134) φ (C 121 [(fget φ 129), (fget φ 130), (fget φ 131), (fget φ 132), (fget φ 133)] H (B + 148 * 8)) := nrfl rfl
noncomputable def c121_80 : Code := kR c121_78
noncomputable def r121_27 : Array Oper := kO c121_80
noncomputable def o121_27_0 : Oper := opN r121_27 0
noncomputable def o121_27_1 : Oper := opN r121_27 1
noncomputable def o121_27_2 : Oper := opN r121_27 2
theorem x121_80 : execA E C (fg 121) B 148 E0 N c121_80 s = regX (runA E C B 148 r121_27 r121_27.toList s) (fun s => gcM E0 [16, 135, 136] (forget s.1 [16, 135, 136], s.2)) := x_reg (ops := r121_27) (by rfl) (by rfl) s
theorem r121_27_l : r121_27.toList = [o121_27_0, o121_27_1, o121_27_2] := nrfl rfl
theorem s121_27_0 : stepA E C B 148 r121_27 o121_27_0 (φ, H) = some (fput φ 135 (fget φ 16), H) := nrfl rfl
theorem s121_27_1 : stepA E C B 148 r121_27 o121_27_1 (φ, H) = stp (some 136) φ H (just (aBin E.T .add 3 (fget φ 135) (.int .i64 1))) := nrfl rfl
theorem s121_27_2 : stepA E C B 148 r121_27 o121_27_2 (φ, H) = some (fput φ 1 (fget φ 136), H) := nrfl rfl
theorem x121_78 : execA E C (fg 121) B 148 E0 N c121_78 s = seqX (execA E C (fg 121) B 148 E0 N c121_79 s) (execA E C (fg 121) B 148 E0 N c121_80) := x_seq (by rfl) s
theorem x121_76 : execA E C (fg 121) B 148 E0 N c121_76 s = seqX (execA E C (fg 121) B 148 E0 N c121_77 s) (execA E C (fg 121) B 148 E0 N c121_78) := x_seq (by rfl) s
noncomputable def c121_81 : Code := kE c121_75
noncomputable def c121_82 : Code := kL c121_81
noncomputable def r121_28 : Array Oper := kO c121_82
noncomputable def o121_28_0 : Oper := opN r121_28 0
noncomputable def o121_28_1 : Oper := opN r121_28 1
noncomputable def o121_28_2 : Oper := opN r121_28 2
noncomputable def o121_28_3 : Oper := opN r121_28 3
theorem x121_82 : execA E C (fg 121) B 148 E0 N c121_82 s = regX (runA E C B 148 r121_28 r121_28.toList s) (fun s => gcM E0 [18, 19, 20, 125, 137, 138, 139] (forget s.1 [18, 19, 20, 125, 137, 138, 139], s.2)) := x_reg (ops := r121_28) (by rfl) (by rfl) s
theorem r121_28_l : r121_28.toList = [o121_28_0, o121_28_1, o121_28_2, o121_28_3] := nrfl rfl
theorem s121_28_0 : stepA E C B 148 r121_28 o121_28_0 (φ, H) = some (fput φ 137 (fget φ 19), H) := nrfl rfl
theorem s121_28_1 : stepA E C B 148 r121_28 o121_28_1 (φ, H) = some (fput φ 138 (fget φ 20), H) := nrfl rfl
theorem s121_28_2 : stepA E C B 148 r121_28 o121_28_2 (φ, H) = stp (some 139) φ H (just (aBin E.T .geq 3 (fget φ 137) (fget φ 138))) := nrfl rfl
theorem s121_28_3 : stepA E C B 148 r121_28 o121_28_3 (φ, H) = some (fput φ 10 (fget φ 139), H) := nrfl rfl
noncomputable def c121_83 : Code := kR c121_81
noncomputable def c121_84 : Code := kL c121_83
noncomputable def r121_29 : Array Oper := kO c121_84
noncomputable def o121_29_0 : Oper := opN r121_29 0
noncomputable def o121_29_1 : Oper := opN r121_29 1
noncomputable def o121_29_2 : Oper := opN r121_29 2
noncomputable def o121_29_3 : Oper := opN r121_29 3
noncomputable def o121_29_4 : Oper := opN r121_29 4
noncomputable def o121_29_5 : Oper := opN r121_29 5
noncomputable def o121_29_6 : Oper := opN r121_29 6
theorem x121_84 : execA E C (fg 121) B 148 E0 N c121_84 s = regX (runA E C B 148 r121_29 r121_29.toList s) (fun s => gcM E0 [2, 140, 141, 142, 143, 144, 145, 146] (forget s.1 [2, 140, 141, 142, 143, 144, 145, 146], s.2)) := x_reg (ops := r121_29) (by rfl) (by rfl) s
theorem r121_29_l : r121_29.toList = [o121_29_0, o121_29_1, o121_29_2, o121_29_3, o121_29_4, o121_29_5, o121_29_6] := nrfl rfl
theorem s121_29_0 : stepA E C B 148 r121_29 o121_29_0 (φ, H) = some (fput φ 140 (fget φ 0), H) := nrfl rfl
theorem s121_29_1 : stepA E C B 148 r121_29 o121_29_1 (φ, H) = some (fput φ 141 (fget φ 16), H) := nrfl rfl
theorem s121_29_2 : stepA E C B 148 r121_29 o121_29_2 (φ, H) = stp (some 142) φ H (just (aBin E.T .add 3 (fget φ 141) (.int .i64 1))) := nrfl rfl
theorem s121_29_3 : stepA E C B 148 r121_29 o121_29_3 (φ, H) = some (fput φ 143 (fget φ 2), H) := nrfl rfl
theorem s121_29_4 : stepA E C B 148 r121_29 o121_29_4 (φ, H) = some (fput φ 144 (fget φ 3), H) := nrfl rfl
theorem s121_29_5 : stepA E C B 148 r121_29 o121_29_5 (φ, H) = some (fput φ 145 (fget φ 4), H) := nrfl rfl
theorem s121_29_6 : stepA E C B 148 r121_29 o121_29_6 (φ, H) = mutX (some 146) φ (C 121 [(fget φ 140), (fget φ 142), (fget φ 143), (fget φ 144), (fget φ 145)] H (B + 148 * 8)) := nrfl rfl
noncomputable def c121_85 : Code := kR c121_83
noncomputable def r121_30 : Array Oper := kO c121_85
noncomputable def o121_30_0 : Oper := opN r121_30 0
noncomputable def o121_30_1 : Oper := opN r121_30 1
theorem x121_85 : execA E C (fg 121) B 148 E0 N c121_85 s = regX (runA E C B 148 r121_30 r121_30.toList s) (fun s => gcM E0 [16, 147] (forget s.1 [16, 147], s.2)) := x_reg (ops := r121_30) (by rfl) (by rfl) s
theorem r121_30_l : r121_30.toList = [o121_30_0, o121_30_1] := nrfl rfl
theorem s121_30_0 : stepA E C B 148 r121_30 o121_30_0 (φ, H) = some (fput φ 147 (fget φ 16), H) := nrfl rfl
theorem s121_30_1 : stepA E C B 148 r121_30 o121_30_1 (φ, H) = some (fput φ 2 (fget φ 147), H) := nrfl rfl
theorem x121_83 : execA E C (fg 121) B 148 E0 N c121_83 s = seqX (execA E C (fg 121) B 148 E0 N c121_84 s) (execA E C (fg 121) B 148 E0 N c121_85) := x_seq (by rfl) s
theorem x121_81 : execA E C (fg 121) B 148 E0 N c121_81 s = seqX (execA E C (fg 121) B 148 E0 N c121_82 s) (execA E C (fg 121) B 148 E0 N c121_83) := x_seq (by rfl) s
theorem x121_75 : execA E C (fg 121) B 148 E0 N c121_75 (φ, H) = condX (fget φ 125) (execA E C (fg 121) B 148 E0 N c121_76 (φ, H)) (execA E C (fg 121) B 148 E0 N c121_81 (φ, H)) := x_cond (by rfl) _
theorem x121_73 : execA E C (fg 121) B 148 E0 N c121_73 s = seqX (execA E C (fg 121) B 148 E0 N c121_74 s) (execA E C (fg 121) B 148 E0 N c121_75) := x_seq (by rfl) s
theorem x121_71 : execA E C (fg 121) B 148 E0 N c121_71 s = seqX (execA E C (fg 121) B 148 E0 N c121_72 s) (execA E C (fg 121) B 148 E0 N c121_73) := x_seq (by rfl) s
theorem x121_69 : execA E C (fg 121) B 148 E0 N c121_69 s = seqX (execA E C (fg 121) B 148 E0 N c121_70 s) (execA E C (fg 121) B 148 E0 N c121_71) := x_seq (by rfl) s
theorem x121_67 : execA E C (fg 121) B 148 E0 N c121_67 s = seqX (execA E C (fg 121) B 148 E0 N c121_68 s) (execA E C (fg 121) B 148 E0 N c121_69) := x_seq (by rfl) s
theorem x121_65 : execA E C (fg 121) B 148 E0 N c121_65 s = seqX (execA E C (fg 121) B 148 E0 N c121_66 s) (execA E C (fg 121) B 148 E0 N c121_67) := x_seq (by rfl) s
theorem x121_55 : execA E C (fg 121) B 148 E0 N c121_55 s = seqX (execA E C (fg 121) B 148 E0 N c121_56 s) (execA E C (fg 121) B 148 E0 N c121_65) := x_seq (by rfl) s
theorem x121_45 : execA E C (fg 121) B 148 E0 N c121_45 s = seqX (execA E C (fg 121) B 148 E0 N c121_46 s) (execA E C (fg 121) B 148 E0 N c121_55) := x_seq (by rfl) s
theorem x121_35 : execA E C (fg 121) B 148 E0 N c121_35 s = seqX (execA E C (fg 121) B 148 E0 N c121_36 s) (execA E C (fg 121) B 148 E0 N c121_45) := x_seq (by rfl) s
theorem x121_33 : execA E C (fg 121) B 148 E0 N c121_33 s = seqX (execA E C (fg 121) B 148 E0 N c121_34 s) (execA E C (fg 121) B 148 E0 N c121_35) := x_seq (by rfl) s
theorem x121_25 : execA E C (fg 121) B 148 E0 N c121_25 s = seqX (execA E C (fg 121) B 148 E0 N c121_26 s) (execA E C (fg 121) B 148 E0 N c121_33) := x_seq (by rfl) s
theorem x121_17 : execA E C (fg 121) B 148 E0 N c121_17 s = seqX (execA E C (fg 121) B 148 E0 N c121_18 s) (execA E C (fg 121) B 148 E0 N c121_25) := x_seq (by rfl) s
theorem x121_9 : execA E C (fg 121) B 148 E0 N c121_9 s = seqX (execA E C (fg 121) B 148 E0 N c121_10 s) (execA E C (fg 121) B 148 E0 N c121_17) := x_seq (by rfl) s
theorem x121_7 : execA E C (fg 121) B 148 E0 N c121_7 s = seqX (execA E C (fg 121) B 148 E0 N c121_8 s) (execA E C (fg 121) B 148 E0 N c121_9) := x_seq (by rfl) s
theorem x121_6 : execA E C (fg 121) B 148 E0 N c121_6 s = blockX 1 (fun s => (forget s.1 [], s.2)) (execA E C (fg 121) B 148 E0 N c121_7 s) := x_block (by rfl) (by rfl) s
theorem x121_5 : execA E C (fg 121) B 148 E0 N c121_5 s = iterA (execA E C (fg 121) B 148 E0 N c121_6) (headA E0) N s := x_loop (by rfl) s
theorem x121_4 : execA E C (fg 121) B 148 E0 N c121_4 s = blockX 0 (fun s => (forget s.1 [], s.2)) (execA E C (fg 121) B 148 E0 N c121_5 s) := x_block (by rfl) (by rfl) s
theorem x121_2 : execA E C (fg 121) B 148 E0 N c121_2 s = seqX (execA E C (fg 121) B 148 E0 N c121_3 s) (execA E C (fg 121) B 148 E0 N c121_4) := x_seq (by rfl) s
theorem x121_0 : execA E C (fg 121) B 148 E0 N c121_0 s = seqX (execA E C (fg 121) B 148 E0 N c121_1 s) (execA E C (fg 121) B 148 E0 N c121_2) := x_seq (by rfl) s
theorem fi_121 : fInfo E 121 = some ⟨148, #[], c121_0⟩ := nrfl rfl
theorem b_121 (args : List AV) : bodyA E C fg N 121 args H B = bodyX E [] (execA E C (fg 121) B 148 H N c121_0 (frame0 args 0 [], H)) := bodyA_eq fi_121 args H
abbrev F_121 := And.intro (And.intro (And.intro (And.intro (And.intro (And.intro (And.intro (And.intro @x121_1 @r121_0_l) (And.intro @s121_0_0 @x121_3)) (And.intro (And.intro @r121_1_l @s121_1_0) (And.intro @x121_8 @r121_2_l))) (And.intro (And.intro (And.intro @s121_2_0 @s121_2_1) (And.intro @s121_2_2 @s121_2_3)) (And.intro (And.intro @x121_11 @r121_3_l) (And.intro @s121_3_0 @s121_3_1)))) (And.intro (And.intro (And.intro (And.intro @x121_14 @r121_4_l) (And.intro @s121_4_0 @s121_4_1)) (And.intro (And.intro @s121_4_2 @s121_4_3) (And.intro @s121_4_4 @x121_15))) (And.intro (And.intro (And.intro @x121_13 @x121_16) (And.intro @x121_12 @x121_10)) (And.intro (And.intro @x121_19 @r121_5_l) (And.intro @s121_5_0 (And.intro @s121_5_1 @x121_22)))))) (And.intro (And.intro (And.intro (And.intro (And.intro @r121_6_l @s121_6_0) (And.intro @s121_6_1 @s121_6_2)) (And.intro (And.intro @s121_6_3 @s121_6_4) (And.intro @x121_23 @x121_21))) (And.intro (And.intro (And.intro @x121_24 @x121_20) (And.intro @x121_18 @x121_27)) (And.intro (And.intro @r121_7_l @s121_7_0) (And.intro @s121_7_1 @x121_30)))) (And.intro (And.intro (And.intro (And.intro @r121_8_l @s121_8_0) (And.intro @s121_8_1 @s121_8_2)) (And.intro (And.intro @s121_8_3 @s121_8_4) (And.intro @x121_31 @r121_9_l))) (And.intro (And.intro (And.intro @s121_9_0 @s121_9_1) (And.intro @s121_9_2 @x121_29)) (And.intro (And.intro @x121_32 @x121_28) (And.intro @x121_26 (And.intro @x121_34 @r121_10_l))))))) (And.intro (And.intro (And.intro (And.intro (And.intro (And.intro @s121_10_0 @s121_10_1) (And.intro @s121_10_2 @s121_10_3)) (And.intro (And.intro @s121_10_4 @s121_10_5) (And.intro @s121_10_6 @s121_10_7))) (And.intro (And.intro (And.intro @s121_10_8 @s121_10_9) (And.intro @x121_37 @r121_11_l)) (And.intro (And.intro @s121_11_0 @s121_11_1) (And.intro @x121_40 @r121_12_l)))) (And.intro (And.intro (And.intro (And.intro @s121_12_0 @s121_12_1) (And.intro @s121_12_2 @s121_12_3)) (And.intro (And.intro @s121_12_4 @x121_42) (And.intro @r121_13_l @s121_13_0))) (And.intro (And.intro (And.intro @s121_13_1 @s121_13_2) (And.intro @s121_13_3 @s121_13_4)) (And.intro (And.intro @s121_13_5 @s121_13_6) (And.intro @x121_43 (And.intro @r121_14_l @s121_14_0)))))) (And.intro (And.intro (And.intro (And.intro (And.intro @x121_41 @x121_39) (And.intro @x121_44 @x121_38)) (And.intro (And.intro @x121_36 @x121_47) (And.intro @r121_15_l @s121_15_0))) (And.intro (And.intro (And.intro @s121_15_1 @s121_15_2) (And.intro @s121_15_3 @s121_15_4)) (And.intro (And.intro @s121_15_5 @s121_15_6) (And.intro @s121_15_7 (And.intro @x121_50 @r121_16_l))))) (And.intro (And.intro (And.intro (And.intro @s121_16_0 @s121_16_1) (And.intro @s121_16_2 @s121_16_3)) (And.intro (And.intro @s121_16_4 @x121_52) (And.intro @x121_53 @x121_51))) (And.intro (And.intro (And.intro @x121_49 @x121_54) (And.intro @x121_48 @x121_46)) (And.intro (And.intro @x121_57 @r121_17_l) (And.intro @r121_17_dr (And.intro @r121_17_an @s121_17_0)))))))) (And.intro (And.intro (And.intro (And.intro (And.intro (And.intro (And.intro @s121_17_1 @s121_17_2) (And.intro @s121_17_3 @s121_17_4)) (And.intro (And.intro @s121_17_5 @s121_17_6) (And.intro @s121_17_7 @s121_17_8))) (And.intro (And.intro (And.intro @s121_17_9 @s121_17_10) (And.intro @s121_17_11 @s121_17_12)) (And.intro (And.intro @s121_17_13 @s121_17_14) (And.intro @s121_17_15 @s121_17_16)))) (And.intro (And.intro (And.intro (And.intro @x121_60 @r121_18_l) (And.intro @s121_18_0 @s121_18_1)) (And.intro (And.intro @s121_18_2 @s121_18_3) (And.intro @s121_18_4 @s121_18_5))) (And.intro (And.intro (And.intro @s121_18_6 @x121_62) (And.intro @r121_19_l @s121_19_0)) (And.intro (And.intro @s121_19_1 @x121_63) (And.intro @x121_61 (And.intro @x121_59 @x121_64)))))) (And.intro (And.intro (And.intro (And.intro (And.intro @x121_58 @x121_56) (And.intro @x121_66 @r121_20_l)) (And.intro (And.intro @s121_20_0 @s121_20_1) (And.intro @s121_20_2 @s121_20_3))) (And.intro (And.intro (And.intro @s121_20_4 @s121_20_5) (And.intro @s121_20_6 @s121_20_7)) (And.intro (And.intro @s121_20_8 @s121_20_9) (And.intro @s121_20_10 (And.intro @x121_68 @r121_21_l))))) (And.intro (And.intro (And.intro (And.intro @s121_21_0 @s121_21_1) (And.intro @x121_70 @r121_22_l)) (And.intro (And.intro @s121_22_0 @s121_22_1) (And.intro @s121_22_2 @s121_22_3))) (And.intro (And.intro (And.intro @s121_22_4 @s121_22_5) (And.intro @s121_22_6 @s121_22_7)) (And.intro (And.intro @x121_72 @r121_23_l) (And.intro @s121_23_0 (And.intro @s121_23_1 @s121_23_2))))))) (And.intro (And.intro (And.intro (And.intro (And.intro (And.intro @x121_74 @r121_24_l) (And.intro @s121_24_0 @s121_24_1)) (And.intro (And.intro @s121_24_2 @x121_77) (And.intro @r121_25_l @s121_25_0))) (And.intro (And.intro (And.intro @s121_25_1 @s121_25_2) (And.intro @s121_25_3 @x121_79)) (And.intro (And.intro @r121_26_l @s121_26_0) (And.intro @s121_26_1 @s121_26_2)))) (And.intro (And.intro (And.intro (And.intro @s121_26_3 @s121_26_4) (And.intro @s121_26_5 @x121_80)) (And.intro (And.intro @r121_27_l @s121_27_0) (And.intro @s121_27_1 @s121_27_2))) (And.intro (And.intro (And.intro @x121_78 @x121_76) (And.intro @x121_82 @r121_28_l)) (And.intro (And.intro @s121_28_0 @s121_28_1) (And.intro @s121_28_2 (And.intro @s121_28_3 @x121_84)))))) (And.intro (And.intro (And.intro (And.intro (And.intro @r121_29_l @s121_29_0) (And.intro @s121_29_1 @s121_29_2)) (And.intro (And.intro @s121_29_3 @s121_29_4) (And.intro @s121_29_5 @s121_29_6))) (And.intro (And.intro (And.intro @x121_85 @r121_30_l) (And.intro @s121_30_0 @s121_30_1)) (And.intro (And.intro @x121_83 @x121_81) (And.intro @x121_75 (And.intro @x121_73 @x121_71))))) (And.intro (And.intro (And.intro (And.intro @x121_69 @x121_67) (And.intro @x121_65 @x121_55)) (And.intro (And.intro @x121_45 @x121_35) (And.intro @x121_33 @x121_25))) (And.intro (And.intro (And.intro @x121_17 @x121_9) (And.intro @x121_7 @x121_6)) (And.intro (And.intro @x121_5 @x121_4) (And.intro @x121_2 (And.intro @x121_0 @b_121))))))))
noncomputable def c133_0 : Code := kBody Proofs.Try.f133
noncomputable def c133_1 : Code := kL c133_0
noncomputable def r133_0 : Array Oper := kO c133_1
noncomputable def o133_0_0 : Oper := opN r133_0 0
noncomputable def o133_0_1 : Oper := opN r133_0 1
noncomputable def o133_0_2 : Oper := opN r133_0 2
theorem x133_1 : execA E C (fg 133) B 53 E0 N c133_1 s = regX (runA E C B 53 r133_0 r133_0.toList s) (fun s => gcM E0 [10, 11] (forget s.1 [10, 11], s.2)) := x_reg (ops := r133_0) (by rfl) (by rfl) s
theorem r133_0_l : r133_0.toList = [o133_0_0, o133_0_1, o133_0_2] := nrfl rfl
theorem s133_0_0 : stepA E C B 53 r133_0 o133_0_0 (φ, H) = some (fput φ 10 (fget φ 1), H) := nrfl rfl
theorem s133_0_1 : stepA E C B 53 r133_0 o133_0_1 (φ, H) = stp (some 11) φ H (just (aBin E.T .add 3 (fget φ 10) (.int .i64 1))) := nrfl rfl
theorem s133_0_2 : stepA E C B 53 r133_0 o133_0_2 (φ, H) = some (fput φ 8 (fget φ 11), H) := nrfl rfl
noncomputable def c133_2 : Code := kR c133_0
noncomputable def c133_3 : Code := kB c133_2
noncomputable def c133_4 : Code := kB c133_3
noncomputable def c133_5 : Code := kL c133_4
noncomputable def c133_6 : Code := kL c133_5
noncomputable def r133_1 : Array Oper := kO c133_6
noncomputable def o133_1_0 : Oper := opN r133_1 0
noncomputable def o133_1_1 : Oper := opN r133_1 1
noncomputable def o133_1_2 : Oper := opN r133_1 2
theorem x133_6 : execA E C (fg 133) B 53 E0 N c133_6 s = regX (runA E C B 53 r133_1 r133_1.toList s) (fun s => gcM E0 [12, 13] (forget s.1 [12, 13], s.2)) := x_reg (ops := r133_1) (by rfl) (by rfl) s
theorem r133_1_l : r133_1.toList = [o133_1_0, o133_1_1, o133_1_2] := nrfl rfl
theorem s133_1_0 : stepA E C B 53 r133_1 o133_1_0 (φ, H) = some (fput φ 12 (fget φ 8), H) := nrfl rfl
theorem s133_1_1 : stepA E C B 53 r133_1 o133_1_1 (φ, H) = some (fput φ 13 (fget φ 2), H) := nrfl rfl
theorem s133_1_2 : stepA E C B 53 r133_1 o133_1_2 (φ, H) = stp (some 14) φ H (just (aBin E.T .lss 3 (fget φ 12) (fget φ 13))) := nrfl rfl
noncomputable def c133_7 : Code := kR c133_5
noncomputable def c133_8 : Code := kT c133_7
theorem x133_8 : execA E C (fg 133) B 53 E0 N c133_8 s = some (.normal, s) := x_skip (by rfl) s
noncomputable def c133_9 : Code := kE c133_7
theorem x133_9 : execA E C (fg 133) B 53 E0 N c133_9 s = some (.exit 0, s) := x_exit (by rfl) s
theorem x133_7 : execA E C (fg 133) B 53 E0 N c133_7 (φ, H) = condX (fget φ 14) (execA E C (fg 133) B 53 E0 N c133_8 (φ, H)) (execA E C (fg 133) B 53 E0 N c133_9 (φ, H)) := x_cond (by rfl) _
theorem x133_5 : execA E C (fg 133) B 53 E0 N c133_5 s = seqX (execA E C (fg 133) B 53 E0 N c133_6 s) (execA E C (fg 133) B 53 E0 N c133_7) := x_seq (by rfl) s
noncomputable def c133_10 : Code := kR c133_4
noncomputable def c133_11 : Code := kL c133_10
noncomputable def c133_12 : Code := kB c133_11
noncomputable def c133_13 : Code := kL c133_12
noncomputable def r133_3 : Array Oper := kO c133_13
noncomputable def o133_3_0 : Oper := opN r133_3 0
noncomputable def o133_3_1 : Oper := opN r133_3 1
theorem x133_13 : execA E C (fg 133) B 53 E0 N c133_13 s = regX (runA E C B 53 r133_3 r133_3.toList s) (fun s => gcM E0 [14, 17] (forget s.1 [14, 17], s.2)) := x_reg (ops := r133_3) (by rfl) (by rfl) s
theorem r133_3_l : r133_3.toList = [o133_3_0, o133_3_1] := nrfl rfl
theorem s133_3_0 : stepA E C B 53 r133_3 o133_3_0 (φ, H) = some (fput φ 17 (fget φ 8), H) := nrfl rfl
theorem s133_3_1 : stepA E C B 53 r133_3 o133_3_1 (φ, H) = some (fput φ 9 (fget φ 17), H) := nrfl rfl
noncomputable def c133_14 : Code := kR c133_12
noncomputable def c133_15 : Code := kB c133_14
noncomputable def c133_16 : Code := kB c133_15
noncomputable def c133_17 : Code := kL c133_16
noncomputable def c133_18 : Code := kL c133_17
noncomputable def r133_4 : Array Oper := kO c133_18
noncomputable def o133_4_0 : Oper := opN r133_4 0
noncomputable def o133_4_1 : Oper := opN r133_4 1
noncomputable def o133_4_2 : Oper := opN r133_4 2
noncomputable def o133_4_3 : Oper := opN r133_4 3
noncomputable def o133_4_4 : Oper := opN r133_4 4
noncomputable def o133_4_5 : Oper := opN r133_4 5
noncomputable def o133_4_6 : Oper := opN r133_4 6
noncomputable def o133_4_7 : Oper := opN r133_4 7
noncomputable def o133_4_8 : Oper := opN r133_4 8
noncomputable def o133_4_9 : Oper := opN r133_4 9
noncomputable def o133_4_10 : Oper := opN r133_4 10
noncomputable def o133_4_11 : Oper := opN r133_4 11
noncomputable def o133_4_12 : Oper := opN r133_4 12
noncomputable def o133_4_13 : Oper := opN r133_4 13
noncomputable def o133_4_14 : Oper := opN r133_4 14
noncomputable def o133_4_15 : Oper := opN r133_4 15
noncomputable def o133_4_16 : Oper := opN r133_4 16
theorem x133_18 : execA E C (fg 133) B 53 E0 N c133_18 s = regX (drawA E C B 53 r133_4 s) (fun s => gcM E0 [18, 19, 20, 21, 22, 23, 24, 25, 26, 27, 28, 29, 30, 31, 32, 33] (forget s.1 [18, 19, 20, 21, 22, 23, 24, 25, 26, 27, 28, 29, 30, 31, 32, 33], s.2)) := x_draw (ops := r133_4) (by rfl) (by rfl) s
theorem r133_4_l : r133_4.toList = [o133_4_0, o133_4_1, o133_4_2, o133_4_3, o133_4_4, o133_4_5, o133_4_6, o133_4_7, o133_4_8, o133_4_9, o133_4_10, o133_4_11, o133_4_12, o133_4_13, o133_4_14, o133_4_15, o133_4_16] := nrfl rfl
theorem r133_4_st : statOk r133_4 = true := by kernel_rfl
theorem r133_4_dr : drawA E C B 53 r133_4 s = if neat 53 s = true then drX r133_4 (runT E C B 53 r133_4 r133_4.toList 0 s) else none := draw_eq r133_4_st s
theorem r133_4_an (l : List (Nat × Tr)) : dynOk r133_4 l = (!writing l || dynPairs [[], [], [0, 1], [0, 1, 2], [0, 1, 2, 3], [0, 1, 2, 3], [0, 1, 2, 3], [0, 1, 2, 3, 5, 6], [0, 1, 2, 3, 5, 6, 7], [0, 1, 2, 3], [0, 1, 2, 3], [0, 1, 2, 3, 10], [0, 1, 2, 3, 9, 10, 11], [0, 1, 2, 3, 9, 10, 11, 12], [0, 1, 2, 3, 4, 5, 6, 7, 8, 9, 10, 11, 12, 13], [0, 1, 2, 3, 4, 5, 6, 7, 8, 9, 10, 11, 12, 13, 14], [0, 1, 2, 3, 4, 5, 6, 7, 8, 9, 10, 11, 12, 13, 14, 15]] (touching l)) := dynOk_eq (by kernel_rfl) l
theorem s133_4_0 : stepT E C B 53 r133_4 o133_4_0 (φ, H) = some ((fput φ 18 (fget φ 9), H), ⟨false, [], []⟩) := stT_go rfl (goT_mv rfl rfl)
theorem s133_4_1 : stepT E C B 53 r133_4 o133_4_1 (φ, H) = some ((fput φ 19 (fget φ 1), H), ⟨false, [], []⟩) := stT_go rfl (goT_mv rfl rfl)
theorem s133_4_2 : stepT E C B 53 r133_4 o133_4_2 (φ, H) = stpT (some 20) φ H (just (aBin E.T .gtr 3 (fget φ 18) (fget φ 19))) := stT_go rfl (goT_R rfl rfl)
theorem s133_4_3 : stepT E C B 53 r133_4 o133_4_3 (φ, H) = some ((fput φ 21 (fget φ 20), H), ⟨false, [], []⟩) := stT_go rfl (goT_mv rfl rfl)
theorem s133_4_4 : stepT E C B 53 r133_4 o133_4_4 (φ, H) = gdT φ 21 true (fun φ => (some (fput φ 22 (.tup []), H)).map fun s => (s, ⟨false, [], []⟩)) (fun φ => some ((fput φ 22 (fget φ 3), H), ⟨false, [], []⟩)) := stT_gd (j := 3) (oj := o133_4_3) rfl rfl rfl (fun _ => rfl) (fun _ => goT_mv rfl rfl)
theorem s133_4_5 : stepT E C B 53 r133_4 o133_4_5 (φ, H) = gdT φ 21 true (fun φ => (some (fput φ 23 (.tup []), H)).map fun s => (s, ⟨false, [], []⟩)) (fun φ => some ((fput φ 23 (fget φ 0), H), ⟨false, [], []⟩)) := stT_gd (j := 3) (oj := o133_4_3) rfl rfl rfl (fun _ => rfl) (fun _ => goT_mv rfl rfl)
theorem s133_4_6 : stepT E C B 53 r133_4 o133_4_6 (φ, H) = gdT φ 21 true (fun φ => (some (fput φ 24 (.tup []), H)).map fun s => (s, ⟨false, [], []⟩)) (fun φ => some ((fput φ 24 (fget φ 9), H), ⟨false, [], []⟩)) := stT_gd (j := 3) (oj := o133_4_3) rfl rfl rfl (fun _ => rfl) (fun _ => goT_mv rfl rfl)
theorem s133_4_7 : stepT E C B 53 r133_4 o133_4_7 (φ, H) = gdT φ 21 true (fun φ => (some (fput φ 25 (.tup []), H)).map fun s => (s, ⟨false, [], []⟩)) (fun φ => stpT (some 25) φ H (just (aIndexAddr E.T 22 (fget φ 23) (fget φ 24)))) := stT_gd (j := 3) (oj := o133_4_3) rfl rfl rfl (fun _ => rfl) (fun _ => goT_R rfl rfl)
theorem s133_4_8 : stepT E C B 53 r133_4 o133_4_8 (φ, H) = gdT φ 21 true (fun φ => (some (fput φ 26 (.tup []), H)).map fun s => (s, ⟨false, [], []⟩)) (fun φ => stpT (some 26) φ H (just (aLoad E.T 3 (fget φ 25)))) := stT_gd (j := 3) (oj := o133_4_3) rfl rfl rfl (fun _ => rfl) (fun _ => goT_R rfl rfl)
theorem s133_4_9 : stepT E C B 53 r133_4 o133_4_9 (φ, H) = gdT φ 21 true (fun φ => (some (fput φ 27 (.tup []), H)).map fun s => (s, ⟨false, [], []⟩)) (fun φ => some ((fput φ 27 (fget φ 0), H), ⟨false, [], []⟩)) := stT_gd (j := 3) (oj := o133_4_3) rfl rfl rfl (fun _ => rfl) (fun _ => goT_mv rfl rfl)
theorem s133_4_10 : stepT E C B 53 r133_4 o133_4_10 (φ, H) = gdT φ 21 true (fun φ => (some (fput φ 28 (.tup []), H)).map fun s => (s, ⟨false, [], []⟩)) (fun φ => some ((fput φ 28 (fget φ 9), H), ⟨false, [], []⟩)) := stT_gd (j := 3) (oj := o133_4_3) rfl rfl rfl (fun _ => rfl) (fun _ => goT_mv rfl rfl)
theorem s133_4_11 : stepT E C B 53 r133_4 o133_4_11 (φ, H) = gdT φ 21 true (fun φ => (some (fput φ 29 (.tup []), H)).map fun s => (s, ⟨false, [], []⟩)) (fun φ => stpT (some 29) φ H (just (aBin E.T .sub 3 (fget φ 28) (.int .i64 1)))) := stT_gd (j := 3) (oj := o133_4_3) rfl rfl rfl (fun _ => rfl) (fun _ => goT_R rfl rfl)
theorem s133_4_12 : stepT E C B 53 r133_4 o133_4_12 (φ, H) = gdT φ 21 true (fun φ => (some (fput φ 30 (.tup []), H)).map fun s => (s, ⟨false, [], []⟩)) (fun φ => stpT (some 30) φ H (just (aIndexAddr E.T 22 (fget φ 27) (fget φ 29)))) := stT_gd (j := 3) (oj := o133_4_3) rfl rfl rfl (fun _ => rfl) (fun _ => goT_R rfl rfl)
theorem s133_4_13 : stepT E C B 53 r133_4 o133_4_13 (φ, H) = gdT φ 21 true (fun φ => (some (fput φ 31 (.tup []), H)).map fun s => (s, ⟨false, [], []⟩)) (fun φ => stpT (some 31) φ H (just (aLoad E.T 3 (fget φ 30)))) := stT_gd (j := 3) (oj := o133_4_3) rfl rfl rfl (fun _ => rfl) (fun _ => goT_R rfl rfl)
theorem s133_4_14 : stepT E C B 53 r133_4 o133_4_14 (φ, H) = gdT φ 21 true (fun φ => (some (fput φ 32 (.tup []), H)).map fun s => (s, ⟨false, [], []⟩)) (fun φ => callVT E C (B + 53 * 8) (some 32) (fun j => B + j * 53 + 32) φ H (fget φ 22) [(fget φ 26), (fget φ 31)] true) := stT_gd (j := 3) (oj := o133_4_3) rfl rfl rfl (fun _ => rfl) (fun _ => goT_V rfl rfl)
theorem s133_4_15 : stepT E C B 53 r133_4 o133_4_15 (φ, H) = gdT φ 21 true (fun φ => (some (fput φ 33 (.tup []), H)).map fun s => (s, ⟨false, [], []⟩)) (fun φ => stpT (some 33) φ H (just (aBin E.T .lss 3 (fget φ 32) (.int .i64 0)))) := stT_gd (j := 3) (oj := o133_4_3) rfl rfl rfl (fun _ => rfl) (fun _ => goT_R rfl rfl)
theorem s133_4_16 : stepT E C B 53 r133_4 o133_4_16 (φ, H) = stpT (some 34) φ H (opPick (fget φ 21) (fget φ 33) (.bool false)) := stT_go rfl (goT_R rfl rfl)
noncomputable def c133_19 : Code := kR c133_17
noncomputable def c133_20 : Code := kT c133_19
theorem x133_20 : execA E C (fg 133) B 53 E0 N c133_20 s = some (.normal, s) := x_skip (by rfl) s
noncomputable def c133_21 : Code := kE c133_19
theorem x133_21 : execA E C (fg 133) B 53 E0 N c133_21 s = some (.exit 2, s) := x_exit (by rfl) s
theorem x133_19 : execA E C (fg 133) B 53 E0 N c133_19 (φ, H) = condX (fget φ 34) (execA E C (fg 133) B 53 E0 N c133_20 (φ, H)) (execA E C (fg 133) B 53 E0 N c133_21 (φ, H)) := x_cond (by rfl) _
theorem x133_17 : execA E C (fg 133) B 53 E0 N c133_17 s = seqX (execA E C (fg 133) B 53 E0 N c133_18 s) (execA E C (fg 133) B 53 E0 N c133_19) := x_seq (by rfl) s
noncomputable def c133_22 : Code := kR c133_16
noncomputable def c133_23 : Code := kL c133_22
noncomputable def c133_24 : Code := kB c133_23
noncomputable def r133_6 : Array Oper := kO c133_24
noncomputable def o133_6_0 : Oper := opN r133_6 0
noncomputable def o133_6_1 : Oper := opN r133_6 1
noncomputable def o133_6_2 : Oper := opN r133_6 2
noncomputable def o133_6_3 : Oper := opN r133_6 3
noncomputable def o133_6_4 : Oper := opN r133_6 4
noncomputable def o133_6_5 : Oper := opN r133_6 5
noncomputable def o133_6_6 : Oper := opN r133_6 6
noncomputable def o133_6_7 : Oper := opN r133_6 7
noncomputable def o133_6_8 : Oper := opN r133_6 8
noncomputable def o133_6_9 : Oper := opN r133_6 9
noncomputable def o133_6_10 : Oper := opN r133_6 10
noncomputable def o133_6_11 : Oper := opN r133_6 11
noncomputable def o133_6_12 : Oper := opN r133_6 12
noncomputable def o133_6_13 : Oper := opN r133_6 13
noncomputable def o133_6_14 : Oper := opN r133_6 14
noncomputable def o133_6_15 : Oper := opN r133_6 15
noncomputable def o133_6_16 : Oper := opN r133_6 16
noncomputable def o133_6_17 : Oper := opN r133_6 17
theorem x133_24 : execA E C (fg 133) B 53 E0 N c133_24 s = regX (drawA E C B 53 r133_6 s) (fun s => gcM E0 [34, 37, 38, 39, 40, 41, 42, 43, 44, 45, 46, 47, 48, 49, 50, 51, 52] (forget s.1 [34, 37, 38, 39, 40, 41, 42, 43, 44, 45, 46, 47, 48, 49, 50, 51, 52], s.2)) := x_draw (ops := r133_6) (by rfl) (by rfl) s
theorem r133_6_l : r133_6.toList = [o133_6_0, o133_6_1, o133_6_2, o133_6_3, o133_6_4, o133_6_5, o133_6_6, o133_6_7, o133_6_8, o133_6_9, o133_6_10, o133_6_11, o133_6_12, o133_6_13, o133_6_14, o133_6_15, o133_6_16, o133_6_17] := nrfl rfl
theorem r133_6_st : statOk r133_6 = true := by kernel_rfl
theorem r133_6_dr : drawA E C B 53 r133_6 s = if neat 53 s = true then drX r133_6 (runT E C B 53 r133_6 r133_6.toList 0 s) else none := draw_eq r133_6_st s
theorem r133_6_an (l : List (Nat × Tr)) : dynOk r133_6 l = (!writing l || dynPairs [[], [], [], [], [3], [], [], [6], [5, 6, 7], [5, 6, 7, 8], [], [], [10, 11], [10, 11, 12], [0, 1, 5, 6, 7, 8, 9, 10, 11, 12, 13], [0, 1, 5, 6, 7, 8, 9, 10, 11, 12, 13, 14], [0, 1, 2, 3, 4, 5, 6, 7, 8, 9, 10, 11, 12, 13, 14, 15], [0, 1, 2, 3, 4, 5, 6, 7, 8, 9, 10, 11, 12, 13, 14, 15, 16]] (touching l)) := dynOk_eq (by kernel_rfl) l
theorem s133_6_0 : stepT E C B 53 r133_6 o133_6_0 (φ, H) = some ((fput φ 37 (fget φ 0), H), ⟨false, [], []⟩) := stT_go rfl (goT_mv rfl rfl)
theorem s133_6_1 : stepT E C B 53 r133_6 o133_6_1 (φ, H) = some ((fput φ 38 (fget φ 9), H), ⟨false, [], []⟩) := stT_go rfl (goT_mv rfl rfl)
theorem s133_6_2 : stepT E C B 53 r133_6 o133_6_2 (φ, H) = some ((fput φ 39 (fget φ 0), H), ⟨false, [], []⟩) := stT_go rfl (goT_mv rfl rfl)
theorem s133_6_3 : stepT E C B 53 r133_6 o133_6_3 (φ, H) = some ((fput φ 40 (fget φ 9), H), ⟨false, [], []⟩) := stT_go rfl (goT_mv rfl rfl)
theorem s133_6_4 : stepT E C B 53 r133_6 o133_6_4 (φ, H) = stpT (some 41) φ H (just (aBin E.T .sub 3 (fget φ 40) (.int .i64 1))) := stT_go rfl (goT_R rfl rfl)
theorem s133_6_5 : stepT E C B 53 r133_6 o133_6_5 (φ, H) = some ((fput φ 42 (fget φ 0), H), ⟨false, [], []⟩) := stT_go rfl (goT_mv rfl rfl)
theorem s133_6_6 : stepT E C B 53 r133_6 o133_6_6 (φ, H) = some ((fput φ 43 (fget φ 9), H), ⟨false, [], []⟩) := stT_go rfl (goT_mv rfl rfl)
theorem s133_6_7 : stepT E C B 53 r133_6 o133_6_7 (φ, H) = stpT (some 44) φ H (just (aBin E.T .sub 3 (fget φ 43) (.int .i64 1))) := stT_go rfl (goT_R rfl rfl)
theorem s133_6_8 : stepT E C B 53 r133_6 o133_6_8 (φ, H) = stpT (some 45) φ H (just (aIndexAddr E.T 22 (fget φ 42) (fget φ 44))) := stT_go rfl (goT_R rfl rfl)
theorem s133_6_9 : stepT E C B 53 r133_6 o133_6_9 (φ, H) = stpT (some 46) φ H (just (aLoad E.T 3 (fget φ 45))) := stT_go rfl (goT_R rfl rfl)
theorem s133_6_10 : stepT E C B 53 r133_6 o133_6_10 (φ, H) = some ((fput φ 47 (fget φ 0), H), ⟨false, [], []⟩) := stT_go rfl (goT_mv rfl rfl)
theorem s133_6_11 : stepT E C B 53 r133_6 o133_6_11 (φ, H) = some ((fput φ 48 (fget φ 9), H), ⟨false, [], []⟩) := stT_go rfl (goT_mv rfl rfl)
theorem s133_6_12 : stepT E C B 53 r133_6 o133_6_12 (φ, H) = stpT (some 49) φ H (just (aIndexAddr E.T 22 (fget φ 47) (fget φ 48))) := stT_go rfl (goT_R rfl rfl)
theorem s133_6_13 : stepT E C B 53 r133_6 o133_6_13 (φ, H) = stpT (some 50) φ H (just (aLoad E.T 3 (fget φ 49))) := stT_go rfl (goT_R rfl rfl)
theorem s133_6_14 : stepT E C B 53 r133_6 o133_6_14 (φ, H) = stpT (some 51) φ H (just (aIndexAddr E.T 22 (fget φ 37) (fget φ 38))) := stT_go rfl (goT_R rfl rfl)
theorem s133_6_15 : stepT E C B 53 r133_6 o133_6_15 (φ, H) = stpT none φ H (opStore E.T 3 (fget φ 51) (fget φ 46)) := stT_go rfl (goT_R rfl rfl)
theorem s133_6_16 : stepT E C B 53 r133_6 o133_6_16 (φ, H) = stpT (some 52) φ H (just (aIndexAddr E.T 22 (fget φ 39) (fget φ 41))) := stT_go rfl (goT_R rfl rfl)
theorem s133_6_17 : stepT E C B 53 r133_6 o133_6_17 (φ, H) = stpT none φ H (opStore E.T 3 (fget φ 52) (fget φ 50)) := stT_go rfl (goT_R rfl rfl)
theorem x133_23 : execA E C (fg 133) B 53 E0 N c133_23 s = blockX 3 (fun s => (forget s.1 [], s.2)) (execA E C (fg 133) B 53 E0 N c133_24 s) := x_block (by rfl) (by rfl) s
noncomputable def c133_25 : Code := kR c133_22
noncomputable def r133_5 : Array Oper := kO c133_25
noncomputable def o133_5_0 : Oper := opN r133_5 0
noncomputable def o133_5_1 : Oper := opN r133_5 1
noncomputable def o133_5_2 : Oper := opN r133_5 2
theorem x133_25 : execA E C (fg 133) B 53 E0 N c133_25 s = regX (runA E C B 53 r133_5 r133_5.toList s) (fun s => gcM E0 [35, 36] (forget s.1 [35, 36], s.2)) := x_reg (ops := r133_5) (by rfl) (by rfl) s
theorem r133_5_l : r133_5.toList = [o133_5_0, o133_5_1, o133_5_2] := nrfl rfl
theorem s133_5_0 : stepA E C B 53 r133_5 o133_5_0 (φ, H) = some (fput φ 35 (fget φ 9), H) := nrfl rfl
theorem s133_5_1 : stepA E C B 53 r133_5 o133_5_1 (φ, H) = stp (some 36) φ H (just (aBin E.T .sub 3 (fget φ 35) (.int .i64 1))) := nrfl rfl
theorem s133_5_2 : stepA E C B 53 r133_5 o133_5_2 (φ, H) = some (fput φ 9 (fget φ 36), H) := nrfl rfl
theorem x133_22 : execA E C (fg 133) B 53 E0 N c133_22 s = seqX (execA E C (fg 133) B 53 E0 N c133_23 s) (execA E C (fg 133) B 53 E0 N c133_25) := x_seq (by rfl) s
theorem x133_16 : execA E C (fg 133) B 53 E0 N c133_16 s = seqX (execA E C (fg 133) B 53 E0 N c133_17 s) (execA E C (fg 133) B 53 E0 N c133_22) := x_seq (by rfl) s
theorem x133_15 : execA E C (fg 133) B 53 E0 N c133_15 s = iterA (execA E C (fg 133) B 53 E0 N c133_16) (headA E0) N s := x_loop (by rfl) s
theorem x133_14 : execA E C (fg 133) B 53 E0 N c133_14 s = blockX 2 (fun s => (forget s.1 [9, 34], s.2)) (execA E C (fg 133) B 53 E0 N c133_15 s) := x_block (by rfl) (by rfl) s
theorem x133_12 : execA E C (fg 133) B 53 E0 N c133_12 s = seqX (execA E C (fg 133) B 53 E0 N c133_13 s) (execA E C (fg 133) B 53 E0 N c133_14) := x_seq (by rfl) s
theorem x133_11 : execA E C (fg 133) B 53 E0 N c133_11 s = blockX 1 (fun s => (forget s.1 [], s.2)) (execA E C (fg 133) B 53 E0 N c133_12 s) := x_block (by rfl) (by rfl) s
noncomputable def c133_26 : Code := kR c133_10
noncomputable def r133_2 : Array Oper := kO c133_26
noncomputable def o133_2_0 : Oper := opN r133_2 0
noncomputable def o133_2_1 : Oper := opN r133_2 1
noncomputable def o133_2_2 : Oper := opN r133_2 2
theorem x133_26 : execA E C (fg 133) B 53 E0 N c133_26 s = regX (runA E C B 53 r133_2 r133_2.toList s) (fun s => gcM E0 [15, 16] (forget s.1 [15, 16], s.2)) := x_reg (ops := r133_2) (by rfl) (by rfl) s
theorem r133_2_l : r133_2.toList = [o133_2_0, o133_2_1, o133_2_2] := nrfl rfl
theorem s133_2_0 : stepA E C B 53 r133_2 o133_2_0 (φ, H) = some (fput φ 15 (fget φ 8), H) := nrfl rfl
theorem s133_2_1 : stepA E C B 53 r133_2 o133_2_1 (φ, H) = stp (some 16) φ H (just (aBin E.T .add 3 (fget φ 15) (.int .i64 1))) := nrfl rfl
theorem s133_2_2 : stepA E C B 53 r133_2 o133_2_2 (φ, H) = some (fput φ 8 (fget φ 16), H) := nrfl rfl
theorem x133_10 : execA E C (fg 133) B 53 E0 N c133_10 s = seqX (execA E C (fg 133) B 53 E0 N c133_11 s) (execA E C (fg 133) B 53 E0 N c133_26) := x_seq (by rfl) s
theorem x133_4 : execA E C (fg 133) B 53 E0 N c133_4 s = seqX (execA E C (fg 133) B 53 E0 N c133_5 s) (execA E C (fg 133) B 53 E0 N c133_10) := x_seq (by rfl) s
theorem x133_3 : execA E C (fg 133) B 53 E0 N c133_3 s = iterA (execA E C (fg 133) B 53 E0 N c133_4) (headA E0) N s := x_loop (by rfl) s
theorem x133_2 : execA E C (fg 133) B 53 E0 N c133_2 s = blockX 0 (fun s => (forget s.1 [0, 1, 2, 3, 8, 14], s.2)) (execA E C (fg 133) B 53 E0 N c133_3 s) := x_block (by rfl) (by rfl) s
theorem x133_0 : execA E C (fg 133) B 53 E0 N c133_0 s = seqX (execA E C (fg 133) B 53 E0 N c133_1 s) (execA E C (fg 133) B 53 E0 N c133_2) := x_seq (by rfl) s
theorem fi_133 : fInfo E 133 = some ⟨53, #[], c133_0⟩ := nrfl rfl
theorem b_133 (args : List AV) : bodyA E C fg N 133 args H B = bodyX E [] (execA E C (fg 133) B 53 H N c133_0 (frame0 args 0 [], H)) := bodyA_eq fi_133 args H
abbrev F_133 := And.intro (And.intro (And.intro (And.intro (And.intro (And.intro @x133_1 @r133_0_l) (And.intro @s133_0_0 (And.intro @s133_0_1 @s133_0_2))) (And.intro (And.intro @x133_6 (And.intro @r133_1_l @s133_1_0)) (And.intro @s133_1_1 (And.intro @s133_1_2 @x133_8)))) (And.intro (And.intro (And.intro @x133_9 @x133_7) (And.intro @x133_5 (And.intro @x133_13 @r133_3_l))) (And.intro (And.intro @s133_3_0 (And.intro @s133_3_1 @x133_18)) (And.intro @r133_4_l (And.intro @r133_4_dr @r133_4_an))))) (And.intro (And.intro (And.intro (And.intro @s133_4_0 @s133_4_1) (And.intro @s133_4_2 (And.intro @s133_4_3 @s133_4_4))) (And.intro (And.intro @s133_4_5 (And.intro @s133_4_6 @s133_4_7)) (And.intro @s133_4_8 (And.intro @s133_4_9 @s133_4_10)))) (And.intro (And.intro (And.intro @s133_4_11 @s133_4_12) (And.intro @s133_4_13 (And.intro @s133_4_14 @s133_4_15))) (And.intro (And.intro @s133_4_16 (And.intro @x133_20 @x133_21)) (And.intro @x133_19 (And.intro @x133_17 @x133_24)))))) (And.intro (And.intro (And.intro (And.intro (And.intro @r133_6_l @r133_6_dr) (And.intro @r133_6_an (And.intro @s133_6_0 @s133_6_1))) (And.intro (And.intro @s133_6_2 (And.intro @s133_6_3 @s133_6_4)) (And.intro @s133_6_5 (And.intro @s133_6_6 @s133_6_7)))) (And.intro (And.intro (And.intro @s133_6_8 @s133_6_9) (And.intro @s133_6_10 (And.intro @s133_6_11 @s133_6_12))) (And.intro (And.intro @s133_6_13 (And.intro @s133_6_14 @s133_6_15)) (And.intro @s133_6_16 (And.intro @s133_6_17 @x133_23))))) (And.intro (And.intro (And.intro (And.intro @x133_25 @r133_5_l) (And.intro @s133_5_0 (And.intro @s133_5_1 @s133_5_2))) (And.intro (And.intro @x133_22 (And.intro @x133_16 @x133_15)) (And.intro @x133_14 (And.intro @x133_12 @x133_11)))) (And.intro (And.intro (And.intro @x133_26 @r133_2_l) (And.intro @s133_2_0 (And.intro @s133_2_1 @s133_2_2))) (And.intro (And.intro @x133_10 (And.intro @x133_4 @x133_3)) (And.intro @x133_2 (And.intro @x133_0 @b_133))))))
noncomputable def c66_0 : Code := kBody Proofs.Try.f66
noncomputable def c66_1 : Code := kL c66_0
noncomputable def r66_0 : Array Oper := kO c66_1
noncomputable def o66_0_0 : Oper := opN r66_0 0
theorem x66_1 : execA E C (fg 66) B 8 E0 N c66_1 s = regX (runA E C B 8 r66_0 r66_0.toList s) (fun s => gcM E0 [2] (forget s.1 [2], s.2)) := x_reg (ops := r66_0) (by rfl) (by rfl) s
theorem r66_0_l : r66_0.toList = [o66_0_0] := nrfl rfl
theorem s66_0_0 : stepA E C B 8 r66_0 o66_0_0 (φ, H) = some (fput φ 2 (.nilsl), H) := nrfl rfl
noncomputable def c66_2 : Code := kR c66_0
noncomputable def c66_3 : Code := kL c66_2
noncomputable def c66_4 : Code := kL c66_3
noncomputable def r66_1 : Array Oper := kO c66_4
noncomputable def o66_1_0 : Oper := opN r66_1 0
noncomputable def o66_1_1 : Oper := opN r66_1 1
theorem x66_4 : execA E C (fg 66) B 8 E0 N c66_4 s = regX (runA E C B 8 r66_1 r66_1.toList s) (fun s => gcM E0 [3] (forget s.1 [3], s.2)) := x_reg (ops := r66_1) (by rfl) (by rfl) s
theorem r66_1_l : r66_1.toList = [o66_1_0, o66_1_1] := nrfl rfl
theorem s66_1_0 : stepA E C B 8 r66_1 o66_1_0 (φ, H) = some (fput φ 3 (fget φ 0), H) := nrfl rfl
theorem s66_1_1 : stepA E C B 8 r66_1 o66_1_1 (φ, H) = stp (some 4) φ H (just (aBin E.T .eql 22 (fget φ 3) (.nilsl))) := nrfl rfl
noncomputable def c66_5 : Code := kR c66_3
noncomputable def c66_6 : Code := kT c66_5
noncomputable def c66_7 : Code := kL c66_6
noncomputable def r66_2 : Array Oper := kO c66_7
noncomputable def o66_2_0 : Oper := opN r66_2 0
theorem x66_7 : execA E C (fg 66) B 8 E0 N c66_7 s = regX (runA E C B 8 r66_2 r66_2.toList s) (fun s => gcM E0 [0, 4] (forget s.1 [0, 4], s.2)) := x_reg (ops := r66_2) (by rfl) (by rfl) s
theorem r66_2_l : r66_2.toList = [o66_2_0] := nrfl rfl
theorem s66_2_0 : stepA E C B 8 r66_2 o66_2_0 (φ, H) = some (fput φ 2 (.nilsl), H) := nrfl rfl
noncomputable def c66_8 : Code := kR c66_6
theorem x66_8 : execA E C (fg 66) B 8 E0 N c66_8 s = some (.ret, s) := x_ret (by rfl) s
theorem x66_6 : execA E C (fg 66) B 8 E0 N c66_6 s = seqX (execA E C (fg 66) B 8 E0 N c66_7 s) (execA E C (fg 66) B 8 E0 N c66_8) := x_seq (by rfl) s
noncomputable def c66_9 : Code := kE c66_5
theorem x66_9 : execA E C (fg 66) B 8 E0 N c66_9 s = some (.normal, s) := x_skip (by rfl) s
theorem x66_5 : execA E C (fg 66) B 8 E0 N c66_5 (φ, H) = condX (fget φ 4) (execA E C (fg 66) B 8 E0 N c66_6 (φ, H)) (execA E C (fg 66) B 8 E0 N c66_9 (φ, H)) := x_cond (by rfl) _
theorem x66_3 : execA E C (fg 66) B 8 E0 N c66_3 s = seqX (execA E C (fg 66) B 8 E0 N c66_4 s) (execA E C (fg 66) B 8 E0 N c66_5) := x_seq (by rfl) s
noncomputable def c66_10 : Code := kR c66_2
noncomputable def c66_11 : Code := kL c66_10
noncomputable def r66_3 : Array Oper := kO c66_11
noncomputable def o66_3_0 : Oper := opN r66_3 0
noncomputable def o66_3_1 : Oper := opN r66_3 1
noncomputable def o66_3_2 : Oper := opN r66_3 2
noncomputable def o66_3_3 : Oper := opN r66_3 3
theorem x66_11 : execA E C (fg 66) B 8 E0 N c66_11 s = regX (runA E C B 8 r66_3 r66_3.toList s) (fun s => gcM E0 [0, 4, 5, 6, 7] (forget s.1 [0, 4, 5, 6, 7], s.2)) := x_reg (ops := r66_3) (by rfl) (by rfl) s
theorem r66_3_l : r66_3.toList = [o66_3_0, o66_3_1, o66_3_2, o66_3_3] := nrfl rfl
theorem s66_3_0 : stepA E C B 8 r66_3 o66_3_0 (φ, H) = stp (some 5) φ H (aBuildSlice E.T (B + 5) 22 0 (evO E φ) []) := nrfl rfl
theorem s66_3_1 : stepA E C B 8 r66_3 o66_3_1 (φ, H) = some (fput φ 6 (fget φ 0), H) := nrfl rfl
theorem s66_3_2 : stepA E C B 8 r66_3 o66_3_2 (φ, H) = stp (some 7) φ H (aBuiltin E.T (B + 7) .append #[22, 22] [(fget φ 5), (fget φ 6)]) := nrfl rfl
theorem s66_3_3 : stepA E C B 8 r66_3 o66_3_3 (φ, H) = some (fput φ 2 (fget φ 7), H) := nrfl rfl
noncomputable def c66_12 : Code := kR c66_10
theorem x66_12 : execA E C (fg 66) B 8 E0 N c66_12 s = some (.ret, s) := x_ret (by rfl) s
theorem x66_10 : execA E C (fg 66) B 8 E0 N c66_10 s = seqX (execA E C (fg 66) B 8 E0 N c66_11 s) (execA E C (fg 66) B 8 E0 N c66_12) := x_seq (by rfl) s
theorem x66_2 : execA E C (fg 66) B 8 E0 N c66_2 s = seqX (execA E C (fg 66) B 8 E0 N c66_3 s) (execA E C (fg 66) B 8 E0 N c66_10) := x_seq (by rfl) s
theorem x66_0 : execA E C (fg 66) B 8 E0 N c66_0 s = seqX (execA E C (fg 66) B 8 E0 N c66_1 s) (execA E C (fg 66) B 8 E0 N c66_2) := x_seq (by rfl) s
theorem fi_66 : fInfo E 66 = some ⟨8, #[.tmp 2], c66_0⟩ := nrfl rfl
theorem b_66 (args : List AV) : bodyA E C fg N 66 args H B = bodyX E [.tmp 2] (execA E C (fg 66) B 8 H N c66_0 (frame0 args 0 [], H)) := bodyA_eq fi_66 args H
abbrev F_66 := And.intro (And.intro (And.intro (And.intro @x66_1 (And.intro @r66_0_l @s66_0_0)) (And.intro @x66_4 (And.intro @r66_1_l @s66_1_0))) (And.intro (And.intro @s66_1_1 (And.intro @x66_7 @r66_2_l)) (And.intro (And.intro @s66_2_0 @x66_8) (And.intro @x66_6 @x66_9)))) (And.intro (And.intro (And.intro @x66_5 (And.intro @x66_3 @x66_11)) (And.intro @r66_3_l (And.intro @s66_3_0 @s66_3_1))) (And.intro (And.intro @s66_3_2 (And.intro @s66_3_3 @x66_12)) (And.intro (And.intro @x66_10 @x66_2) (And.intro @x66_0 @b_66))))
noncomputable def c73_0 : Code := kBody Proofs.Try.f73
noncomputable def c73_1 : Code := kL c73_0
noncomputable def r73_0 : Array Oper := kO c73_1
noncomputable def o73_0_0 : Oper := opN r73_0 0
theorem x73_1 : execA E C (fg 73) B 9 E0 N c73_1 s = regX (runA E C B 9 r73_0 r73_0.toList s) (fun s => gcM E0 [4] (forget s.1 [4], s.2)) := x_reg (ops := r73_0) (by rfl) (by rfl) s
theorem r73_0_l : r73_0.toList = [o73_0_0] := nrfl rfl
theorem s73_0_0 : stepA E C B 9 r73_0 o73_0_0 (φ, H) = some (fput φ 4 (.bool false), H) := nrfl rfl
noncomputable def c73_2 : Code := kR c73_0
noncomputable def c73_3 : Code := kL c73_2
noncomputable def r73_1 : Array Oper := kO c73_3
noncomputable def o73_1_0 : Oper := opN r73_1 0
noncomputable def o73_1_1 : Oper := opN r73_1 1
noncomputable def o73_1_2 : Oper := opN r73_1 2
noncomputable def o73_1_3 : Oper := opN r73_1 3
noncomputable def o73_1_4 : Oper := opN r73_1 4
theorem x73_3 : execA E C (fg 73) B 9 E0 N c73_3 s = regX (runA E C B 9 r73_1 r73_1.toList s) (fun s => gcM E0 [0, 1, 5, 6, 7, 8] (forget s.1 [0, 1, 5, 6, 7, 8], s.2)) := x_reg (ops := r73_1) (by rfl) (by rfl) s
theorem r73_1_l : r73_1.toList = [o73_1_0, o73_1_1, o73_1_2, o73_1_3, o73_1_4] := nrfl rfl
theorem s73_1_0 : stepA E C B 9 r73_1 o73_1_0 (φ, H) = some (fput φ 5 (fget φ 0), H) := nrfl rfl
theorem s73_1_1 : stepA E C B 9 r73_1 o73_1_1 (φ, H) = some (fput φ 6 (fget φ 1), H) := nrfl rfl
theorem s73_1_2 : stepA E C B 9 r73_1 o73_1_2 (φ, H) = stp (some 7) φ H (aCall C (fun j => B + j * 9 + 7) true 64 [(fget φ 5), (fget φ 6)]) := nrfl rfl
theorem s73_1_3 : stepA E C B 9 r73_1 o73_1_3 (φ, H) = stp (some 8) φ H (just (aBin E.T .geq 3 (fget φ 7) (.int .i64 0))) := nrfl rfl
theorem s73_1_4 : stepA E C B 9 r73_1 o73_1_4 (φ, H) = some (fput φ 4 (fget φ 8), H) := nrfl rfl
noncomputable def c73_4 : Code := kR c73_2
theorem x73_4 : execA E C (fg 73) B 9 E0 N c73_4 s = some (.ret, s) := x_ret (by rfl) s
theorem x73_2 : execA E C (fg 73) B 9 E0 N c73_2 s = seqX (execA E C (fg 73) B 9 E0 N c73_3 s) (execA E C (fg 73) B 9 E0 N c73_4) := x_seq (by rfl) s
theorem x73_0 : execA E C (fg 73) B 9 E0 N c73_0 s = seqX (execA E C (fg 73) B 9 E0 N c73_1 s) (execA E C (fg 73) B 9 E0 N c73_2) := x_seq (by rfl) s
theorem fi_73 : fInfo E 73 = some ⟨9, #[.tmp 4], c73_0⟩ := nrfl rfl
theorem b_73 (args : List AV) : bodyA E C fg N 73 args H B = bodyX E [.tmp 4] (execA E C (fg 73) B 9 H N c73_0 (frame0 args 0 [], H)) := bodyA_eq fi_73 args H
abbrev F_73 := And.intro (And.intro (And.intro @x73_1 (And.intro @r73_0_l @s73_0_0)) (And.intro (And.intro @x73_3 @r73_1_l) (And.intro @s73_1_0 @s73_1_1))) (And.intro (And.intro @s73_1_2 (And.intro @s73_1_3 @s73_1_4)) (And.intro (And.intro @x73_4 @x73_2) (And.intro @x73_0 @b_73)))
noncomputable def c64_0 : Code := kBody Proofs.Try.f64
noncomputable def c64_1 : Code := kL c64_0
noncomputable def r64_0 : Array Oper := kO c64_1
noncomputable def o64_0_0 : Oper := opN r64_0 0
theorem x64_1 : execA E C (fg 64) B 19 E0 N c64_1 s = regX (runA E C B 19 r64_0 r64_0.toList s) (fun s => gcM E0 [4] (forget s.1 [4], s.2)) := x_reg (ops := r64_0) (by rfl) (by rfl) s
theorem r64_0_l : r64_0.toList = [o64_0_0] := nrfl rfl
theorem s64_0_0 : stepA E C B 19 r64_0 o64_0_0 (φ, H) = some (fput φ 4 (.int .i64 0), H) := nrfl rfl
noncomputable def c64_2 : Code := kR c64_0
noncomputable def c64_3 : Code := kL c64_2
noncomputable def c64_4 : Code := kL c64_3
noncomputable def r64_1 : Array Oper := kO c64_4
noncomputable def o64_1_0 : Oper := opN r64_1 0
noncomputable def o64_1_1 : Oper := opN r64_1 1
noncomputable def o64_1_2 : Oper := opN r64_1 2
theorem x64_4 : execA E C (fg 64) B 19 E0 N c64_4 s = regX (runA E C B 19 r64_1 r64_1.toList s) (fun s => gcM E0 [6] (forget s.1 [6], s.2)) := x_reg (ops := r64_1) (by rfl) (by rfl) s
theorem r64_1_l : r64_1.toList = [o64_1_0, o64_1_1, o64_1_2] := nrfl rfl
theorem s64_1_0 : stepA E C B 19 r64_1 o64_1_0 (φ, H) = some (fput φ 6 (fget φ 0), H) := nrfl rfl
theorem s64_1_1 : stepA E C B 19 r64_1 o64_1_1 (φ, H) = stp (some 7) φ H (aBuiltin E.T (B + 7) .len #[39] [(fget φ 6)]) := nrfl rfl
theorem s64_1_2 : stepA E C B 19 r64_1 o64_1_2 (φ, H) = some (fput φ 8 (.int .i64 0), H) := nrfl rfl
noncomputable def c64_5 : Code := kR c64_3
noncomputable def c64_6 : Code := kB c64_5
noncomputable def c64_7 : Code := kB c64_6
noncomputable def c64_8 : Code := kL c64_7
noncomputable def r64_2 : Array Oper := kO c64_8
noncomputable def o64_2_0 : Oper := opN r64_2 0
theorem x64_8 : execA E C (fg 64) B 19 E0 N c64_8 s = regX (runA E C B 19 r64_2 r64_2.toList s) (fun s => gcM E0 [] (forget s.1 [], s.2)) := x_reg (ops := r64_2) (by rfl) (by rfl) s
theorem r64_2_l : r64_2.toList = [o64_2_0] := nrfl rfl
theorem s64_2_0 : stepA E C B 19 r64_2 o64_2_0 (φ, H) = stp (some 9) φ H (just (aBin E.T .lss 3 (fget φ 8) (fget φ 7))) := nrfl rfl
noncomputable def c64_9 : Code := kR c64_7
noncomputable def c64_10 : Code := kL c64_9
noncomputable def c64_11 : Code := kT c64_10
theorem x64_11 : execA E C (fg 64) B 19 E0 N c64_11 s = some (.normal, s) := x_skip (by rfl) s
noncomputable def c64_12 : Code := kE c64_10
theorem x64_12 : execA E C (fg 64) B 19 E0 N c64_12 s = some (.exit 0, s) := x_exit (by rfl) s
theorem x64_10 : execA E C (fg 64) B 19 E0 N c64_10 (φ, H) = condX (fget φ 9) (execA E C (fg 64) B 19 E0 N c64_11 (φ, H)) (execA E C (fg 64) B 19 E0 N c64_12 (φ, H)) := x_cond (by rfl) _
noncomputable def c64_13 : Code := kR c64_9
noncomputable def c64_14 : Code := kL c64_13
noncomputable def c64_15 : Code := kB c64_14
noncomputable def c64_16 : Code := kL c64_15
noncomputable def r64_3 : Array Oper := kO c64_16
noncomputable def o64_3_0 : Oper := opN r64_3 0
noncomputable def o64_3_1 : Oper := opN r64_3 1
theorem x64_16 : execA E C (fg 64) B 19 E0 N c64_16 s = regX (runA E C B 19 r64_3 r64_3.toList s) (fun s => gcM E0 [9, 10] (forget s.1 [9, 10], s.2)) := x_reg (ops := r64_3) (by rfl) (by rfl) s
theorem r64_3_l : r64_3.toList = [o64_3_0, o64_3_1] := nrfl rfl
theorem s64_3_0 : stepA E C B 19 r64_3 o64_3_0 (φ, H) = some (fput φ 10 (fget φ 8), H) := nrfl rfl
theorem s64_3_1 : stepA E C B 19 r64_3 o64_3_1 (φ, H) = some (fput φ 5 (fget φ 10), H) := nrfl rfl
noncomputable def c64_17 : Code := kR c64_15
noncomputable def c64_18 : Code := kL c64_17
noncomputable def r64_4 : Array Oper := kO c64_18
noncomputable def o64_4_0 : Oper := opN r64_4 0
noncomputable def o64_4_1 : Oper := opN r64_4 1
noncomputable def o64_4_2 : Oper := opN r64_4 2
noncomputable def o64_4_3 : Oper := opN r64_4 3
noncomputable def o64_4_4 : Oper := opN r64_4 4
noncomputable def o64_4_5 : Oper := opN r64_4 5
theorem x64_18 : execA E C (fg 64) B 19 E0 N c64_18 s = regX (runA E C B 19 r64_4 r64_4.toList s) (fun s => gcM E0 [11, 12, 13, 14, 15] (forget s.1 [11, 12, 13, 14, 15], s.2)) := x_reg (ops := r64_4) (by rfl) (by rfl) s
theorem r64_4_l : r64_4.toList = [o64_4_0, o64_4_1, o64_4_2, o64_4_3, o64_4_4, o64_4_5] := nrfl rfl
theorem s64_4_0 : stepA E C B 19 r64_4 o64_4_0 (φ, H) = some (fput φ 11 (fget φ 1), H) := nrfl rfl
theorem s64_4_1 : stepA E C B 19 r64_4 o64_4_1 (φ, H) = some (fput φ 12 (fget φ 0), H) := nrfl rfl
theorem s64_4_2 : stepA E C B 19 r64_4 o64_4_2 (φ, H) = some (fput φ 13 (fget φ 5), H) := nrfl rfl
theorem s64_4_3 : stepA E C B 19 r64_4 o64_4_3 (φ, H) = stp (some 14) φ H (just (aIndexAddr E.T 39 (fget φ 12) (fget φ 13))) := nrfl rfl
theorem s64_4_4 : stepA E C B 19 r64_4 o64_4_4 (φ, H) = stp (some 15) φ H (just (aLoad E.T 22 (fget φ 14))) := nrfl rfl
theorem s64_4_5 : stepA E C B 19 r64_4 o64_4_5 (φ, H) = callV E C (B + 19 * 8) (some 16) (fun j => B + j * 19 + 16) φ H (fget φ 11) [(fget φ 15)] true := nrfl rfl
noncomputable def c64_19 : Code := kR c64_17
noncomputable def c64_20 : Code := kT c64_19
noncomputable def c64_21 : Code := kL c64_20
noncomputable def r64_5 : Array Oper := kO c64_21
noncomputable def o64_5_0 : Oper := opN r64_5 0
noncomputable def o64_5_1 : Oper := opN r64_5 1
theorem x64_21 : execA E C (fg 64) B 19 E0 N c64_21 s = regX (runA E C B 19 r64_5 r64_5.toList s) (fun s => gcM E0 [0, 1, 5, 7, 8, 16, 17] (forget s.1 [0, 1, 5, 7, 8, 16, 17], s.2)) := x_reg (ops := r64_5) (by rfl) (by rfl) s
theorem r64_5_l : r64_5.toList = [o64_5_0, o64_5_1] := nrfl rfl
theorem s64_5_0 : stepA E C B 19 r64_5 o64_5_0 (φ, H) = some (fput φ 17 (fget φ 5), H) := nrfl rfl
theorem s64_5_1 : stepA E C B 19 r64_5 o64_5_1 (φ, H) = some (fput φ 4 (fget φ 17), H) := nrfl rfl
noncomputable def c64_22 : Code := kR c64_20
theorem x64_22 : execA E C (fg 64) B 19 E0 N c64_22 s = some (.ret, s) := x_ret (by rfl) s
theorem x64_20 : execA E C (fg 64) B 19 E0 N c64_20 s = seqX (execA E C (fg 64) B 19 E0 N c64_21 s) (execA E C (fg 64) B 19 E0 N c64_22) := x_seq (by rfl) s
noncomputable def c64_23 : Code := kE c64_19
theorem x64_23 : execA E C (fg 64) B 19 E0 N c64_23 s = some (.normal, s) := x_skip (by rfl) s
theorem x64_19 : execA E C (fg 64) B 19 E0 N c64_19 (φ, H) = condX (fget φ 16) (execA E C (fg 64) B 19 E0 N c64_20 (φ, H)) (execA E C (fg 64) B 19 E0 N c64_23 (φ, H)) := x_cond (by rfl) _
theorem x64_17 : execA E C (fg 64) B 19 E0 N c64_17 s = seqX (execA E C (fg 64) B 19 E0 N c64_18 s) (execA E C (fg 64) B 19 E0 N c64_19) := x_seq (by rfl) s
theorem x64_15 : execA E C (fg 64) B 19 E0 N c64_15 s = seqX (execA E C (fg 64) B 19 E0 N c64_16 s) (execA E C (fg 64) B 19 E0 N c64_17) := x_seq (by rfl) s
theorem x64_14 : execA E C (fg 64) B 19 E0 N c64_14 s = blockX 1 (fun s => (forget s.1 [5, 16], s.2)) (execA E C (fg 64) B 19 E0 N c64_15 s) := x_block (by rfl) (by rfl) s
noncomputable def c64_24 : Code := kR c64_13
noncomputable def r64_6 : Array Oper := kO c64_24
noncomputable def o64_6_0 : Oper := opN r64_6 0
noncomputable def o64_6_1 : Oper := opN r64_6 1
theorem x64_24 : execA E C (fg 64) B 19 E0 N c64_24 s = regX (runA E C B 19 r64_6 r64_6.toList s) (fun s => gcM E0 [18] (forget s.1 [18], s.2)) := x_reg (ops := r64_6) (by rfl) (by rfl) s
theorem r64_6_l : r64_6.toList = [o64_6_0, o64_6_1] := nrfl rfl
theorem s64_6_0 : stepA E C B 19 r64_6 o64_6_0 (φ, H) = stp (some 18) φ H (just (aBin E.T .add 3 (fget φ 8) (.int .i64 1))) := nrfl rfl
theorem s64_6_1 : stepA E C B 19 r64_6 o64_6_1 (φ, H) = some (fput φ 8 (fget φ 18), H) := nrfl rfl
theorem x64_13 : execA E C (fg 64) B 19 E0 N c64_13 s = seqX (execA E C (fg 64) B 19 E0 N c64_14 s) (execA E C (fg 64) B 19 E0 N c64_24) := x_seq (by rfl) s
theorem x64_9 : execA E C (fg 64) B 19 E0 N c64_9 s = seqX (execA E C (fg 64) B 19 E0 N c64_10 s) (execA E C (fg 64) B 19 E0 N c64_13) := x_seq (by rfl) s
theorem x64_7 : execA E C (fg 64) B 19 E0 N c64_7 s = seqX (execA E C (fg 64) B 19 E0 N c64_8 s) (execA E C (fg 64) B 19 E0 N c64_9) := x_seq (by rfl) s
theorem x64_6 : execA E C (fg 64) B 19 E0 N c64_6 s = iterA (execA E C (fg 64) B 19 E0 N c64_7) (headA E0) N s := x_loop (by rfl) s
theorem x64_5 : execA E C (fg 64) B 19 E0 N c64_5 s = blockX 0 (fun s => (forget s.1 [0, 1, 7, 8, 9], s.2)) (execA E C (fg 64) B 19 E0 N c64_6 s) := x_block (by rfl) (by rfl) s
theorem x64_3 : execA E C (fg 64) B 19 E0 N c64_3 s = seqX (execA E C (fg 64) B 19 E0 N c64_4 s) (execA E C (fg 64) B 19 E0 N c64_5) := x_seq (by rfl) s
noncomputable def c64_25 : Code := kR c64_2
noncomputable def c64_26 : Code := kL c64_25
noncomputable def r64_7 : Array Oper := kO c64_26
noncomputable def o64_7_0 : Oper := opN r64_7 0
theorem x64_26 : execA E C (fg 64) B 19 E0 N c64_26 s = regX (runA E C B 19 r64_7 r64_7.toList s) (fun s => gcM E0 [] (forget s.1 [], s.2)) := x_reg (ops := r64_7) (by rfl) (by rfl) s
theorem r64_7_l : r64_7.toList = [o64_7_0] := nrfl rfl
theorem s64_7_0 : stepA E C B 19 r64_7 o64_7_0 (φ, H) = some (fput φ 4 (.int .i64 (-1)), H) := nrfl rfl
noncomputable def c64_27 : Code := kR c64_25
theorem x64_27 : execA E C (fg 64) B 19 E0 N c64_27 s = some (.ret, s) := x_ret (by rfl) s
theorem x64_25 : execA E C (fg 64) B 19 E0 N c64_25 s = seqX (execA E C (fg 64) B 19 E0 N c64_26 s) (execA E C (fg 64) B 19 E0 N c64_27) := x_seq (by rfl) s
theorem x64_2 : execA E C (fg 64) B 19 E0 N c64_2 s = seqX (execA E C (fg 64) B 19 E0 N c64_3 s) (execA E C (fg 64) B 19 E0 N c64_25) := x_seq (by rfl) s
theorem x64_0 : execA E C (fg 64) B 19 E0 N c64_0 s = seqX (execA E C (fg 64) B 19 E0 N c64_1 s) (execA E C (fg 64) B 19 E0 N c64_2) := x_seq (by rfl) s
theorem fi_64 : fInfo E 64 = some ⟨19, #[.tmp 4], c64_0⟩ := nrfl rfl
theorem b_64 (args : List AV) : bodyA E C fg N 64 args H B = bodyX E [.tmp 4] (execA E C (fg 64) B 19 H N c64_0 (frame0 args 0 [], H)) := bodyA_eq fi_64 args H
abbrev F_64 := And.intro (And.intro (And.intro (And.intro (And.intro @x64_1 (And.intro @r64_0_l @s64_0_0)) (And.intro @x64_4 (And.intro @r64_1_l @s64_1_0))) (And.intro (And.intro @s64_1_1 (And.intro @s64_1_2 @x64_8)) (And.intro (And.intro @r64_2_l @s64_2_0) (And.intro @x64_11 @x64_12)))) (And.intro (And.intro (And.intro @x64_10 (And.intro @x64_16 @r64_3_l)) (And.intro (And.intro @s64_3_0 @s64_3_1) (And.intro @x64_18 @r64_4_l))) (And.intro (And.intro @s64_4_0 (And.intro @s64_4_1 @s64_4_2)) (And.intro (And.intro @s64_4_3 @s64_4_4) (And.intro @s64_4_5 @x64_21))))) (And.intro (And.intro (And.intro (And.intro @r64_5_l (And.intro @s64_5_0 @s64_5_1)) (And.intro (And.intro @x64_22 @x64_20) (And.intro @x64_23 @x64_19))) (And.intro (And.intro @x64_17 (And.intro @x64_15 @x64_14)) (And.intro (And.intro @x64_24 @r64_6_l) (And.intro @s64_6_0 @s64_6_1)))) (And.intro (And.intro (And.intro @x64_13 (And.intro @x64_9 @x64_7)) (And.intro (And.intro @x64_6 @x64_5) (And.intro @x64_3 @x64_26))) (And.intro (And.intro @r64_7_l (And.intro @s64_7_0 @x64_27)) (And.intro (And.intro @x64_25 @x64_2) (And.intro @x64_0 @b_64)))))
end Go.AM.Ytfmnoohhhokicaa
end

section
namespace Go.AM.Ytfmnoohhhokicaa
open Go Go.AM
set_option maxRecDepth 100000
variable {C : Callee} {B N : Nat} {E0 : AHeap} (φ : AFr) (H : AHeap) (s : St)
noncomputable def c24_0 : Code := kBody Proofs.Try.f24
noncomputable def c24_1 : Code := kL c24_0
noncomputable def r24_0 : Array Oper := kO c24_1
noncomputable def o24_0_0 : Oper := opN r24_0 0
theorem x24_1 : execA E C (fg 24) B 26 E0 N c24_1 s = regX (runA E C B 26 r24_0 r24_0.toList s) (fun s => gcM E0 [4] (forget s.1 [4], s.2)) := x_reg (ops := r24_0) (by rfl) (by rfl) s
theorem r24_0_l : r24_0.toList = [o24_0_0] := nrfl rfl
theorem s24_0_0 : stepA E C B 26 r24_0 o24_0_0 (φ, H) = some (fput φ 4 (.bool false), H) := nrfl rfl
noncomputable def c24_2 : Code := kR c24_0
noncomputable def c24_3 : Code := kL c24_2
noncomputable def c24_4 : Code := kL c24_3
noncomputable def r24_1 : Array Oper := kO c24_4
noncomputable def o24_1_0 : Oper := opN r24_1 0
noncomputable def o24_1_1 : Oper := opN r24_1 1
noncomputable def o24_1_2 : Oper := opN r24_1 2
noncomputable def o24_1_3 : Oper := opN r24_1 3
noncomputable def o24_1_4 : Oper := opN r24_1 4
theorem x24_4 : execA E C (fg 24) B 26 E0 N c24_4 s = regX (runA E C B 26 r24_1 r24_1.toList s) (fun s => gcM E0 [6, 7, 8, 9] (forget s.1 [6, 7, 8, 9], s.2)) := x_reg (ops := r24_1) (by rfl) (by rfl) s
theorem r24_1_l : r24_1.toList = [o24_1_0, o24_1_1, o24_1_2, o24_1_3, o24_1_4] := nrfl rfl
theorem s24_1_0 : stepA E C B 26 r24_1 o24_1_0 (φ, H) = some (fput φ 6 (fget φ 0), H) := nrfl rfl
theorem s24_1_1 : stepA E C B 26 r24_1 o24_1_1 (φ, H) = stp (some 7) φ H (aBuiltin E.T (B + 7) .len #[22] [(fget φ 6)]) := nrfl rfl
theorem s24_1_2 : stepA E C B 26 r24_1 o24_1_2 (φ, H) = some (fput φ 8 (fget φ 1), H) := nrfl rfl
theorem s24_1_3 : stepA E C B 26 r24_1 o24_1_3 (φ, H) = stp (some 9) φ H (aBuiltin E.T (B + 9) .len #[22] [(fget φ 8)]) := nrfl rfl
theorem s24_1_4 : stepA E C B 26 r24_1 o24_1_4 (φ, H) = stp (some 10) φ H (just (aBin E.T .neq 3 (fget φ 7) (fget φ 9))) := nrfl rfl
noncomputable def c24_5 : Code := kR c24_3
noncomputable def c24_6 : Code := kT c24_5
noncomputable def c24_7 : Code := kL c24_6
noncomputable def r24_2 : Array Oper := kO c24_7
noncomputable def o24_2_0 : Oper := opN r24_2 0
theorem x24_7 : execA E C (fg 24) B 26 E0 N c24_7 s = regX (runA E C B 26 r24_2 r24_2.toList s) (fun s => gcM E0 [0, 1, 10] (forget s.1 [0, 1, 10], s.2)) := x_reg (ops := r24_2) (by rfl) (by rfl) s
theorem r24_2_l : r24_2.toList = [o24_2_0] := nrfl rfl
theorem s24_2_0 : stepA E C B 26 r24_2 o24_2_0 (φ, H) = some (fput φ 4 (.bool false), H) := nrfl rfl
noncomputable def c24_8 : Code := kR c24_6
theorem x24_8 : execA E C (fg 24) B 26 E0 N c24_8 s = some (.ret, s) := x_ret (by rfl) s
theorem x24_6 : execA E C (fg 24) B 26 E0 N c24_6 s = seqX (execA E C (fg 24) B 26 E0 N c24_7 s) (execA E C (fg 24) B 26 E0 N c24_8) := x_seq (by rfl) s
noncomputable def c24_9 : Code := kE c24_5
theorem x24_9 : execA E C (fg 24) B 26 E0 N c24_9 s = some (.normal, s) := x_skip (by rfl) s
theorem x24_5 : execA E C (fg 24) B 26 E0 N c24_5 (φ, H) = condX (fget φ 10) (execA E C (fg 24) B 26 E0 N c24_6 (φ, H)) (execA E C (fg 24) B 26 E0 N c24_9 (φ, H)) := x_cond (by rfl) _
theorem x24_3 : execA E C (fg 24) B 26 E0 N c24_3 s = seqX (execA E C (fg 24) B 26 E0 N c24_4 s) (execA E C (fg 24) B 26 E0 N c24_5) := x_seq (by rfl) s
noncomputable def c24_10 : Code := kR c24_2
noncomputable def c24_11 : Code := kL c24_10
noncomputable def c24_12 : Code := kL c24_11
noncomputable def r24_3 : Array Oper := kO c24_12
noncomputable def o24_3_0 : Oper := opN r24_3 0
theorem x24_12 : execA E C (fg 24) B 26 E0 N c24_12 s = regX (runA E C B 26 r24_3 r24_3.toList s) (fun s => gcM E0 [10] (forget s.1 [10], s.2)) := x_reg (ops := r24_3) (by rfl) (by rfl) s
theorem r24_3_l : r24_3.toList = [o24_3_0] := nrfl rfl
theorem s24_3_0 : stepA E C B 26 r24_3 o24_3_0 (φ, H) = some (fput φ 5 (.int .i64 0), H) := nrfl rfl
noncomputable def c24_13 : Code := kR c24_11
noncomputable def c24_14 : Code := kB c24_13
noncomputable def c24_15 : Code := kB c24_14
noncomputable def c24_16 : Code := kL c24_15
noncomputable def c24_17 : Code := kL c24_16
noncomputable def r24_4 : Array Oper := kO c24_17
noncomputable def o24_4_0 : Oper := opN r24_4 0
noncomputable def o24_4_1 : Oper := opN r24_4 1
noncomputable def o24_4_2 : Oper := opN r24_4 2
noncomputable def o24_4_3 : Oper := opN r24_4 3
theorem x24_17 : execA E C (fg 24) B 26 E0 N c24_17 s = regX (runA E C B 26 r24_4 r24_4.toList s) (fun s => gcM E0 [11, 12, 13] (forget s.1 [11, 12, 13], s.2)) := x_reg (ops := r24_4) (by rfl) (by rfl) s
theorem r24_4_l : r24_4.toList = [o24_4_0, o24_4_1, o24_4_2, o24_4_3] := nrfl rfl
theorem s24_4_0 : stepA E C B 26 r24_4 o24_4_0 (φ, H) = some (fput φ 11 (fget φ 5), H) := nrfl rfl
theorem s24_4_1 : stepA E C B 26 r24_4 o24_4_1 (φ, H) = some (fput φ 12 (fget φ 0), H) := nrfl rfl
theorem s24_4_2 : stepA E C B 26 r24_4 o24_4_2 (φ, H) = stp (some 13) φ H (aBuiltin E.T (B + 13) .len #[22] [(fget φ 12)]) := nrfl rfl
theorem s24_4_3 : stepA E C B 26 r24_4 o24_4_3 (φ, H) = stp (some 14) φ H (just (aBin E.T .lss 3 (fget φ 11) (fget φ 13))) := nrfl rfl
noncomputable def c24_18 : Code := kR c24_16
noncomputable def c24_19 : Code := kT c24_18
theorem x24_19 : execA E C (fg 24) B 26 E0 N c24_19 s = some (.normal, s) := x_skip (by rfl) s
noncomputable def c24_20 : Code := kE c24_18
theorem x24_20 : execA E C (fg 24) B 26 E0 N c24_20 s = some (.exit 0, s) := x_exit (by rfl) s
theorem x24_18 : execA E C (fg 24) B 26 E0 N c24_18 (φ, H) = condX (fget φ 14) (execA E C (fg 24) B 26 E0 N c24_19 (φ, H)) (execA E C (fg 24) B 26 E0 N c24_20 (φ, H)) := x_cond (by rfl) _
theorem x24_16 : execA E C (fg 24) B 26 E0 N c24_16 s = seqX (execA E C (fg 24) B 26 E0 N c24_17 s) (execA E C (fg 24) B 26 E0 N c24_18) := x_seq (by rfl) s
noncomputable def c24_21 : Code := kR c24_15
noncomputable def c24_22 : Code := kL c24_21
noncomputable def c24_23 : Code := kB c24_22
noncomputable def c24_24 : Code := kL c24_23
noncomputable def r24_6 : Array Oper := kO c24_24
noncomputable def o24_6_0 : Oper := opN r24_6 0
noncomputable def o24_6_1 : Oper := opN r24_6 1
noncomputable def o24_6_2 : Oper := opN r24_6 2
noncomputable def o24_6_3 : Oper := opN r24_6 3
noncomputable def o24_6_4 : Oper := opN r24_6 4
noncomputable def o24_6_5 : Oper := opN r24_6 5
noncomputable def o24_6_6 : Oper := opN r24_6 6
noncomputable def o24_6_7 : Oper := opN r24_6 7
noncomputable def o24_6_8 : Oper := opN r24_6 8
theorem x24_24 : execA E C (fg 24) B 26 E0 N c24_24 s = regX (drawA E C B 26 r24_6 s) (fun s => gcM E0 [14, 17, 18, 19, 20, 21, 22, 23, 24] (forget s.1 [14, 17, 18, 19, 20, 21, 22, 23, 24], s.2)) := x_draw (ops := r24_6) (by rfl) (by rfl) s
theorem r24_6_l : r24_6.toList = [o24_6_0, o24_6_1, o24_6_2, o24_6_3, o24_6_4, o24_6_5, o24_6_6, o24_6_7, o24_6_8] := nrfl rfl
theorem r24_6_st : statOk r24_6 = true := by kernel_rfl
theorem r24_6_dr : drawA E C B 26 r24_6 s = if neat 26 s = true then drX r24_6 (runT E C B 26 r24_6 r24_6.toList 0 s) else none := draw_eq r24_6_st s
theorem r24_6_an (l : List (Nat × Tr)) : dynOk r24_6 l = (!writing l || dynPairs [[], [], [0, 1], [0, 1, 2], [], [], [4, 5], [4, 5, 6], [0, 1, 2, 3, 4, 5, 6, 7]] (touching l)) := dynOk_eq (by kernel_rfl) l
theorem s24_6_0 : stepT E C B 26 r24_6 o24_6_0 (φ, H) = some ((fput φ 17 (fget φ 0), H), ⟨false, [], []⟩) := stT_go rfl (goT_mv rfl rfl)
theorem s24_6_1 : stepT E C B 26 r24_6 o24_6_1 (φ, H) = some ((fput φ 18 (fget φ 5), H), ⟨false, [], []⟩) := stT_go rfl (goT_mv rfl rfl)
theorem s24_6_2 : stepT E C B 26 r24_6 o24_6_2 (φ, H) = stpT (some 19) φ H (just (aIndexAddr E.T 22 (fget φ 17) (fget φ 18))) := stT_go rfl (goT_R rfl rfl)
theorem s24_6_3 : stepT E C B 26 r24_6 o24_6_3 (φ, H) = stpT (some 20) φ H (just (aLoad E.T 3 (fget φ 19))) := stT_go rfl (goT_R rfl rfl)
theorem s24_6_4 : stepT E C B 26 r24_6 o24_6_4 (φ, H) = some ((fput φ 21 (fget φ 1), H), ⟨false, [], []⟩) := stT_go rfl (goT_mv rfl rfl)
theorem s24_6_5 : stepT E C B 26 r24_6 o24_6_5 (φ, H) = some ((fput φ 22 (fget φ 5), H), ⟨false, [], []⟩) := stT_go rfl (goT_mv rfl rfl)
theorem s24_6_6 : stepT E C B 26 r24_6 o24_6_6 (φ, H) = stpT (some 23) φ H (just (aIndexAddr E.T 22 (fget φ 21) (fget φ 22))) := stT_go rfl (goT_R rfl rfl)
theorem s24_6_7 : stepT E C B 26 r24_6 o24_6_7 (φ, H) = stpT (some 24) φ H (just (aLoad E.T 3 (fget φ 23))) := stT_go rfl (goT_R rfl rfl)
theorem s24_6_8 : stepT E C B 26 r24_6 o24_6_8 (φ, H) = stpT (some 25) φ H (just (aBin E.T .neq 3 (fget φ 20) (fget φ 24))) := stT_go rfl (goT_R rfl rfl)
noncomputable def c24_25 : Code := kR c24_23
noncomputable def c24_26 : Code := kT c24_25
noncomputable def c24_27 : Code := kL c24_26
noncomputable def r24_7 : Array Oper := kO c24_27
noncomputable def o24_7_0 : Oper := opN r24_7 0
theorem x24_27 : execA E C (fg 24) B 26 E0 N c24_27 s = regX (runA E C B 26 r24_7 r24_7.toList s) (fun s => gcM E0 [0, 1, 5, 25] (forget s.1 [0, 1, 5, 25], s.2)) := x_reg (ops := r24_7) (by rfl) (by rfl) s
theorem r24_7_l : r24_7.toList = [o24_7_0] := nrfl rfl
theorem s24_7_0 : stepA E C B 26 r24_7 o24_7_0 (φ, H) = some (fput φ 4 (.bool false), H) := nrfl rfl
noncomputable def c24_28 : Code := kR c24_26
theorem x24_28 : execA E C (fg 24) B 26 E0 N c24_28 s = some (.ret, s) := x_ret (by rfl) s
theorem x24_26 : execA E C (fg 24) B 26 E0 N c24_26 s = seqX (execA E C (fg 24) B 26 E0 N c24_27 s) (execA E C (fg 24) B 26 E0 N c24_28) := x_seq (by rfl) s
noncomputable def c24_29 : Code := kE c24_25
theorem x24_29 : execA E C (fg 24) B 26 E0 N c24_29 s = some (.normal, s) := x_skip (by rfl) s
theorem x24_25 : execA E C (fg 24) B 26 E0 N c24_25 (φ, H) = condX (fget φ 25) (execA E C (fg 24) B 26 E0 N c24_26 (φ, H)) (execA E C (fg 24) B 26 E0 N c24_29 (φ, H)) := x_cond (by rfl) _
theorem x24_23 : execA E C (fg 24) B 26 E0 N c24_23 s = seqX (execA E C (fg 24) B 26 E0 N c24_24 s) (execA E C (fg 24) B 26 E0 N c24_25) := x_seq (by rfl) s
theorem x24_22 : execA E C (fg 24) B 26 E0 N c24_22 s = blockX 1 (fun s => (forget s.1 [25], s.2)) (execA E C (fg 24) B 26 E0 N c24_23 s) := x_block (by rfl) (by rfl) s
noncomputable def c24_30 : Code := kR c24_21
noncomputable def r24_5 : Array Oper := kO c24_30
noncomputable def o24_5_0 : Oper := opN r24_5 0
noncomputable def o24_5_1 : Oper := opN r24_5 1
noncomputable def o24_5_2 : Oper := opN r24_5 2
theorem x24_30 : execA E C (fg 24) B 26 E0 N c24_30 s = regX (runA E C B 26 r24_5 r24_5.toList s) (fun s => gcM E0 [15, 16] (forget s.1 [15, 16], s.2)) := x_reg (ops := r24_5) (by rfl) (by rfl) s
theorem r24_5_l : r24_5.toList = [o24_5_0, o24_5_1, o24_5_2] := nrfl rfl
theorem s24_5_0 : stepA E C B 26 r24_5 o24_5_0 (φ, H) = some (fput φ 15 (fget φ 5), H) := nrfl rfl
theorem s24_5_1 : stepA E C B 26 r24_5 o24_5_1 (φ, H) = stp (some 16) φ H (just (aBin E.T .add 3 (fget φ 15) (.int .i64 1))) := nrfl rfl
theorem s24_5_2 : stepA E C B 26 r24_5 o24_5_2 (φ, H) = some (fput φ 5 (fget φ 16), H) := nrfl rfl
theorem x24_21 : execA E C (fg 24) B 26 E0 N c24_21 s = seqX (execA E C (fg 24) B 26 E0 N c24_22 s) (execA E C (fg 24) B 26 E0 N c24_30) := x_seq (by rfl) s
theorem x24_15 : execA E C (fg 24) B 26 E0 N c24_15 s = seqX (execA E C (fg 24) B 26 E0 N c24_16 s) (execA E C (fg 24) B 26 E0 N c24_21) := x_seq (by rfl) s
theorem x24_14 : execA E C (fg 24) B 26 E0 N c24_14 s = iterA (execA E C (fg 24) B 26 E0 N c24_15) (headA E0) N s := x_loop (by rfl) s
theorem x24_13 : execA E C (fg 24) B 26 E0 N c24_13 s = blockX 0 (fun s => (forget s.1 [0, 1, 5, 14], s.2)) (execA E C (fg 24) B 26 E0 N c24_14 s) := x_block (by rfl) (by rfl) s
theorem x24_11 : execA E C (fg 24) B 26 E0 N c24_11 s = seqX (execA E C (fg 24) B 26 E0 N c24_12 s) (execA E C (fg 24) B 26 E0 N c24_13) := x_seq (by rfl) s
noncomputable def c24_31 : Code := kR c24_10
noncomputable def c24_32 : Code := kL c24_31
noncomputable def r24_8 : Array Oper := kO c24_32
noncomputable def o24_8_0 : Oper := opN r24_8 0
theorem x24_32 : execA E C (fg 24) B 26 E0 N c24_32 s = regX (runA E C B 26 r24_8 r24_8.toList s) (fun s => gcM E0 [] (forget s.1 [], s.2)) := x_reg (ops := r24_8) (by rfl) (by rfl) s
theorem r24_8_l : r24_8.toList = [o24_8_0] := nrfl rfl
theorem s24_8_0 : stepA E C B 26 r24_8 o24_8_0 (φ, H) = some (fput φ 4 (.bool true), H) := nrfl rfl
noncomputable def c24_33 : Code := kR c24_31
theorem x24_33 : execA E C (fg 24) B 26 E0 N c24_33 s = some (.ret, s) := x_ret (by rfl) s
theorem x24_31 : execA E C (fg 24) B 26 E0 N c24_31 s = seqX (execA E C (fg 24) B 26 E0 N c24_32 s) (execA E C (fg 24) B 26 E0 N c24_33) := x_seq (by rfl) s
theorem x24_10 : execA E C (fg 24) B 26 E0 N c24_10 s = seqX (execA E C (fg 24) B 26 E0 N c24_11 s) (execA E C (fg 24) B 26 E0 N c24_31) := x_seq (by rfl) s
theorem x24_2 : execA E C (fg 24) B 26 E0 N c24_2 s = seqX (execA E C (fg 24) B 26 E0 N c24_3 s) (execA E C (fg 24) B 26 E0 N c24_10) := x_seq (by rfl) s
theorem x24_0 : execA E C (fg 24) B 26 E0 N c24_0 s = seqX (execA E C (fg 24) B 26 E0 N c24_1 s) (execA E C (fg 24) B 26 E0 N c24_2) := x_seq (by rfl) s
theorem fi_24 : fInfo E 24 = some ⟨26, #[.tmp 4], c24_0⟩ := nrfl rfl
theorem b_24 (args : List AV) : bodyA E C fg N 24 args H B = bodyX E [.tmp 4] (execA E C (fg 24) B 26 H N c24_0 (frame0 args 0 [], H)) := bodyA_eq fi_24 args H
abbrev F_24 := And.intro (And.intro (And.intro (And.intro (And.intro (And.intro @x24_1 @r24_0_l) (And.intro @s24_0_0 @x24_4)) (And.intro (And.intro @r24_1_l @s24_1_0) (And.intro @s24_1_1 (And.intro @s24_1_2 @s24_1_3)))) (And.intro (And.intro (And.intro @s24_1_4 @x24_7) (And.intro @r24_2_l @s24_2_0)) (And.intro (And.intro @x24_8 @x24_6) (And.intro @x24_9 (And.intro @x24_5 @x24_3))))) (And.intro (And.intro (And.intro (And.intro @x24_12 @r24_3_l) (And.intro @s24_3_0 @x24_17)) (And.intro (And.intro @r24_4_l @s24_4_0) (And.intro @s24_4_1 (And.intro @s24_4_2 @s24_4_3)))) (And.intro (And.intro (And.intro @x24_19 @x24_20) (And.intro @x24_18 @x24_16)) (And.intro (And.intro @x24_24 @r24_6_l) (And.intro @r24_6_dr (And.intro @r24_6_an @s24_6_0)))))) (And.intro (And.intro (And.intro (And.intro (And.intro @s24_6_1 @s24_6_2) (And.intro @s24_6_3 @s24_6_4)) (And.intro (And.intro @s24_6_5 @s24_6_6) (And.intro @s24_6_7 (And.intro @s24_6_8 @x24_27)))) (And.intro (And.intro (And.intro @r24_7_l @s24_7_0) (And.intro @x24_28 @x24_26)) (And.intro (And.intro @x24_29 @x24_25) (And.intro @x24_23 (And.intro @x24_22 @x24_30))))) (And.intro (And.intro (And.intro (And.intro @r24_5_l @s24_5_0) (And.intro @s24_5_1 @s24_5_2)) (And.intro (And.intro @x24_21 @x24_15) (And.intro @x24_14 (And.intro @x24_13 @x24_11)))) (And.intro (And.intro (And.intro @x24_32 @r24_8_l) (And.intro @s24_8_0 @x24_33)) (And.intro (And.intro @x24_31 @x24_10) (And.intro @x24_2 (And.intro @x24_0 @b_24))))))
noncomputable def c56_0 : Code := kBody Proofs.Try.f56
noncomputable def c56_1 : Code := kL c56_0
noncomputable def r56_0 : Array Oper := kO c56_1
noncomputable def o56_0_0 : Oper := opN r56_0 0
noncomputable def o56_0_1 : Oper := opN r56_0 1
theorem x56_1 : execA E C (fg 56) B 40 E0 N c56_1 s = regX (runA E C B 40 r56_0 r56_0.toList s) (fun s => gcM E0 [0, 6] (forget s.1 [0, 6], s.2)) := x_reg (ops := r56_0) (by rfl) (by rfl) s
theorem r56_0_l : r56_0.toList = [o56_0_0, o56_0_1] := nrfl rfl
theorem s56_0_0 : stepA E C B 40 r56_0 o56_0_0 (φ, H) = stp (some 3) φ H (opBox (B + 3) (acells (fget φ 0))) := nrfl rfl
theorem s56_0_1 : stepA E C B 40 r56_0 o56_0_1 (φ, H) = some (fput φ 6 (.nilsl), H) := nrfl rfl
noncomputable def c56_2 : Code := kR c56_0
noncomputable def c56_3 : Code := kL c56_2
noncomputable def r56_1 : Array Oper := kO c56_3
noncomputable def o56_1_0 : Oper := opN r56_1 0
theorem x56_3 : execA E C (fg 56) B 40 E0 N c56_3 s = regX (runA E C B 40 r56_1 r56_1.toList s) (fun s => gcM E0 [] (forget s.1 [], s.2)) := x_reg (ops := r56_1) (by rfl) (by rfl) s
theorem r56_1_l : r56_1.toList = [o56_1_0] := nrfl rfl
theorem s56_1_0 : stepA E C B 40 r56_1 o56_1_0 (φ, H) = some (fput φ 7 (.nilsl), H) := nrfl rfl
noncomputable def c56_4 : Code := kR c56_2
noncomputable def c56_5 : Code := kL c56_4
noncomputable def c56_6 : Code := kL c56_5
noncomputable def r56_2 : Array Oper := kO c56_6
noncomputable def o56_2_0 : Oper := opN r56_2 0
noncomputable def o56_2_1 : Oper := opN r56_2 1
noncomputable def o56_2_2 : Oper := opN r56_2 2
noncomputable def o56_2_3 : Oper := opN r56_2 3
noncomputable def o56_2_4 : Oper := opN r56_2 4
noncomputable def o56_2_5 : Oper := opN r56_2 5
noncomputable def o56_2_6 : Oper := opN r56_2 6
noncomputable def o56_2_7 : Oper := opN r56_2 7
noncomputable def o56_2_8 : Oper := opN r56_2 8
noncomputable def o56_2_9 : Oper := opN r56_2 9
theorem x56_6 : execA E C (fg 56) B 40 E0 N c56_6 s = regX (runA E C B 40 r56_2 r56_2.toList s) (fun s => gcM E0 [1, 10, 11, 12, 13, 14, 15, 16] (forget s.1 [1, 10, 11, 12, 13, 14, 15, 16], s.2)) := x_reg (ops := r56_2) (by rfl) (by rfl) s
theorem r56_2_l : r56_2.toList = [o56_2_0, o56_2_1, o56_2_2, o56_2_3, o56_2_4, o56_2_5, o56_2_6, o56_2_7, o56_2_8, o56_2_9] := nrfl rfl
theorem s56_2_0 : stepA E C B 40 r56_2 o56_2_0 (φ, H) = stp (some 10) φ H (just (aFieldAddr E.T 49 (fget φ 3) 2)) := nrfl rfl
theorem s56_2_1 : stepA E C B 40 r56_2 o56_2_1 (φ, H) = stp (some 11) φ H (just (aFieldAddr E.T 49 (fget φ 3) 0)) := nrfl rfl
theorem s56_2_2 : stepA E C B 40 r56_2 o56_2_2 (φ, H) = stp (some 12) φ H (just (aLoad E.T 5 (fget φ 11))) := nrfl rfl
theorem s56_2_3 : stepA E C B 40 r56_2 o56_2_3 (φ, H) = stp (some 13) φ H (justO (aConv E.T 5 3 (fget φ 12))) := nrfl rfl
theorem s56_2_4 : stepA E C B 40 r56_2 o56_2_4 (φ, H) = some (fput φ 14 (fget φ 1), H) := nrfl rfl
theorem s56_2_5 : stepA E C B 40 r56_2 o56_2_5 (φ, H) = stp (some 15) φ H (just (aBin E.T .rem 3 (fget φ 13) (fget φ 14))) := nrfl rfl
theorem s56_2_6 : stepA E C B 40 r56_2 o56_2_6 (φ, H) = stp (some 16) φ H (just (aBin E.T .add 3 (.int .i64 1) (fget φ 15))) := nrfl rfl
theorem s56_2_7 : stepA E C B 40 r56_2 o56_2_7 (φ, H) = stp (some 17) φ H (just (aSlice E.T 47 (fget φ 10) none (some (fget φ 16)) none)) := nrfl rfl
theorem s56_2_8 : stepA E C B 40 r56_2 o56_2_8 (φ, H) = stp (some 18) φ H (aBuiltin E.T (B + 18) .len #[93] [(fget φ 17)]) := nrfl rfl
theorem s56_2_9 : stepA E C B 40 r56_2 o56_2_9 (φ, H) = some (fput φ 19 (.int .i64 0), H) := nrfl rfl
noncomputable def c56_7 : Code := kR c56_5
noncomputable def c56_8 : Code := kB c56_7
noncomputable def c56_9 : Code := kB c56_8
noncomputable def c56_10 : Code := kL c56_9
noncomputable def r56_3 : Array Oper := kO c56_10
noncomputable def o56_3_0 : Oper := opN r56_3 0
theorem x56_10 : execA E C (fg 56) B 40 E0 N c56_10 s = regX (runA E C B 40 r56_3 r56_3.toList s) (fun s => gcM E0 [] (forget s.1 [], s.2)) := x_reg (ops := r56_3) (by rfl) (by rfl) s
theorem r56_3_l : r56_3.toList = [o56_3_0] := nrfl rfl
theorem s56_3_0 : stepA E C B 40 r56_3 o56_3_0 (φ, H) = stp (some 20) φ H (just (aBin E.T .lss 3 (fget φ 19) (fget φ 18))) := nrfl rfl
noncomputable def c56_11 : Code := kR c56_9
noncomputable def c56_12 : Code := kL c56_11
noncomputable def c56_13 : Code := kT c56_12
theorem x56_13 : execA E C (fg 56) B 40 E0 N c56_13 s = some (.normal, s) := x_skip (by rfl) s
noncomputable def c56_14 : Code := kE c56_12
theorem x56_14 : execA E C (fg 56) B 40 E0 N c56_14 s = some (.exit 0, s) := x_exit (by rfl) s
theorem x56_12 : execA E C (fg 56) B 40 E0 N c56_12 (φ, H) = condX (fget φ 20) (execA E C (fg 56) B 40 E0 N c56_13 (φ, H)) (execA E C (fg 56) B 40 E0 N c56_14 (φ, H)) := x_cond (by rfl) _
noncomputable def c56_15 : Code := kR c56_11
noncomputable def c56_16 : Code := kL c56_15
noncomputable def c56_17 : Code := kB c56_16
noncomputable def c56_18 : Code := kL c56_17
noncomputable def r56_4 : Array Oper := kO c56_18
noncomputable def o56_4_0 : Oper := opN r56_4 0
noncomputable def o56_4_1 : Oper := opN r56_4 1
noncomputable def o56_4_2 : Oper := opN r56_4 2
theorem x56_18 : execA E C (fg 56) B 40 E0 N c56_18 s = regX (runA E C B 40 r56_4 r56_4.toList s) (fun s => gcM E0 [20, 21, 22] (forget s.1 [20, 21, 22], s.2)) := x_reg (ops := r56_4) (by rfl) (by rfl) s
theorem r56_4_l : r56_4.toList = [o56_4_0, o56_4_1, o56_4_2] := nrfl rfl
theorem s56_4_0 : stepA E C B 40 r56_4 o56_4_0 (φ, H) = stp (some 21) φ H (just (aIndexAddr E.T 93 (fget φ 17) (fget φ 19))) := nrfl rfl
theorem s56_4_1 : stepA E C B 40 r56_4 o56_4_1 (φ, H) = stp (some 22) φ H (just (aLoad E.T 5 (fget φ 21))) := nrfl rfl
theorem s56_4_2 : stepA E C B 40 r56_4 o56_4_2 (φ, H) = some (fput φ 9 (fget φ 22), H) := nrfl rfl
noncomputable def c56_19 : Code := kR c56_17
noncomputable def r56_5 : Array Oper := kO c56_19
noncomputable def o56_5_0 : Oper := opN r56_5 0
noncomputable def o56_5_1 : Oper := opN r56_5 1
noncomputable def o56_5_2 : Oper := opN r56_5 2
noncomputable def o56_5_3 : Oper := opN r56_5 3
noncomputable def o56_5_4 : Oper := opN r56_5 4
noncomputable def o56_5_5 : Oper := opN r56_5 5
noncomputable def o56_5_6 : Oper := opN r56_5 6
noncomputable def o56_5_7 : Oper := opN r56_5 7
noncomputable def o56_5_8 : Oper := opN r56_5 8
noncomputable def o56_5_9 : Oper := opN r56_5 9
noncomputable def o56_5_10 : Oper := opN r56_5 10
noncomputable def o56_5_11 : Oper := opN r56_5 11
noncomputable def o56_5_12 : Oper := opN r56_5 12
noncomputable def o56_5_13 : Oper := opN r56_5 13
theorem x56_19 : execA E C (fg 56) B 40 E0 N c56_19 s = regX (runA E C B 40 r56_5 r56_5.toList s) (fun s => gcM E0 [9, 23, 24, 25, 26, 27, 28, 29, 30, 31, 32, 33, 34, 35] (forget s.1 [9, 23, 24, 25, 26, 27, 28, 29, 30, 31, 32, 33, 34, 35], s.2)) := x_reg (ops := r56_5) (by rfl) (by rfl) s
theorem r56_5_l : r56_5.toList = [o56_5_0, o56_5_1, o56_5_2, o56_5_3, o56_5_4, o56_5_5, o56_5_6, o56_5_7, o56_5_8, o56_5_9, o56_5_10, o56_5_11, o56_5_12, o56_5_13] := nrfl rfl
theorem s56_5_0 : stepA E C B 40 r56_5 o56_5_0 (φ, H) = some (fput φ 23 (fget φ 7), H) := nrfl rfl
theorem s56_5_1 : stepA E C B 40 r56_5 o56_5_1 (φ, H) = some (fput φ 24 (fget φ 9), H) := nrfl rfl
theorem s56_5_2 : stepA E C B 40 r56_5 o56_5_2 (φ, H) = stp (some 25) φ H (justO (aConv E.T 5 3 (fget φ 24))) := nrfl rfl
theorem s56_5_3 : stepA E C B 40 r56_5 o56_5_3 (φ, H) = stp (some 26) φ H (just (aFieldAddr E.T 49 (fget φ 3) 1)) := nrfl rfl
theorem s56_5_4 : stepA E C B 40 r56_5 o56_5_4 (φ, H) = stp (some 27) φ H (just (aLoad E.T 5 (fget φ 26))) := nrfl rfl
theorem s56_5_5 : stepA E C B 40 r56_5 o56_5_5 (φ, H) = stp (some 28) φ H (justO (aConv E.T 5 3 (fget φ 27))) := nrfl rfl
theorem s56_5_6 : stepA E C B 40 r56_5 o56_5_6 (φ, H) = some (fput φ 29 (fget φ 2), H) := nrfl rfl
theorem s56_5_7 : stepA E C B 40 r56_5 o56_5_7 (φ, H) = stp (some 30) φ H (just (aBin E.T .rem 3 (fget φ 28) (fget φ 29))) := nrfl rfl
theorem s56_5_8 : stepA E C B 40 r56_5 o56_5_8 (φ, H) = stp (some 31) φ H (just (aBin E.T .add 3 (.int .i64 1) (fget φ 30))) := nrfl rfl
theorem s56_5_9 : stepA E C B 40 r56_5 o56_5_9 (φ, H) = stp (some 32) φ H (just (aBin E.T .add 3 (fget φ 31) (.int .i64 1))) := nrfl rfl
theorem s56_5_10 : stepA E C B 40 r56_5 o56_5_10 (φ, H) = stp (some 33) φ H (just (aBin E.T .rem 3 (fget φ 25) (fget φ 32))) := nrfl rfl
theorem s56_5_11 : stepA E C B 40 r56_5 o56_5_11 (φ, H) = stp (some 34) φ H (aBuildSlice E.T (B + 34) 22 1 (evO E φ) [(0, Operand.tmp 33)]) := nrfl rfl
theorem s56_5_12 : stepA E C B 40 r56_5 o56_5_12 (φ, H) = stp (some 35) φ H (aBuiltin E.T (B + 35) .append #[22, 22] [(fget φ 23), (fget φ 34)]) := nrfl rfl
theorem s56_5_13 : stepA E C B 40 r56_5 o56_5_13 (φ, H) = some (fput φ 7 (fget φ 35), H) := nrfl rfl
theorem x56_17 : execA E C (fg 56) B 40 E0 N c56_17 s = seqX (execA E C (fg 56) B 40 E0 N c56_18 s) (execA E C (fg 56) B 40 E0 N c56_19) := x_seq (by rfl) s
theorem x56_16 : execA E C (fg 56) B 40 E0 N c56_16 s = blockX 1 (fun s => (forget s.1 [], s.2)) (execA E C (fg 56) B 40 E0 N c56_17 s) := x_block (by rfl) (by rfl) s
noncomputable def c56_20 : Code := kR c56_15
noncomputable def r56_6 : Array Oper := kO c56_20
noncomputable def o56_6_0 : Oper := opN r56_6 0
noncomputable def o56_6_1 : Oper := opN r56_6 1
theorem x56_20 : execA E C (fg 56) B 40 E0 N c56_20 s = regX (runA E C B 40 r56_6 r56_6.toList s) (fun s => gcM E0 [36] (forget s.1 [36], s.2)) := x_reg (ops := r56_6) (by rfl) (by rfl) s
theorem r56_6_l : r56_6.toList = [o56_6_0, o56_6_1] := nrfl rfl
theorem s56_6_0 : stepA E C B 40 r56_6 o56_6_0 (φ, H) = stp (some 36) φ H (just (aBin E.T .add 3 (fget φ 19) (.int .i64 1))) := nrfl rfl
theorem s56_6_1 : stepA E C B 40 r56_6 o56_6_1 (φ, H) = some (fput φ 19 (fget φ 36), H) := nrfl rfl
theorem x56_15 : execA E C (fg 56) B 40 E0 N c56_15 s = seqX (execA E C (fg 56) B 40 E0 N c56_16 s) (execA E C (fg 56) B 40 E0 N c56_20) := x_seq (by rfl) s
theorem x56_11 : execA E C (fg 56) B 40 E0 N c56_11 s = seqX (execA E C (fg 56) B 40 E0 N c56_12 s) (execA E C (fg 56) B 40 E0 N c56_15) := x_seq (by rfl) s
theorem x56_9 : execA E C (fg 56) B 40 E0 N c56_9 s = seqX (execA E C (fg 56) B 40 E0 N c56_10 s) (execA E C (fg 56) B 40 E0 N c56_11) := x_seq (by rfl) s
theorem x56_8 : execA E C (fg 56) B 40 E0 N c56_8 s = iterA (execA E C (fg 56) B 40 E0 N c56_9) (headA E0) N s := x_loop (by rfl) s
theorem x56_7 : execA E C (fg 56) B 40 E0 N c56_7 s = blockX 0 (fun s => (forget s.1 [2, 3, 17, 18, 19, 20], s.2)) (execA E C (fg 56) B 40 E0 N c56_8 s) := x_block (by rfl) (by rfl) s
theorem x56_5 : execA E C (fg 56) B 40 E0 N c56_5 s = seqX (execA E C (fg 56) B 40 E0 N c56_6 s) (execA E C (fg 56) B 40 E0 N c56_7) := x_seq (by rfl) s
noncomputable def c56_21 : Code := kR c56_4
noncomputable def c56_22 : Code := kL c56_21
noncomputable def r56_7 : Array Oper := kO c56_22
noncomputable def o56_7_0 : Oper := opN r56_7 0
noncomputable def o56_7_1 : Oper := opN r56_7 1
theorem x56_22 : execA E C (fg 56) B 40 E0 N c56_22 s = regX (runA E C B 40 r56_7 r56_7.toList s) (fun s => gcM E0 [37, 38] (forget s.1 [37, 38], s.2)) := x_reg (ops := r56_7) (by rfl) (by rfl) s
theorem r56_7_l : r56_7.toList = [o56_7_0, o56_7_1] := nrfl rfl
theorem s56_7_0 : stepA E C B 40 r56_7 o56_7_0 (φ, H) = some (fput φ 37 (fget φ 7), H) := nrfl rfl
theorem s56_7_1 : stepA E C B 40 r56_7 o56_7_1 (φ, H) = mutX (some 38) φ (C 67 [(fget φ 37)] H (B + 40 * 8)) := nrfl rfl
noncomputable def c56_23 : Code := kR c56_21
noncomputable def c56_24 : Code := kL c56_23
noncomputable def r56_8 : Array Oper := kO c56_24
noncomputable def o56_8_0 : Oper := opN r56_8 0
noncomputable def o56_8_1 : Oper := opN r56_8 1
theorem x56_24 : execA E C (fg 56) B 40 E0 N c56_24 s = regX (runA E C B 40 r56_8 r56_8.toList s) (fun s => gcM E0 [7, 39] (forget s.1 [7, 39], s.2)) := x_reg (ops := r56_8) (by rfl) (by rfl) s
theorem r56_8_l : r56_8.toList = [o56_8_0, o56_8_1] := nrfl rfl
theorem s56_8_0 : stepA E C B 40 r56_8 o56_8_0 (φ, H) = some (fput φ 39 (fget φ 7), H) := nrfl rfl
theorem s56_8_1 : stepA E C B 40 r56_8 o56_8_1 (φ, H) = some (fput φ 6 (fget φ 39), H) := nrfl rfl
noncomputable def c56_25 : Code := kR c56_23
theorem x56_25 : execA E C (fg 56) B 40 E0 N c56_25 s = some (.ret, s) := x_ret (by rfl) s
theorem x56_23 : execA E C (fg 56) B 40 E0 N c56_23 s = seqX (execA E C (fg 56) B 40 E0 N c56_24 s) (execA E C (fg 56) B 40 E0 N c56_25) := x_seq (by rfl) s
theorem x56_21 : execA E C (fg 56) B 40 E0 N c56_21 s = seqX (execA E C (fg 56) B 40 E0 N c56_22 s) (execA E C (fg 56) B 40 E0 N c56_23) := x_seq (by rfl) s
theorem x56_4 : execA E C (fg 56) B 40 E0 N c56_4 s = seqX (execA E C (fg 56) B 40 E0 N c56_5 s) (execA E C (fg 56) B 40 E0 N c56_21) := x_seq (by rfl) s
theorem x56_2 : execA E C (fg 56) B 40 E0 N c56_2 s = seqX (execA E C (fg 56) B 40 E0 N c56_3 s) (execA E C (fg 56) B 40 E0 N c56_4) := x_seq (by rfl) s
theorem x56_0 : execA E C (fg 56) B 40 E0 N c56_0 s = seqX (execA E C (fg 56) B 40 E0 N c56_1 s) (execA E C (fg 56) B 40 E0 N c56_2) := x_seq (by rfl) s
theorem fi_56 : fInfo E 56 = some ⟨40, #[.tmp 6], c56_0⟩ := nrfl rfl
theorem b_56 (args : List AV) : bodyA E C fg N 56 args H B = bodyX E [.tmp 6] (execA E C (fg 56) B 40 H N c56_0 (frame0 args 0 [], H)) := bodyA_eq fi_56 args H
abbrev F_56 := And.intro (And.intro (And.intro (And.intro (And.intro (And.intro @x56_1 @r56_0_l) (And.intro @s56_0_0 @s56_0_1)) (And.intro (And.intro @x56_3 @r56_1_l) (And.intro @s56_1_0 (And.intro @x56_6 @r56_2_l)))) (And.intro (And.intro (And.intro @s56_2_0 @s56_2_1) (And.intro @s56_2_2 @s56_2_3)) (And.intro (And.intro @s56_2_4 @s56_2_5) (And.intro @s56_2_6 (And.intro @s56_2_7 @s56_2_8))))) (And.intro (And.intro (And.intro (And.intro @s56_2_9 @x56_10) (And.intro @r56_3_l @s56_3_0)) (And.intro (And.intro @x56_13 @x56_14) (And.intro @x56_12 (And.intro @x56_18 @r56_4_l)))) (And.intro (And.intro (And.intro @s56_4_0 @s56_4_1) (And.intro @s56_4_2 @x56_19)) (And.intro (And.intro @r56_5_l @s56_5_0) (And.intro @s56_5_1 (And.intro @s56_5_2 @s56_5_3)))))) (And.intro (And.intro (And.intro (And.intro (And.intro @s56_5_4 @s56_5_5) (And.intro @s56_5_6 @s56_5_7)) (And.intro (And.intro @s56_5_8 @s56_5_9) (And.intro @s56_5_10 (And.intro @s56_5_11 @s56_5_12)))) (And.intro (And.intro (And.intro @s56_5_13 @x56_17) (And.intro @x56_16 @x56_20)) (And.intro (And.intro @r56_6_l @s56_6_0) (And.intro @s56_6_1 (And.intro @x56_15 @x56_11))))) (And.intro (And.intro (And.intro (And.intro @x56_9 @x56_8) (And.intro @x56_7 @x56_5)) (And.intro (And.intro @x56_22 @r56_7_l) (And.intro @s56_7_0 (And.intro @s56_7_1 @x56_24)))) (And.intro (And.intro (And.intro @r56_8_l @s56_8_0) (And.intro @s56_8_1 (And.intro @x56_25 @x56_23))) (And.intro (And.intro @x56_21 @x56_4) (And.intro @x56_2 (And.intro @x56_0 @b_56))))))
noncomputable def c67_0 : Code := kBody Proofs.Try.f67
noncomputable def r67_0 : Array Oper := kO c67_0
noncomputable def o67_0_0 : Oper := opN r67_0 0
noncomputable def o67_0_1 : Oper := opN r67_0 1
theorem x67_0 : execA E C (fg 67) B 4 E0 N c67_0 s = regX (runA E C B 4 r67_0 r67_0.toList s) (fun s => gcM E0 [0, 2, 3] (forget s.1 [0, 2, 3], s.2)) := x_reg (ops := r67_0) (by rfl) (by rfl) s
theorem r67_0_l : r67_0.toList = [o67_0_0, o67_0_1] := nrfl rfl
theorem s67_0_0 : stepA E C B 4 r67_0 o67_0_0 (φ, H) = some (fput φ 2 (fget φ 0), H) := nrfl rfl
theorem s67_0_1 : stepA E C B 4 r67_0 o67_0_1 (φ, H) = mutX (some 3) φ (C 108 [(fget φ 2), (.clo 109 [])] H (B + 4 * 8)) := nrfl rfl
theorem fi_67 : fInfo E 67 = some ⟨4, #[], c67_0⟩ := nrfl rfl
theorem b_67 (args : List AV) : bodyA E C fg N 67 args H B = bodyX E [] (execA E C (fg 67) B 4 H N c67_0 (frame0 args 0 [], H)) := bodyA_eq fi_67 args H
abbrev F_67 := And.intro (And.intro @x67_0 @r67_0_l) (And.intro @s67_0_0 (And.intro @s67_0_1 @b_67))
noncomputable def c109_0 : Code := kBody Proofs.Try.f109
noncomputable def c109_1 : Code := kL c109_0
noncomputable def r109_0 : Array Oper := kO c109_1
noncomputable def o109_0_0 : Oper := opN r109_0 0
theorem x109_1 : execA E C (fg 109) B 8 E0 N c109_1 s = regX (runA E C B 8 r109_0 r109_0.toList s) (fun s => gcM E0 [4] (forget s.1 [4], s.2)) := x_reg (ops := r109_0) (by rfl) (by rfl) s
theorem r109_0_l : r109_0.toList = [o109_0_0] := nrfl rfl
theorem s109_0_0 : stepA E C B 8 r109_0 o109_0_0 (φ, H) = some (fput φ 4 (.int .i64 0), H) := nrfl rfl
noncomputable def c109_2 : Code := kR c109_0
noncomputable def c109_3 : Code := kL c109_2
noncomputable def r109_1 : Array Oper := kO c109_3
noncomputable def o109_1_0 : Oper := opN r109_1 0
noncomputable def o109_1_1 : Oper := opN r109_1 1
noncomputable def o109_1_2 : Oper := opN r109_1 2
noncomputable def o109_1_3 : Oper := opN r109_1 3
theorem x109_3 : execA E C (fg 109) B 8 E0 N c109_3 s = regX (runA E C B 8 r109_1 r109_1.toList s) (fun s => gcM E0 [0, 1, 5, 6, 7] (forget s.1 [0, 1, 5, 6, 7], s.2)) := x_reg (ops := r109_1) (by rfl) (by rfl) s
theorem r109_1_l : r109_1.toList = [o109_1_0, o109_1_1, o109_1_2, o109_1_3] := nrfl rfl
theorem s109_1_0 : stepA E C B 8 r109_1 o109_1_0 (φ, H) = some (fput φ 5 (fget φ 1), H) := nrfl rfl
theorem s109_1_1 : stepA E C B 8 r109_1 o109_1_1 (φ, H) = some (fput φ 6 (fget φ 0), H) := nrfl rfl
theorem s109_1_2 : stepA E C B 8 r109_1 o109_1_2 (φ, H) = stp (some 7) φ H (just (aBin E.T .sub 3 (fget φ 5) (fget φ 6))) := nrfl rfl
theorem s109_1_3 : stepA E C B 8 r109_1 o109_1_3 (φ, H) = some (fput φ 4 (fget φ 7), H) := nrfl rfl
noncomputable def c109_4 : Code := kR c109_2
theorem x109_4 : execA E C (fg 109) B 8 E0 N c109_4 s = some (.ret, s) := x_ret (by rfl) s
theorem x109_2 : execA E C (fg 109) B 8 E0 N c109_2 s = seqX (execA E C (fg 109) B 8 E0 N c109_3 s) (execA E C (fg 109) B 8 E0 N c109_4) := x_seq (by rfl) s
theorem x109_0 : execA E C (fg 109) B 8 E0 N c109_0 s = seqX (execA E C (fg 109) B 8 E0 N c109_1 s) (execA E C (fg 109) B 8 E0 N c109_2) := x_seq (by rfl) s
theorem fi_109 : fInfo E 109 = some ⟨8, #[.tmp 4], c109_0⟩ := nrfl rfl
theorem b_109 (args : List AV) : bodyA E C fg N 109 args H B = bodyX E [.tmp 4] (execA E C (fg 109) B 8 H N c109_0 (frame0 args 0 [], H)) := bodyA_eq fi_109 args H
abbrev F_109 := And.intro (And.intro (And.intro @x109_1 (And.intro @r109_0_l @s109_0_0)) (And.intro @x109_3 (And.intro @r109_1_l @s109_1_0))) (And.intro (And.intro @s109_1_1 (And.intro @s109_1_2 @s109_1_3)) (And.intro (And.intro @x109_4 @x109_2) (And.intro @x109_0 @b_109)))
noncomputable def c58_0 : Code := kBody Proofs.Try.f58
noncomputable def c58_1 : Code := kL c58_0
noncomputable def r58_0 : Array Oper := kO c58_1
noncomputable def o58_0_0 : Oper := opN r58_0 0
theorem x58_1 : execA E C (fg 58) B 17 E0 N c58_1 s = regX (runA E C B 17 r58_0 r58_0.toList s) (fun s => gcM E0 [2] (forget s.1 [2], s.2)) := x_reg (ops := r58_0) (by rfl) (by rfl) s
theorem r58_0_l : r58_0.toList = [o58_0_0] := nrfl rfl
theorem s58_0_0 : stepA E C B 17 r58_0 o58_0_0 (φ, H) = some (fput φ 2 (.int .i64 0), H) := nrfl rfl
noncomputable def c58_2 : Code := kR c58_0
noncomputable def c58_3 : Code := kL c58_2
noncomputable def r58_1 : Array Oper := kO c58_3
noncomputable def o58_1_0 : Oper := opN r58_1 0
theorem x58_3 : execA E C (fg 58) B 17 E0 N c58_3 s = regX (runA E C B 17 r58_1 r58_1.toList s) (fun s => gcM E0 [] (forget s.1 [], s.2)) := x_reg (ops := r58_1) (by rfl) (by rfl) s
theorem r58_1_l : r58_1.toList = [o58_1_0] := nrfl rfl
theorem s58_1_0 : stepA E C B 17 r58_1 o58_1_0 (φ, H) = some (fput φ 3 (.int .i64 0), H) := nrfl rfl
noncomputable def c58_4 : Code := kR c58_2
noncomputable def c58_5 : Code := kL c58_4
noncomputable def c58_6 : Code := kL c58_5
noncomputable def r58_2 : Array Oper := kO c58_6
noncomputable def o58_2_0 : Oper := opN r58_2 0
noncomputable def o58_2_1 : Oper := opN r58_2 1
noncomputable def o58_2_2 : Oper := opN r58_2 2
theorem x58_6 : execA E C (fg 58) B 17 E0 N c58_6 s = regX (runA E C B 17 r58_2 r58_2.toList s) (fun s => gcM E0 [0] (forget s.1 [0], s.2)) := x_reg (ops := r58_2) (by rfl) (by rfl) s
theorem r58_2_l : r58_2.toList = [o58_2_0, o58_2_1, o58_2_2] := nrfl rfl
theorem s58_2_0 : stepA E C B 17 r58_2 o58_2_0 (φ, H) = some (fput φ 6 (fget φ 0), H) := nrfl rfl
theorem s58_2_1 : stepA E C B 17 r58_2 o58_2_1 (φ, H) = stp (some 7) φ H (aBuiltin E.T (B + 7) .len #[22] [(fget φ 6)]) := nrfl rfl
theorem s58_2_2 : stepA E C B 17 r58_2 o58_2_2 (φ, H) = some (fput φ 8 (.int .i64 0), H) := nrfl rfl
noncomputable def c58_7 : Code := kR c58_5
noncomputable def c58_8 : Code := kB c58_7
noncomputable def c58_9 : Code := kB c58_8
noncomputable def c58_10 : Code := kL c58_9
noncomputable def r58_3 : Array Oper := kO c58_10
noncomputable def o58_3_0 : Oper := opN r58_3 0
theorem x58_10 : execA E C (fg 58) B 17 E0 N c58_10 s = regX (runA E C B 17 r58_3 r58_3.toList s) (fun s => gcM E0 [] (forget s.1 [], s.2)) := x_reg (ops := r58_3) (by rfl) (by rfl) s
theorem r58_3_l : r58_3.toList = [o58_3_0] := nrfl rfl
theorem s58_3_0 : stepA E C B 17 r58_3 o58_3_0 (φ, H) = stp (some 9) φ H (just (aBin E.T .lss 3 (fget φ 8) (fget φ 7))) := nrfl rfl
noncomputable def c58_11 : Code := kR c58_9
noncomputable def c58_12 : Code := kL c58_11
noncomputable def c58_13 : Code := kT c58_12
theorem x58_13 : execA E C (fg 58) B 17 E0 N c58_13 s = some (.normal, s) := x_skip (by rfl) s
noncomputable def c58_14 : Code := kE c58_12
theorem x58_14 : execA E C (fg 58) B 17 E0 N c58_14 s = some (.exit 0, s) := x_exit (by rfl) s
theorem x58_12 : execA E C (fg 58) B 17 E0 N c58_12 (φ, H) = condX (fget φ 9) (execA E C (fg 58) B 17 E0 N c58_13 (φ, H)) (execA E C (fg 58) B 17 E0 N c58_14 (φ, H)) := x_cond (by rfl) _
noncomputable def c58_15 : Code := kR c58_11
noncomputable def c58_16 : Code := kL c58_15
noncomputable def c58_17 : Code := kB c58_16
noncomputable def c58_18 : Code := kL c58_17
noncomputable def r58_4 : Array Oper := kO c58_18
noncomputable def o58_4_0 : Oper := opN r58_4 0
noncomputable def o58_4_1 : Oper := opN r58_4 1
noncomputable def o58_4_2 : Oper := opN r58_4 2
theorem x58_18 : execA E C (fg 58) B 17 E0 N c58_18 s = regX (runA E C B 17 r58_4 r58_4.toList s) (fun s => gcM E0 [9, 10, 11] (forget s.1 [9, 10, 11], s.2)) := x_reg (ops := r58_4) (by rfl) (by rfl) s
theorem r58_4_l : r58_4.toList = [o58_4_0, o58_4_1, o58_4_2] := nrfl rfl
theorem s58_4_0 : stepA E C B 17 r58_4 o58_4_0 (φ, H) = stp (some 10) φ H (just (aIndexAddr E.T 22 (fget φ 6) (fget φ 8))) := nrfl rfl
theorem s58_4_1 : stepA E C B 17 r58_4 o58_4_1 (φ, H) = stp (some 11) φ H (just (aLoad E.T 3 (fget φ 10))) := nrfl rfl
theorem s58_4_2 : stepA E C B 17 r58_4 o58_4_2 (φ, H) = some (fput φ 5 (fget φ 11), H) := nrfl rfl
noncomputable def c58_19 : Code := kR c58_17
noncomputable def r58_5 : Array Oper := kO c58_19
noncomputable def o58_5_0 : Oper := opN r58_5 0
noncomputable def o58_5_1 : Oper := opN r58_5 1
noncomputable def o58_5_2 : Oper := opN r58_5 2
noncomputable def o58_5_3 : Oper := opN r58_5 3
theorem x58_19 : execA E C (fg 58) B 17 E0 N c58_19 s = regX (runA E C B 17 r58_5 r58_5.toList s) (fun s => gcM E0 [5, 12, 13, 14] (forget s.1 [5, 12, 13, 14], s.2)) := x_reg (ops := r58_5) (by rfl) (by rfl) s
theorem r58_5_l : r58_5.toList = [o58_5_0, o58_5_1, o58_5_2, o58_5_3] := nrfl rfl
theorem s58_5_0 : stepA E C B 17 r58_5 o58_5_0 (φ, H) = some (fput φ 12 (fget φ 3), H) := nrfl rfl
theorem s58_5_1 : stepA E C B 17 r58_5 o58_5_1 (φ, H) = some (fput φ 13 (fget φ 5), H) := nrfl rfl
theorem s58_5_2 : stepA E C B 17 r58_5 o58_5_2 (φ, H) = stp (some 14) φ H (just (aBin E.T .add 3 (fget φ 12) (fget φ 13))) := nrfl rfl
theorem s58_5_3 : stepA E C B 17 r58_5 o58_5_3 (φ, H) = some (fput φ 3 (fget φ 14), H) := nrfl rfl
theorem x58_17 : execA E C (fg 58) B 17 E0 N c58_17 s = seqX (execA E C (fg 58) B 17 E0 N c58_18 s) (execA E C (fg 58) B 17 E0 N c58_19) := x_seq (by rfl) s
theorem x58_16 : execA E C (fg 58) B 17 E0 N c58_16 s = blockX 1 (fun s => (forget s.1 [], s.2)) (execA E C (fg 58) B 17 E0 N c58_17 s) := x_block (by rfl) (by rfl) s
noncomputable def c58_20 : Code := kR c58_15
noncomputable def r58_6 : Array Oper := kO c58_20
noncomputable def o58_6_0 : Oper := opN r58_6 0
noncomputable def o58_6_1 : Oper := opN r58_6 1
theorem x58_20 : execA E C (fg 58) B 17 E0 N c58_20 s = regX (runA E C B 17 r58_6 r58_6.toList s) (fun s => gcM E0 [15] (forget s.1 [15], s.2)) := x_reg (ops := r58_6) (by rfl) (by rfl) s
theorem r58_6_l : r58_6.toList = [o58_6_0, o58_6_1] := nrfl rfl
theorem s58_6_0 : stepA E C B 17 r58_6 o58_6_0 (φ, H) = stp (some 15) φ H (just (aBin E.T .add 3 (fget φ 8) (.int .i64 1))) := nrfl rfl
theorem s58_6_1 : stepA E C B 17 r58_6 o58_6_1 (φ, H) = some (fput φ 8 (fget φ 15), H) := nrfl rfl
theorem x58_15 : execA E C (fg 58) B 17 E0 N c58_15 s = seqX (execA E C (fg 58) B 17 E0 N c58_16 s) (execA E C (fg 58) B 17 E0 N c58_20) := x_seq (by rfl) s
theorem x58_11 : execA E C (fg 58) B 17 E0 N c58_11 s = seqX (execA E C (fg 58) B 17 E0 N c58_12 s) (execA E C (fg 58) B 17 E0 N c58_15) := x_seq (by rfl) s
theorem x58_9 : execA E C (fg 58) B 17 E0 N c58_9 s = seqX (execA E C (fg 58) B 17 E0 N c58_10 s) (execA E C (fg 58) B 17 E0 N c58_11) := x_seq (by rfl) s
theorem x58_8 : execA E C (fg 58) B 17 E0 N c58_8 s = iterA (execA E C (fg 58) B 17 E0 N c58_9) (headA E0) N s := x_loop (by rfl) s
theorem x58_7 : execA E C (fg 58) B 17 E0 N c58_7 s = blockX 0 (fun s => (forget s.1 [6, 7, 8, 9], s.2)) (execA E C (fg 58) B 17 E0 N c58_8 s) := x_block (by rfl) (by rfl) s
theorem x58_5 : execA E C (fg 58) B 17 E0 N c58_5 s = seqX (execA E C (fg 58) B 17 E0 N c58_6 s) (execA E C (fg 58) B 17 E0 N c58_7) := x_seq (by rfl) s
noncomputable def c58_21 : Code := kR c58_4
noncomputable def c58_22 : Code := kL c58_21
noncomputable def r58_7 : Array Oper := kO c58_22
noncomputable def o58_7_0 : Oper := opN r58_7 0
noncomputable def o58_7_1 : Oper := opN r58_7 1
theorem x58_22 : execA E C (fg 58) B 17 E0 N c58_22 s = regX (runA E C B 17 r58_7 r58_7.toList s) (fun s => gcM E0 [3, 16] (forget s.1 [3, 16], s.2)) := x_reg (ops := r58_7) (by rfl) (by rfl) s
theorem r58_7_l : r58_7.toList = [o58_7_0, o58_7_1] := nrfl rfl
theorem s58_7_0 : stepA E C B 17 r58_7 o58_7_0 (φ, H) = some (fput φ 16 (fget φ 3), H) := nrfl rfl
theorem s58_7_1 : stepA E C B 17 r58_7 o58_7_1 (φ, H) = some (fput φ 2 (fget φ 16), H) := nrfl rfl
noncomputable def c58_23 : Code := kR c58_21
theorem x58_23 : execA E C (fg 58) B 17 E0 N c58_23 s = some (.ret, s) := x_ret (by rfl) s
theorem x58_21 : execA E C (fg 58) B 17 E0 N c58_21 s = seqX (execA E C (fg 58) B 17 E0 N c58_22 s) (execA E C (fg 58) B 17 E0 N c58_23) := x_seq (by rfl) s
theorem x58_4 : execA E C (fg 58) B 17 E0 N c58_4 s = seqX (execA E C (fg 58) B 17 E0 N c58_5 s) (execA E C (fg 58) B 17 E0 N c58_21) := x_seq (by rfl) s
theorem x58_2 : execA E C (fg 58) B 17 E0 N c58_2 s = seqX (execA E C (fg 58) B 17 E0 N c58_3 s) (execA E C (fg 58) B 17 E0 N c58_4) := x_seq (by rfl) s
theorem x58_0 : execA E C (fg 58) B 17 E0 N c58_0 s = seqX (execA E C (fg 58) B 17 E0 N c58_1 s) (execA E C (fg 58) B 17 E0 N c58_2) := x_seq (by rfl) s
theorem fi_58 : fInfo E 58 = some ⟨17, #[.tmp 2], c58_0⟩ := nrfl rfl
theorem b_58 (args : List AV) : bodyA E C fg N 58 args H B = bodyX E [.tmp 2] (execA E C (fg 58) B 17 H N c58_0 (frame0 args 0 [], H)) := bodyA_eq fi_58 args H
abbrev F_58 := And.intro (And.intro (And.intro (And.intro (And.intro @x58_1 (And.intro @r58_0_l @s58_0_0)) (And.intro @x58_3 (And.intro @r58_1_l @s58_1_0))) (And.intro (And.intro @x58_6 (And.intro @r58_2_l @s58_2_0)) (And.intro @s58_2_1 (And.intro @s58_2_2 @x58_10)))) (And.intro (And.intro (And.intro @r58_3_l (And.intro @s58_3_0 @x58_13)) (And.intro @x58_14 (And.intro @x58_12 @x58_18))) (And.intro (And.intro @r58_4_l (And.intro @s58_4_0 @s58_4_1)) (And.intro (And.intro @s58_4_2 @x58_19) (And.intro @r58_5_l @s58_5_0))))) (And.intro (And.intro (And.intro (And.intro @s58_5_1 (And.intro @s58_5_2 @s58_5_3)) (And.intro @x58_17 (And.intro @x58_16 @x58_20))) (And.intro (And.intro @r58_6_l (And.intro @s58_6_0 @s58_6_1)) (And.intro @x58_15 (And.intro @x58_11 @x58_9)))) (And.intro (And.intro (And.intro @x58_8 (And.intro @x58_7 @x58_5)) (And.intro @x58_22 (And.intro @r58_7_l @s58_7_0))) (And.intro (And.intro @s58_7_1 (And.intro @x58_23 @x58_21)) (And.intro (And.intro @x58_4 @x58_2) (And.intro @x58_0 @b_58)))))
noncomputable def c59_0 : Code := kBody Proofs.Try.f59
noncomputable def c59_1 : Code := kL c59_0
noncomputable def r59_0 : Array Oper := kO c59_1
noncomputable def o59_0_0 : Oper := opN r59_0 0
noncomputable def o59_0_1 : Oper := opN r59_0 1
theorem x59_1 : execA E C (fg 59) B 12 E0 N c59_1 s = regX (runA E C B 12 r59_0 r59_0.toList s) (fun s => gcM E0 [0, 4] (forget s.1 [0, 4], s.2)) := x_reg (ops := r59_0) (by rfl) (by rfl) s
theorem r59_0_l : r59_0.toList = [o59_0_0, o59_0_1] := nrfl rfl
theorem s59_0_0 : stepA E C B 12 r59_0 o59_0_0 (φ, H) = stp (some 2) φ H (opBox (B + 2) (acells (fget φ 0))) := nrfl rfl
theorem s59_0_1 : stepA E C B 12 r59_0 o59_0_1 (φ, H) = some (fput φ 4 (.nilsl), H) := nrfl rfl
noncomputable def c59_2 : Code := kR c59_0
noncomputable def c59_3 : Code := kL c59_2
noncomputable def r59_1 : Array Oper := kO c59_3
noncomputable def o59_1_0 : Oper := opN r59_1 0
theorem x59_3 : execA E C (fg 59) B 12 E0 N c59_3 s = regX (runA E C B 12 r59_1 r59_1.toList s) (fun s => gcM E0 [] (forget s.1 [], s.2)) := x_reg (ops := r59_1) (by rfl) (by rfl) s
theorem r59_1_l : r59_1.toList = [o59_1_0] := nrfl rfl
theorem s59_1_0 : stepA E C B 12 r59_1 o59_1_0 (φ, H) = stp (some 5) φ H (opBox (B + 5) (zeroCells E.T 39)) := nrfl rfl
noncomputable def c59_4 : Code := kR c59_2
noncomputable def c59_5 : Code := kL c59_4
noncomputable def r59_2 : Array Oper := kO c59_5
noncomputable def o59_2_0 : Oper := opN r59_2 0
theorem x59_5 : execA E C (fg 59) B 12 E0 N c59_5 s = regX (runA E C B 12 r59_2 r59_2.toList s) (fun s => gcM E0 [] (forget s.1 [], s.2)) := x_reg (ops := r59_2) (by rfl) (by rfl) s
theorem r59_2_l : r59_2.toList = [o59_2_0] := nrfl rfl
theorem s59_2_0 : stepA E C B 12 r59_2 o59_2_0 (φ, H) = stp (some 6) φ H (opBox (B + 6) (zeroCells E.T 94)) := nrfl rfl
noncomputable def c59_6 : Code := kR c59_4
noncomputable def c59_7 : Code := kL c59_6
noncomputable def r59_3 : Array Oper := kO c59_7
noncomputable def o59_3_0 : Oper := opN r59_3 0
noncomputable def o59_3_1 : Oper := opN r59_3 1
theorem x59_7 : execA E C (fg 59) B 12 E0 N c59_7 s = regX (runA E C B 12 r59_3 r59_3.toList s) (fun s => gcM E0 [2, 7] (forget s.1 [2, 7], s.2)) := x_reg (ops := r59_3) (by rfl) (by rfl) s
theorem r59_3_l : r59_3.toList = [o59_3_0, o59_3_1] := nrfl rfl
theorem s59_3_0 : stepA E C B 12 r59_3 o59_3_0 (φ, H) = stp (some 7) φ H (.pure (.clo 105 [(fget φ 2), (fget φ 5), (fget φ 6)], [])) := nrfl rfl
theorem s59_3_1 : stepA E C B 12 r59_3 o59_3_1 (φ, H) = stp none φ H (opStore E.T 94 (fget φ 6) (fget φ 7)) := nrfl rfl
noncomputable def c59_8 : Code := kR c59_6
noncomputable def c59_9 : Code := kL c59_8
noncomputable def r59_4 : Array Oper := kO c59_9
noncomputable def o59_4_0 : Oper := opN r59_4 0
noncomputable def o59_4_1 : Oper := opN r59_4 1
noncomputable def o59_4_2 : Oper := opN r59_4 2
theorem x59_9 : execA E C (fg 59) B 12 E0 N c59_9 s = regX (runA E C B 12 r59_4 r59_4.toList s) (fun s => gcM E0 [1, 6, 8, 9, 10] (forget s.1 [1, 6, 8, 9, 10], s.2)) := x_reg (ops := r59_4) (by rfl) (by rfl) s
theorem r59_4_l : r59_4.toList = [o59_4_0, o59_4_1, o59_4_2] := nrfl rfl
theorem s59_4_0 : stepA E C B 12 r59_4 o59_4_0 (φ, H) = stp (some 8) φ H (just (aLoad E.T 94 (fget φ 6))) := nrfl rfl
theorem s59_4_1 : stepA E C B 12 r59_4 o59_4_1 (φ, H) = some (fput φ 9 (fget φ 1), H) := nrfl rfl
theorem s59_4_2 : stepA E C B 12 r59_4 o59_4_2 (φ, H) = callV E C (B + 12 * 8) (some 10) (fun j => B + j * 12 + 10) φ H (fget φ 8) [(.nilsl), (fget φ 9), (.int .i64 8)] true := nrfl rfl
noncomputable def c59_10 : Code := kR c59_8
noncomputable def c59_11 : Code := kL c59_10
noncomputable def r59_5 : Array Oper := kO c59_11
noncomputable def o59_5_0 : Oper := opN r59_5 0
noncomputable def o59_5_1 : Oper := opN r59_5 1
theorem x59_11 : execA E C (fg 59) B 12 E0 N c59_11 s = regX (runA E C B 12 r59_5 r59_5.toList s) (fun s => gcM E0 [5, 11] (forget s.1 [5, 11], s.2)) := x_reg (ops := r59_5) (by rfl) (by rfl) s
theorem r59_5_l : r59_5.toList = [o59_5_0, o59_5_1] := nrfl rfl
theorem s59_5_0 : stepA E C B 12 r59_5 o59_5_0 (φ, H) = stp (some 11) φ H (just (aLoad E.T 39 (fget φ 5))) := nrfl rfl
theorem s59_5_1 : stepA E C B 12 r59_5 o59_5_1 (φ, H) = some (fput φ 4 (fget φ 11), H) := nrfl rfl
noncomputable def c59_12 : Code := kR c59_10
theorem x59_12 : execA E C (fg 59) B 12 E0 N c59_12 s = some (.ret, s) := x_ret (by rfl) s
theorem x59_10 : execA E C (fg 59) B 12 E0 N c59_10 s = seqX (execA E C (fg 59) B 12 E0 N c59_11 s) (execA E C (fg 59) B 12 E0 N c59_12) := x_seq (by rfl) s
theorem x59_8 : execA E C (fg 59) B 12 E0 N c59_8 s = seqX (execA E C (fg 59) B 12 E0 N c59_9 s) (execA E C (fg 59) B 12 E0 N c59_10) := x_seq (by rfl) s
theorem x59_6 : execA E C (fg 59) B 12 E0 N c59_6 s = seqX (execA E C (fg 59) B 12 E0 N c59_7 s) (execA E C (fg 59) B 12 E0 N c59_8) := x_seq (by rfl) s
theorem x59_4 : execA E C (fg 59) B 12 E0 N c59_4 s = seqX (execA E C (fg 59) B 12 E0 N c59_5 s) (execA E C (fg 59) B 12 E0 N c59_6) := x_seq (by rfl) s
theorem x59_2 : execA E C (fg 59) B 12 E0 N c59_2 s = seqX (execA E C (fg 59) B 12 E0 N c59_3 s) (execA E C (fg 59) B 12 E0 N c59_4) := x_seq (by rfl) s
theorem x59_0 : execA E C (fg 59) B 12 E0 N c59_0 s = seqX (execA E C (fg 59) B 12 E0 N c59_1 s) (execA E C (fg 59) B 12 E0 N c59_2) := x_seq (by rfl) s
theorem fi_59 : fInfo E 59 = some ⟨12, #[.tmp 4], c59_0⟩ := nrfl rfl
theorem b_59 (args : List AV) : bodyA E C fg N 59 args H B = bodyX E [.tmp 4] (execA E C (fg 59) B 12 H N c59_0 (frame0 args 0 [], H)) := bodyA_eq fi_59 args H
abbrev F_59 := And.intro (And.intro (And.intro (And.intro @x59_1 (And.intro @r59_0_l @s59_0_0)) (And.intro (And.intro @s59_0_1 @x59_3) (And.intro @r59_1_l @s59_1_0))) (And.intro (And.intro (And.intro @x59_5 @r59_2_l) (And.intro @s59_2_0 @x59_7)) (And.intro (And.intro @r59_3_l @s59_3_0) (And.intro @s59_3_1 @x59_9)))) (And.intro (And.intro (And.intro (And.intro @r59_4_l @s59_4_0) (And.intro @s59_4_1 @s59_4_2)) (And.intro (And.intro @x59_11 @r59_5_l) (And.intro @s59_5_0 @s59_5_1))) (And.intro (And.intro (And.intro @x59_12 @x59_10) (And.intro @x59_8 @x59_6)) (And.intro (And.intro @x59_4 @x59_2) (And.intro @x59_0 @b_59))))
noncomputable def c105_0 : Code := kBody Proofs.Try.f105
noncomputable def c105_1 : Code := kL c105_0
noncomputable def c105_2 : Code := kL c105_1
noncomputable def r105_0 : Array Oper := kO c105_2
noncomputable def o105_0_0 : Oper := opN r105_0 0
noncomputable def o105_0_1 : Oper := opN r105_0 1
noncomputable def o105_0_2 : Oper := opN r105_0 2
noncomputable def o105_0_3 : Oper := opN r105_0 3
theorem x105_2 : execA E C (fg 105) B 42 E0 N c105_2 s = regX (runA E C B 42 r105_0 r105_0.toList s) (fun s => gcM E0 [3, 10, 11, 12] (forget s.1 [3, 10, 11, 12], s.2)) := x_reg (ops := r105_0) (by rfl) (by rfl) s
theorem r105_0_l : r105_0.toList = [o105_0_0, o105_0_1, o105_0_2, o105_0_3] := nrfl rfl
theorem s105_0_0 : stepA E C B 42 r105_0 o105_0_0 (φ, H) = some (fput φ 10 (fget φ 0), H) := nrfl rfl
theorem s105_0_1 : stepA E C B 42 r105_0 o105_0_1 (φ, H) = stp (some 11) φ H (aBuiltin E.T (B + 11) .len #[22] [(fget φ 10)]) := nrfl rfl
theorem s105_0_2 : stepA E C B 42 r105_0 o105_0_2 (φ, H) = stp (some 12) φ H (just (aLoad E.T 3 (fget φ 3))) := nrfl rfl
theorem s105_0_3 : stepA E C B 42 r105_0 o105_0_3 (φ, H) = stp (some 13) φ H (just (aBin E.T .eql 3 (fget φ 11) (fget φ 12))) := nrfl rfl
noncomputable def c105_3 : Code := kR c105_1
noncomputable def c105_4 : Code := kT c105_3
noncomputable def c105_5 : Code := kL c105_4
noncomputable def c105_6 : Code := kL c105_5
noncomputable def r105_1 : Array Oper := kO c105_6
noncomputable def o105_1_0 : Oper := opN r105_1 0
noncomputable def o105_1_1 : Oper := opN r105_1 1
theorem x105_6 : execA E C (fg 105) B 42 E0 N c105_6 s = regX (runA E C B 42 r105_1 r105_1.toList s) (fun s => gcM E0 [1, 2, 5, 13, 14] (forget s.1 [1, 2, 5, 13, 14], s.2)) := x_reg (ops := r105_1) (by rfl) (by rfl) s
theorem r105_1_l : r105_1.toList = [o105_1_0, o105_1_1] := nrfl rfl
theorem s105_1_0 : stepA E C B 42 r105_1 o105_1_0 (φ, H) = some (fput φ 14 (fget φ 1), H) := nrfl rfl
theorem s105_1_1 : stepA E C B 42 r105_1 o105_1_1 (φ, H) = stp (some 15) φ H (just (aBin E.T .eql 3 (fget φ 14) (.int .i64 0))) := nrfl rfl
noncomputable def c105_7 : Code := kR c105_5
noncomputable def c105_8 : Code := kT c105_7
noncomputable def r105_2 : Array Oper := kO c105_8
noncomputable def o105_2_0 : Oper := opN r105_2 0
noncomputable def o105_2_1 : Oper := opN r105_2 1
noncomputable def o105_2_2 : Oper := opN r105_2 2
noncomputable def o105_2_3 : Oper := opN r105_2 3
noncomputable def o105_2_4 : Oper := opN r105_2 4
theorem x105_8 : execA E C (fg 105) B 42 E0 N c105_8 s = regX (runA E C B 42 r105_2 r105_2.toList s) (fun s => gcM E0 [0, 4, 15, 16, 17, 18, 19] (forget s.1 [0, 4, 15, 16, 17, 18, 19], s.2)) := x_reg (ops := r105_2) (by rfl) (by rfl) s
theorem r105_2_l : r105_2.toList = [o105_2_0, o105_2_1, o105_2_2, o105_2_3, o105_2_4] := nrfl rfl
theorem s105_2_0 : stepA E C B 42 r105_2 o105_2_0 (φ, H) = stp (some 16) φ H (just (aLoad E.T 39 (fget φ 4))) := nrfl rfl
theorem s105_2_1 : stepA E C B 42 r105_2 o105_2_1 (φ, H) = some (fput φ 17 (fget φ 0), H) := nrfl rfl
theorem s105_2_2 : stepA E C B 42 r105_2 o105_2_2 (φ, H) = stp (some 18) φ H (aBuildSlice E.T (B + 18) 39 1 (evO E φ) [(0, Operand.tmp 17)]) := nrfl rfl
theorem s105_2_3 : stepA E C B 42 r105_2 o105_2_3 (φ, H) = stp (some 19) φ H (aBuiltin E.T (B + 19) .append #[39, 39] [(fget φ 16), (fget φ 18)]) := nrfl rfl
theorem s105_2_4 : stepA E C B 42 r105_2 o105_2_4 (φ, H) = stp none φ H (opStore E.T 39 (fget φ 4) (fget φ 19)) := nrfl rfl
noncomputable def c105_9 : Code := kE c105_7
theorem x105_9 : execA E C (fg 105) B 42 E0 N c105_9 s = some (.normal, s) := x_skip (by rfl) s
theorem x105_7 : execA E C (fg 105) B 42 E0 N c105_7 (φ, H) = condX (fget φ 15) (execA E C (fg 105) B 42 E0 N c105_8 (φ, H)) (execA E C (fg 105) B 42 E0 N c105_9 (φ, H)) := x_cond (by rfl) _
theorem x105_5 : execA E C (fg 105) B 42 E0 N c105_5 s = seqX (execA E C (fg 105) B 42 E0 N c105_6 s) (execA E C (fg 105) B 42 E0 N c105_7) := x_seq (by rfl) s
noncomputable def c105_10 : Code := kR c105_4
theorem x105_10 : execA E C (fg 105) B 42 E0 N c105_10 s = some (.ret, s) := x_ret (by rfl) s
theorem x105_4 : execA E C (fg 105) B 42 E0 N c105_4 s = seqX (execA E C (fg 105) B 42 E0 N c105_5 s) (execA E C (fg 105) B 42 E0 N c105_10) := x_seq (by rfl) s
noncomputable def c105_11 : Code := kE c105_3
theorem x105_11 : execA E C (fg 105) B 42 E0 N c105_11 s = some (.normal, s) := x_skip (by rfl) s
theorem x105_3 : execA E C (fg 105) B 42 E0 N c105_3 (φ, H) = condX (fget φ 13) (execA E C (fg 105) B 42 E0 N c105_4 (φ, H)) (execA E C (fg 105) B 42 E0 N c105_11 (φ, H)) := x_cond (by rfl) _
theorem x105_1 : execA E C (fg 105) B 42 E0 N c105_1 s = seqX (execA E C (fg 105) B 42 E0 N c105_2 s) (execA E C (fg 105) B 42 E0 N c105_3) := x_seq (by rfl) s
noncomputable def c105_12 : Code := kR c105_0
noncomputable def c105_13 : Code := kL c105_12
noncomputable def r105_3 : Array Oper := kO c105_13
noncomputable def o105_3_0 : Oper := opN r105_3 0
noncomputable def o105_3_1 : Oper := opN r105_3 1
noncomputable def o105_3_2 : Oper := opN r105_3 2
noncomputable def o105_3_3 : Oper := opN r105_3 3
theorem x105_13 : execA E C (fg 105) B 42 E0 N c105_13 s = regX (runA E C B 42 r105_3 r105_3.toList s) (fun s => gcM E0 [2, 4, 13, 20, 21, 22] (forget s.1 [2, 4, 13, 20, 21, 22], s.2)) := x_reg (ops := r105_3) (by rfl) (by rfl) s
theorem r105_3_l : r105_3.toList = [o105_3_0, o105_3_1, o105_3_2, o105_3_3] := nrfl rfl
theorem s105_3_0 : stepA E C B 42 r105_3 o105_3_0 (φ, H) = some (fput φ 20 (fget φ 2), H) := nrfl rfl
theorem s105_3_1 : stepA E C B 42 r105_3 o105_3_1 (φ, H) = some (fput φ 21 (fget φ 1), H) := nrfl rfl
theorem s105_3_2 : stepA E C B 42 r105_3 o105_3_2 (φ, H) = stp (some 22) φ H (aBuiltin E.T (B + 22) .min #[3, 3] [(fget φ 20), (fget φ 21)]) := nrfl rfl
theorem s105_3_3 : stepA E C B 42 r105_3 o105_3_3 (φ, H) = some (fput φ 9 (fget φ 22), H) := nrfl rfl
noncomputable def c105_14 : Code := kR c105_12
noncomputable def c105_15 : Code := kB c105_14
noncomputable def c105_16 : Code := kB c105_15
noncomputable def c105_17 : Code := kL c105_16
noncomputable def c105_18 : Code := kL c105_17
noncomputable def r105_4 : Array Oper := kO c105_18
noncomputable def o105_4_0 : Oper := opN r105_4 0
noncomputable def o105_4_1 : Oper := opN r105_4 1
theorem x105_18 : execA E C (fg 105) B 42 E0 N c105_18 s = regX (runA E C B 42 r105_4 r105_4.toList s) (fun s => gcM E0 [23] (forget s.1 [23], s.2)) := x_reg (ops := r105_4) (by rfl) (by rfl) s
theorem r105_4_l : r105_4.toList = [o105_4_0, o105_4_1] := nrfl rfl
theorem s105_4_0 : stepA E C B 42 r105_4 o105_4_0 (φ, H) = some (fput φ 23 (fget φ 9), H) := nrfl rfl
theorem s105_4_1 : stepA E C B 42 r105_4 o105_4_1 (φ, H) = stp (some 24) φ H (just (aBin E.T .geq 3 (fget φ 23) (.int .i64 0))) := nrfl rfl
noncomputable def c105_19 : Code := kR c105_17
noncomputable def c105_20 : Code := kT c105_19
theorem x105_20 : execA E C (fg 105) B 42 E0 N c105_20 s = some (.normal, s) := x_skip (by rfl) s
noncomputable def c105_21 : Code := kE c105_19
theorem x105_21 : execA E C (fg 105) B 42 E0 N c105_21 s = some (.exit 0, s) := x_exit (by rfl) s
theorem x105_19 : execA E C (fg 105) B 42 E0 N c105_19 (φ, H) = condX (fget φ 24) (execA E C (fg 105) B 42 E0 N c105_20 (φ, H)) (execA E C (fg 105) B 42 E0 N c105_21 (φ, H)) := x_cond (by rfl) _
theorem x105_17 : execA E C (fg 105) B 42 E0 N c105_17 s = seqX (execA E C (fg 105) B 42 E0 N c105_18 s) (execA E C (fg 105) B 42 E0 N c105_19) := x_seq (by rfl) s
noncomputable def c105_22 : Code := kR c105_16
noncomputable def c105_23 : Code := kL c105_22
noncomputable def c105_24 : Code := kB c105_23
noncomputable def r105_6 : Array Oper := kO c105_24
noncomputable def o105_6_0 : Oper := opN r105_6 0
noncomputable def o105_6_1 : Oper := opN r105_6 1
noncomputable def o105_6_2 : Oper := opN r105_6 2
noncomputable def o105_6_3 : Oper := opN r105_6 3
noncomputable def o105_6_4 : Oper := opN r105_6 4
noncomputable def o105_6_5 : Oper := opN r105_6 5
noncomputable def o105_6_6 : Oper := opN r105_6 6
noncomputable def o105_6_7 : Oper := opN r105_6 7
noncomputable def o105_6_8 : Oper := opN r105_6 8
noncomputable def o105_6_9 : Oper := opN r105_6 9
noncomputable def o105_6_10 : Oper := opN r105_6 10
noncomputable def o105_6_11 : Oper := opN r105_6 11
noncomputable def o105_6_12 : Oper := opN r105_6 12
noncomputable def o105_6_13 : Oper := opN r105_6 13
noncomputable def o105_6_14 : Oper := opN r105_6 14
theorem x105_24 : execA E C (fg 105) B 42 E0 N c105_24 s = regX (drawA E C B 42 r105_6 s) (fun s => gcM E0 [24, 27, 28, 29, 30, 31, 32, 33, 34, 35, 36, 37, 38, 39, 40, 41] (forget s.1 [24, 27, 28, 29, 30, 31, 32, 33, 34, 35, 36, 37, 38, 39, 40, 41], s.2)) := x_draw (ops := r105_6) (by rfl) (by rfl) s
theorem r105_6_l : r105_6.toList = [o105_6_0, o105_6_1, o105_6_2, o105_6_3, o105_6_4, o105_6_5, o105_6_6, o105_6_7, o105_6_8, o105_6_9, o105_6_10, o105_6_11, o105_6_12, o105_6_13, o105_6_14] := nrfl rfl
theorem r105_6_st : statOk r105_6 = true := by kernel_rfl
theorem r105_6_dr : drawA E C B 42 r105_6 s = if neat 42 s = true then drX r105_6 (runT E C B 42 r105_6 r105_6.toList 0 s) else none := draw_eq r105_6_st s
theorem r105_6_an (l : List (Nat × Tr)) : dynOk r105_6 l = (!writing l || dynPairs [[], [], [], [2], [], [4], [1, 2, 3, 4, 5], [], [7], [1, 2, 3, 4, 5, 6, 7, 8], [], [], [10, 11], [], [0, 1, 2, 3, 4, 5, 6, 7, 8, 9, 10, 11, 12, 13]] (touching l)) := dynOk_eq (by kernel_rfl) l
theorem s105_6_0 : stepT E C B 42 r105_6 o105_6_0 (φ, H) = stpT (some 27) φ H (just (aLoad E.T 94 (fget φ 5))) := stT_go rfl (goT_R rfl rfl)
theorem s105_6_1 : stepT E C B 42 r105_6 o105_6_1 (φ, H) = some ((fput φ 28 (fget φ 0), H), ⟨false, [], []⟩) := stT_go rfl (goT_mv rfl rfl)
theorem s105_6_2 : stepT E C B 42 r105_6 o105_6_2 (φ, H) = some ((fput φ 29 (fget φ 0), H), ⟨false, [], []⟩) := stT_go rfl (goT_mv rfl rfl)
theorem s105_6_3 : stepT E C B 42 r105_6 o105_6_3 (φ, H) = stpT (some 30) φ H (aBuiltin E.T (B + 30) .len #[22] [(fget φ 29)]) := stT_go rfl (goT_R rfl rfl)
theorem s105_6_4 : stepT E C B 42 r105_6 o105_6_4 (φ, H) = some ((fput φ 31 (fget φ 0), H), ⟨false, [], []⟩) := stT_go rfl (goT_mv rfl rfl)
theorem s105_6_5 : stepT E C B 42 r105_6 o105_6_5 (φ, H) = stpT (some 32) φ H (aBuiltin E.T (B + 32) .len #[22] [(fget φ 31)]) := stT_go rfl (goT_R rfl rfl)
theorem s105_6_6 : stepT E C B 42 r105_6 o105_6_6 (φ, H) = stpT (some 33) φ H (just (aSlice E.T 22 (fget φ 28) none (some (fget φ 30)) (some (fget φ 32)))) := stT_go rfl (goT_R rfl rfl)
theorem s105_6_7 : stepT E C B 42 r105_6 o105_6_7 (φ, H) = some ((fput φ 34 (fget φ 9), H), ⟨false, [], []⟩) := stT_go rfl (goT_mv rfl rfl)
theorem s105_6_8 : stepT E C B 42 r105_6 o105_6_8 (φ, H) = stpT (some 35) φ H (aBuildSlice E.T (B + 35) 22 1 (evO E φ) [(0, Operand.tmp 34)]) := stT_go rfl (goT_R rfl rfl)
theorem s105_6_9 : stepT E C B 42 r105_6 o105_6_9 (φ, H) = stpT (some 36) φ H (aBuiltin E.T (B + 36) .append #[22, 22] [(fget φ 33), (fget φ 35)]) := stT_go rfl (goT_R rfl rfl)
theorem s105_6_10 : stepT E C B 42 r105_6 o105_6_10 (φ, H) = some ((fput φ 37 (fget φ 1), H), ⟨false, [], []⟩) := stT_go rfl (goT_mv rfl rfl)
theorem s105_6_11 : stepT E C B 42 r105_6 o105_6_11 (φ, H) = some ((fput φ 38 (fget φ 9), H), ⟨false, [], []⟩) := stT_go rfl (goT_mv rfl rfl)
theorem s105_6_12 : stepT E C B 42 r105_6 o105_6_12 (φ, H) = stpT (some 39) φ H (just (aBin E.T .sub 3 (fget φ 37) (fget φ 38))) := stT_go rfl (goT_R rfl rfl)
theorem s105_6_13 : stepT E C B 42 r105_6 o105_6_13 (φ, H) = some ((fput φ 40 (fget φ 9), H), ⟨false, [], []⟩) := stT_go rfl (goT_mv rfl rfl)
theorem s105_6_14 : stepT E C B 42 r105_6 o105_6_14 (φ, H) = callVT E C (B + 42 * 8) (some 41) (fun j => B + j * 42 + 41) φ H (fget φ 27) [(fget φ 36), (fget φ 39), (fget φ 40)] true := stT_go rfl (goT_V rfl rfl)
theorem x105_23 : execA E C (fg 105) B 42 E0 N c105_23 s = blockX 1 (fun s => (forget s.1 [], s.2)) (execA E C (fg 105) B 42 E0 N c105_24 s) := x_block (by rfl) (by rfl) s
noncomputable def c105_25 : Code := kR c105_22
noncomputable def r105_5 : Array Oper := kO c105_25
noncomputable def o105_5_0 : Oper := opN r105_5 0
noncomputable def o105_5_1 : Oper := opN r105_5 1
noncomputable def o105_5_2 : Oper := opN r105_5 2
theorem x105_25 : execA E C (fg 105) B 42 E0 N c105_25 s = regX (runA E C B 42 r105_5 r105_5.toList s) (fun s => gcM E0 [25, 26] (forget s.1 [25, 26], s.2)) := x_reg (ops := r105_5) (by rfl) (by rfl) s
theorem r105_5_l : r105_5.toList = [o105_5_0, o105_5_1, o105_5_2] := nrfl rfl
theorem s105_5_0 : stepA E C B 42 r105_5 o105_5_0 (φ, H) = some (fput φ 25 (fget φ 9), H) := nrfl rfl
theorem s105_5_1 : stepA E C B 42 r105_5 o105_5_1 (φ, H) = stp (some 26) φ H (just (aBin E.T .sub 3 (fget φ 25) (.int .i64 1))) := nrfl rfl
theorem s105_5_2 : stepA E C B 42 r105_5 o105_5_2 (φ, H) = some (fput φ 9 (fget φ 26), H) := nrfl rfl
theorem x105_22 : execA E C (fg 105) B 42 E0 N c105_22 s = seqX (execA E C (fg 105) B 42 E0 N c105_23 s) (execA E C (fg 105) B 42 E0 N c105_25) := x_seq (by rfl) s
theorem x105_16 : execA E C (fg 105) B 42 E0 N c105_16 s = seqX (execA E C (fg 105) B 42 E0 N c105_17 s) (execA E C (fg 105) B 42 E0 N c105_22) := x_seq (by rfl) s
theorem x105_15 : execA E C (fg 105) B 42 E0 N c105_15 s = iterA (execA E C (fg 105) B 42 E0 N c105_16) (headA E0) N s := x_loop (by rfl) s
theorem x105_14 : execA E C (fg 105) B 42 E0 N c105_14 s = blockX 0 (fun s => (forget s.1 [0, 1, 5, 9, 24], s.2)) (execA E C (fg 105) B 42 E0 N c105_15 s) := x_block (by rfl) (by rfl) s
theorem x105_12 : execA E C (fg 105) B 42 E0 N c105_12 s = seqX (execA E C (fg 105) B 42 E0 N c105_13 s) (execA E C (fg 105) B 42 E0 N c105_14) := x_seq (by rfl) s
theorem x105_0 : execA E C (fg 105) B 42 E0 N c105_0 s = seqX (execA E C (fg 105) B 42 E0 N c105_1 s) (execA E C (fg 105) B 42 E0 N c105_12) := x_seq (by rfl) s
theorem fi_105 : fInfo E 105 = some ⟨42, #[], c105_0⟩ := nrfl rfl
theorem b_105 (args : List AV) : bodyA E C fg N 105 args H B = bodyX E [] (execA E C (fg 105) B 42 H N c105_0 (frame0 args 0 [], H)) := bodyA_eq fi_105 args H
abbrev F_105 := And.intro (And.intro (And.intro (And.intro (And.intro (And.intro @x105_2 @r105_0_l) (And.intro @s105_0_0 @s105_0_1)) (And.intro (And.intro @s105_0_2 @s105_0_3) (And.intro @x105_6 @r105_1_l))) (And.intro (And.intro (And.intro @s105_1_0 @s105_1_1) (And.intro @x105_8 @r105_2_l)) (And.intro (And.intro @s105_2_0 @s105_2_1) (And.intro @s105_2_2 (And.intro @s105_2_3 @s105_2_4))))) (And.intro (And.intro (And.intro (And.intro @x105_9 @x105_7) (And.intro @x105_5 @x105_10)) (And.intro (And.intro @x105_4 @x105_11) (And.intro @x105_3 (And.intro @x105_1 @x105_13)))) (And.intro (And.intro (And.intro @r105_3_l @s105_3_0) (And.intro @s105_3_1 @s105_3_2)) (And.intro (And.intro @s105_3_3 @x105_18) (And.intro @r105_4_l (And.intro @s105_4_0 @s105_4_1)))))) (And.intro (And.intro (And.intro (And.intro (And.intro @x105_20 @x105_21) (And.intro @x105_19 @x105_17)) (And.intro (And.intro @x105_24 @r105_6_l) (And.intro @r105_6_dr (And.intro @r105_6_an @s105_6_0)))) (And.intro (And.intro (And.intro @s105_6_1 @s105_6_2) (And.intro @s105_6_3 @s105_6_4)) (And.intro (And.intro @s105_6_5 @s105_6_6) (And.intro @s105_6_7 (And.intro @s105_6_8 @s105_6_9))))) (And.intro (And.intro (And.intro (And.intro @s105_6_10 @s105_6_11) (And.intro @s105_6_12 @s105_6_13)) (And.intro (And.intro @s105_6_14 @x105_23) (And.intro @x105_25 (And.intro @r105_5_l @s105_5_0)))) (And.intro (And.intro (And.intro @s105_5_1 @s105_5_2) (And.intro @x105_22 @x105_16)) (And.intro (And.intro @x105_15 @x105_14) (And.intro @x105_12 (And.intro @x105_0 @b_105))))))
end Go.AM.Ytfmnoohhhokicaa
end

section
namespace Go.AM.Ytfmnoohhhokicaa
open Go Go.AM Go.AM.Rub
set_option maxRecDepth 100000
set_option maxHeartbeats 4000000
def chE (l : List Int) (i : Nat) : Int := if rowF l i < 0 ∨ rowF l i > 8 then 1 else if 0 < i ∧ rowF l i > rowF l (i - 1) then 7 else 0
def chkR (l : List Int) : Int := if l.length = 0 then 4 else if l.length > 6 then 3 else fe (chE l) 0 l.length
theorem chkR_zero {l : List Int} : chkR l = 0 ↔ 0 < l.length ∧ l.length ≤ 6 ∧ Rw l.length l := by
  unfold chkR
  split
  · rename_i h; exact ⟨fun e => absurd e (by decide), fun e => by omega⟩
  · split
    · rename_i h; exact ⟨fun e => absurd e (by decide), fun e => by omega⟩
    · rename_i h1 h2
      rw [fe_zero]
      constructor
      · intro h
        have h0 : ∀ i, i < l.length → 0 ≤ rowF l i ∧ rowF l i ≤ 8 ∧ (0 < i → rowF l i ≤ rowF l (i - 1)) := by
          intro i hi
          have := h i (by omega) (by omega)
          unfold chE at this
          split at this
          · exact absurd this (by decide)
          · split at this
            · exact absurd this (by decide)
            · rename_i a b
              exact ⟨by omega, by omega, fun hp => Int.not_lt.1 fun hh => b ⟨hp, hh⟩⟩
        refine ⟨by omega, by omega, rfl, isRow_of (fun i hi => (h0 i hi).1) (fun hp => (h0 0 hp).2.1) fun i hi => ?_⟩
        have := (h0 (i + 1) hi).2.2 (by omega)
        simpa using this
      · rintro ⟨_, _, hr⟩ i _ hi
        have hb := rw_b hr (k := i) (by omega)
        unfold chE
        rw [if_neg (by omega), if_neg]
        rintro ⟨hp, hlt⟩
        have := row_desc hr.row (i - 1) (by omega)
        rw [show i - 1 + 1 = i by omega] at this
        omega
abbrev chS (l : List Int) (ex : Bool) (i : Nat) : St := ([(15, .int .i64 i), (14, .int .i64 l.length), (13, .imm (ics l) l.length ex), (0, .imm (ics l) l.length ex)], [])
theorem ch_go {C : Callee} {l : List Int} {ex : Bool} (h6 : l.length ≤ 6) (i : Nat) (hi : i < l.length) (he : chE l i = 0) :
    ∃ s', (execA E C (fg 25) 0 40 [] 1000000 c25_22) (chS l ex i) = some (.normal, s') ∧ headA [] s' = chS l ex (i + 1) := by
  have hlen := ics_length l
  have hat := icr_at hi
  have hat1 := icr_at (l := l) (k := i - 1) (by omega)
  have g1 : (i : Int) < l.length := by omega
  unfold chE at he
  split at he
  · exact absurd he (by decide)
  · split at he
    · exact absurd he (by decide)
    · rename_i a b
      have a1 : ¬ rowF l i < 0 := by omega
      have a2 : ¬ rowF l i > 8 := by omega
      rcases Nat.eq_zero_or_pos i with hz | hp
      · subst hz
        simp (disch := omega) only [ZF, ↓gd, stp, opPick, just, Rd.bind, Rd.run, Rd.opt, upds, tsz, rdCells, aLoad, aIndexAddr, aNum, aBin, aInt, Nat.reduceLT, Nat.reduceBEq, Nat.reduceEqDiff, Nat.reduceLeDiff, ↓reduceIte, reduceCtorEq, Int.reduceLE, Int.reduceToNat, ZT, F_25, hat, hlen, a1, a2, cl0, if_pos]
        exact ⟨_, rfl, rfl⟩
      · have b1 : ¬ rowF l i > rowF l (i - 1) := fun hh => b ⟨hp, hh⟩
        have g2 : (i : Int) > 0 := by omega
        have w1 : wrp .i64 ((i : Int) - 1) = ((i - 1 : Nat) : Int) := by rw [wrp64 (by omega)]; omega
        have g3 : ((i - 1 : Nat) : Int) < l.length := by omega
        simp (disch := omega) only [ZF, ↓gd, stp, opPick, just, Rd.bind, Rd.run, Rd.opt, upds, tsz, rdCells, aLoad, aIndexAddr, aNum, aBin, aInt, Nat.reduceLT, Nat.reduceBEq, Nat.reduceEqDiff, Nat.reduceLeDiff, ↓reduceIte, reduceCtorEq, ZT, F_25, g1, g2, g3, hat, hat1, hlen, a1, a2, b1, w1, wrp_succ (show i < 1000000 by omega)]
        exact ⟨_, rfl, rfl⟩
theorem ch_bad {C : Callee} {l : List Int} {ex : Bool} (h6 : l.length ≤ 6) (i : Nat) (hi : i < l.length) (he : chE l i ≠ 0) :
    ∃ H, (execA E C (fg 25) 0 40 [] 1000000 c25_22) (chS l ex i) = some (.ret, ([(2, .int .i64 (chE l i))], H)) := by
  have hlen := ics_length l
  have hat := icr_at hi
  have hat1 := icr_at (l := l) (k := i - 1) (by omega)
  have g1 : (i : Int) < l.length := by omega
  unfold chE at he ⊢
  by_cases a : rowF l i < 0 ∨ rowF l i > 8
  · rw [if_pos a]
    rcases a with a | a
    · simp (disch := omega) only [ZF, ↓gd, stp, opPick, just, Rd.bind, Rd.run, Rd.opt, upds, tsz, rdCells, aLoad, aIndexAddr, aNum, aBin, aInt, Nat.reduceLT, Nat.reduceBEq, Nat.reduceEqDiff, Nat.reduceLeDiff, ↓reduceIte, reduceCtorEq, ZT, F_25, g1, hat, hlen, a]
      exact ⟨_, rfl⟩
    · have a1 : ¬ rowF l i < 0 := by omega
      simp (disch := omega) only [ZF, ↓gd, stp, opPick, just, Rd.bind, Rd.run, Rd.opt, upds, tsz, rdCells, aLoad, aIndexAddr, aNum, aBin, aInt, Nat.reduceLT, Nat.reduceBEq, Nat.reduceEqDiff, Nat.reduceLeDiff, ↓reduceIte, reduceCtorEq, ZT, F_25, g1, hat, hlen, a, a1]
      exact ⟨_, rfl⟩
  · rw [if_neg a] at he ⊢
    have a1 : ¬ rowF l i < 0 := by omega
    have a2 : ¬ rowF l i > 8 := by omega
    by_cases b : 0 < i ∧ rowF l i > rowF l (i - 1)
    · rw [if_pos b]
      obtain ⟨hp, b⟩ := b
      have g2 : (i : Int) > 0 := by omega
      have w1 : wrp .i64 ((i : Int) - 1) = ((i - 1 : Nat) : Int) := by rw [wrp64 (by omega)]; omega
      have g3 : ((i - 1 : Nat) : Int) < l.length := by omega
      simp (disch := omega) only [ZF, ↓gd, stp, opPick, just, Rd.bind, Rd.run, Rd.opt, upds, tsz, rdCells, aLoad, aIndexAddr, aNum, aBin, aInt, Nat.reduceLT, Nat.reduceBEq, Nat.reduceEqDiff, Nat.reduceLeDiff, ↓reduceIte, reduceCtorEq, ZT, F_25, g1, g2, g3, hat, hat1, hlen, a1, a2, b, w1]
      exact ⟨_, rfl⟩
    · rw [if_neg b] at he; exact absurd rfl he
theorem check_run {C : Callee} {l : List Int} {a : AV} (ha : IV l a) (hl : l.length ≤ 1000) : rsOf (bodyA E C fg 1000000 25 [a] [] 0) = some (.int .i64 (chkR l)) := by
  rcases ha with ⟨rfl, rfl⟩ | ⟨ex, rfl⟩
  · simp (disch := omega) only [ZF, frame0, stp, just, Rd.bind, Rd.run, Rd.opt, upds, resA, resL, aLen, aBuiltin, aBin, aInt, Nat.reduceBEq, Nat.reduceEqDiff, Nat.reduceLeDiff, ↓reduceIte, reduceCtorEq, ZT, F_25, chkR]
  · unfold chkR
    by_cases h0 : l.length = 0
    · rw [if_pos h0]
      have g0 : (l.length : Int) = 0 := by omega
      simp (disch := omega) only [ZF, frame0, stp, just, Rd.bind, Rd.run, Rd.opt, upds, resA, resL, aLen, aBuiltin, aBin, aInt, Nat.reduceBEq, Nat.reduceEqDiff, Nat.reduceLeDiff, ↓reduceIte, reduceCtorEq, ZT, F_25, g0]
    · rw [if_neg h0]
      have g0 : ¬ (l.length : Int) = 0 := by omega
      have g0' : ((l.length : Int) == 0) = false := by rw [beq_eq_false_iff_ne]; exact g0
      by_cases h6 : l.length > 6
      · rw [if_pos h6]
        have g1 : (l.length : Int) > 6 := by omega
        simp (disch := omega) only [ZF, frame0, stp, just, Rd.bind, Rd.run, Rd.opt, upds, resA, resL, aLen, aBuiltin, aBin, aInt, Nat.reduceBEq, Nat.reduceEqDiff, Nat.reduceLeDiff, ↓reduceIte, reduceCtorEq, ZT, F_25, g0', g1]
      · rw [if_neg h6]
        have g1 : ¬ (l.length : Int) > 6 := by omega
        have hlen := ics_length l
        have hloop := loopE (f := (execA E C (fg 25) 0 40 [] 1000000 c25_22)) (e := chE l) (R := fun e H => ([(2, .int .i64 e)], H)) (chS l ex) l.length (E0 := []) rfl (by omega) (x := .exit 1) (se := ([(16, .bool false), (15, .int .i64 l.length), (14, .int .i64 l.length), (13, .imm (ics l) l.length ex), (0, .imm (ics l) l.length ex)], [])) (by simp)
          (fun i hi _ he => ch_go (by omega) i hi he) (fun i hi _ he => ch_bad (by omega) i hi he) (fun _ => by simp (disch := omega) only [ZF, stp, just, Rd.bind, Rd.run, Rd.opt, upds, aBin, aInt, Nat.reduceEqDiff, Nat.reduceLeDiff, ↓reduceIte, F_25, chS])
        simp only [chS, cl0] at hloop
        rcases hloop with ⟨hz, hloop⟩ | ⟨hz, H, hloop⟩
        · rw [hz]
          simp (disch := omega) only [ZF, frame0, stp, just, Rd.bind, Rd.run, Rd.opt, upds, resA, resL, aLen, aBuiltin, aBin, aInt, Nat.reduceBEq, Nat.reduceEqDiff, Nat.reduceLeDiff, ↓reduceIte, reduceCtorEq, ZT, F_25, g0', g1, hloop]
        · simp (disch := omega) only [ZF, frame0, stp, just, Rd.bind, Rd.run, Rd.opt, upds, resA, resL, aLen, aBuiltin, aBin, aInt, Nat.reduceBEq, Nat.reduceEqDiff, Nat.reduceLeDiff, ↓reduceIte, reduceCtorEq, ZT, F_25, g0', g1, hloop]
theorem check_call {d : Nat} {site : Nat → Nat} {seen : List Nat} {l : List Int} {a : AV} (ha : IV l a) (hl : l.length ≤ 1000) : aBack site true seen (thaw (kF (d + 1)) 25 [a] [] 0) = .pure (.int .i64 (chkR l), []) :=
  aBack_int (kF_ex rfl (check_run ha hl))
end Go.AM.Ytfmnoohhhokicaa
end
