/- Of each function the parts of its text and an equation for each of them: printed by sym.py (own work). -/
import Derived.Test.YteellnlcligpfaaAmSy
import Derived.Test.YteellnlcligpfaaEnv
import Derived.KernelRfl
import Derived.Test.YteellnlcligpfaaSyA

namespace Go.AM.Yteellnlcligpfaa
open Go Go.AM
set_option maxRecDepth 100000
variable {C : Callee} {B N : Nat} {E0 : AHeap} (φ : AFr) (H : AHeap) (s : St)

/-! ### f56: novaculite/novaculiteref07.in -/
noncomputable def c56_0 : Code := kBody Proofs.Try.f56
noncomputable def c56_1 : Code := kL c56_0
noncomputable def r56_0 : Array Oper := kO c56_1
noncomputable def o56_0_0 : Oper := opN r56_0 0
theorem x56_1 : execA E C (fg 56) B 15 E0 N c56_1 s = regX (runA E C B 15 r56_0 r56_0.toList s) (fun s => gcM E0 [6] (forget s.1 [6], s.2)) := x_reg (ops := r56_0) (by rfl) (by rfl) s
theorem r56_0_l : r56_0.toList = [o56_0_0] := nrfl rfl
theorem s56_0_0 : stepA E C B 15 r56_0 o56_0_0 (φ, H) = some (fput φ 6 (.bool false), H) := nrfl rfl
noncomputable def c56_2 : Code := kR c56_0
noncomputable def c56_3 : Code := kL c56_2
noncomputable def r56_1 : Array Oper := kO c56_3
noncomputable def o56_1_0 : Oper := opN r56_1 0
noncomputable def o56_1_1 : Oper := opN r56_1 1
noncomputable def o56_1_2 : Oper := opN r56_1 2
noncomputable def o56_1_3 : Oper := opN r56_1 3
noncomputable def o56_1_4 : Oper := opN r56_1 4
noncomputable def o56_1_5 : Oper := opN r56_1 5
noncomputable def o56_1_6 : Oper := opN r56_1 6
noncomputable def o56_1_7 : Oper := opN r56_1 7
noncomputable def o56_1_8 : Oper := opN r56_1 8
theorem x56_3 : execA E C (fg 56) B 15 E0 N c56_3 s = regX (runA E C B 15 r56_1 r56_1.toList s) (fun s => gcM E0 [0, 1, 2, 7, 8, 9, 10, 11, 12, 13, 14] (forget s.1 [0, 1, 2, 7, 8, 9, 10, 11, 12, 13, 14], s.2)) := x_reg (ops := r56_1) (by rfl) (by rfl) s
theorem r56_1_l : r56_1.toList = [o56_1_0, o56_1_1, o56_1_2, o56_1_3, o56_1_4, o56_1_5, o56_1_6, o56_1_7, o56_1_8] := nrfl rfl
theorem s56_1_0 : stepA E C B 15 r56_1 o56_1_0 (φ, H) = some (fput φ 7 (fget φ 0), H) := nrfl rfl
theorem s56_1_1 : stepA E C B 15 r56_1 o56_1_1 (φ, H) = some (fput φ 8 (fget φ 1), H) := nrfl rfl
theorem s56_1_2 : stepA E C B 15 r56_1 o56_1_2 (φ, H) = stp (some 9) φ H (just (aBin E.T .geq 3 (fget φ 7) (fget φ 8))) := nrfl rfl
theorem s56_1_3 : stepA E C B 15 r56_1 o56_1_3 (φ, H) = some (fput φ 10 (fget φ 9), H) := nrfl rfl
theorem s56_1_4 : stepA E C B 15 r56_1 o56_1_4 (φ, H) = gd φ 10 true (fun φ => some (fput φ 11 (.tup []), H)) (fun φ => some (fput φ 11 (fget φ 0), H)) := s_gd (j := 3) (oj := o56_1_3) rfl rfl rfl (fun _ => rfl) (fun _ => rfl)
theorem s56_1_5 : stepA E C B 15 r56_1 o56_1_5 (φ, H) = gd φ 10 true (fun φ => some (fput φ 12 (.tup []), H)) (fun φ => some (fput φ 12 (fget φ 2), H)) := s_gd (j := 3) (oj := o56_1_3) rfl rfl rfl (fun _ => rfl) (fun _ => rfl)
theorem s56_1_6 : stepA E C B 15 r56_1 o56_1_6 (φ, H) = gd φ 10 true (fun φ => some (fput φ 13 (.tup []), H)) (fun φ => stp (some 13) φ H (just (aBin E.T .leq 3 (fget φ 11) (fget φ 12)))) := s_gd (j := 3) (oj := o56_1_3) rfl rfl rfl (fun _ => rfl) (fun _ => rfl)
theorem s56_1_7 : stepA E C B 15 r56_1 o56_1_7 (φ, H) = stp (some 14) φ H (opPick (fget φ 10) (fget φ 13) (.bool false)) := nrfl rfl
theorem s56_1_8 : stepA E C B 15 r56_1 o56_1_8 (φ, H) = some (fput φ 6 (fget φ 14), H) := nrfl rfl
noncomputable def c56_4 : Code := kR c56_2
theorem x56_4 : execA E C (fg 56) B 15 E0 N c56_4 s = some (.ret, s) := x_ret (by rfl) s
theorem x56_2 : execA E C (fg 56) B 15 E0 N c56_2 s = seqX (execA E C (fg 56) B 15 E0 N c56_3 s) (execA E C (fg 56) B 15 E0 N c56_4) := x_seq (by rfl) s
theorem x56_0 : execA E C (fg 56) B 15 E0 N c56_0 s = seqX (execA E C (fg 56) B 15 E0 N c56_1 s) (execA E C (fg 56) B 15 E0 N c56_2) := x_seq (by rfl) s
theorem fi_56 : fInfo E 56 = some ⟨15, #[.tmp 6], c56_0⟩ := nrfl rfl
theorem b_56 (args : List AV) : bodyA E C fg N 56 args H B = bodyX E [.tmp 6] (execA E C (fg 56) B 15 H N c56_0 (frame0 args 0 [], H)) := bodyA_eq fi_56 args H
/-! ### f18: novaculite/novaculiteref07.Check -/
noncomputable def c18_0 : Code := kBody Proofs.Try.f18
noncomputable def c18_1 : Code := kL c18_0
noncomputable def r18_0 : Array Oper := kO c18_1
noncomputable def o18_0_0 : Oper := opN r18_0 0
theorem x18_1 : execA E C (fg 18) B 48 E0 N c18_1 s = regX (runA E C B 48 r18_0 r18_0.toList s) (fun s => gcM E0 [2] (forget s.1 [2], s.2)) := x_reg (ops := r18_0) (by rfl) (by rfl) s
theorem r18_0_l : r18_0.toList = [o18_0_0] := nrfl rfl
theorem s18_0_0 : stepA E C B 48 r18_0 o18_0_0 (φ, H) = some (fput φ 2 (.int .i64 0), H) := nrfl rfl
noncomputable def c18_2 : Code := kR c18_0
noncomputable def c18_3 : Code := kL c18_2
noncomputable def c18_4 : Code := kL c18_3
noncomputable def r18_1 : Array Oper := kO c18_4
noncomputable def o18_1_0 : Oper := opN r18_1 0
noncomputable def o18_1_1 : Oper := opN r18_1 1
noncomputable def o18_1_2 : Oper := opN r18_1 2
theorem x18_4 : execA E C (fg 18) B 48 E0 N c18_4 s = regX (runA E C B 48 r18_1 r18_1.toList s) (fun s => gcM E0 [5, 6] (forget s.1 [5, 6], s.2)) := x_reg (ops := r18_1) (by rfl) (by rfl) s
theorem r18_1_l : r18_1.toList = [o18_1_0, o18_1_1, o18_1_2] := nrfl rfl
theorem s18_1_0 : stepA E C B 48 r18_1 o18_1_0 (φ, H) = some (fput φ 5 (fget φ 0), H) := nrfl rfl
theorem s18_1_1 : stepA E C B 48 r18_1 o18_1_1 (φ, H) = stp (some 6) φ H (aBuiltin E.T (B + 6) .len #[25] [(fget φ 5)]) := nrfl rfl
theorem s18_1_2 : stepA E C B 48 r18_1 o18_1_2 (φ, H) = stp (some 7) φ H (just (aBin E.T .eql 3 (fget φ 6) (.int .i64 0))) := nrfl rfl
noncomputable def c18_5 : Code := kR c18_3
noncomputable def c18_6 : Code := kT c18_5
noncomputable def c18_7 : Code := kL c18_6
noncomputable def r18_2 : Array Oper := kO c18_7
noncomputable def o18_2_0 : Oper := opN r18_2 0
theorem x18_7 : execA E C (fg 18) B 48 E0 N c18_7 s = regX (runA E C B 48 r18_2 r18_2.toList s) (fun s => gcM E0 [0, 7] (forget s.1 [0, 7], s.2)) := x_reg (ops := r18_2) (by rfl) (by rfl) s
theorem r18_2_l : r18_2.toList = [o18_2_0] := nrfl rfl
theorem s18_2_0 : stepA E C B 48 r18_2 o18_2_0 (φ, H) = some (fput φ 2 (.int .i64 4), H) := nrfl rfl
noncomputable def c18_8 : Code := kR c18_6
theorem x18_8 : execA E C (fg 18) B 48 E0 N c18_8 s = some (.ret, s) := x_ret (by rfl) s
theorem x18_6 : execA E C (fg 18) B 48 E0 N c18_6 s = seqX (execA E C (fg 18) B 48 E0 N c18_7 s) (execA E C (fg 18) B 48 E0 N c18_8) := x_seq (by rfl) s
noncomputable def c18_9 : Code := kE c18_5
theorem x18_9 : execA E C (fg 18) B 48 E0 N c18_9 s = some (.normal, s) := x_skip (by rfl) s
theorem x18_5 : execA E C (fg 18) B 48 E0 N c18_5 (φ, H) = condX (fget φ 7) (execA E C (fg 18) B 48 E0 N c18_6 (φ, H)) (execA E C (fg 18) B 48 E0 N c18_9 (φ, H)) := x_cond (by rfl) _
theorem x18_3 : execA E C (fg 18) B 48 E0 N c18_3 s = seqX (execA E C (fg 18) B 48 E0 N c18_4 s) (execA E C (fg 18) B 48 E0 N c18_5) := x_seq (by rfl) s
noncomputable def c18_10 : Code := kR c18_2
noncomputable def c18_11 : Code := kL c18_10
noncomputable def c18_12 : Code := kL c18_11
noncomputable def r18_3 : Array Oper := kO c18_12
noncomputable def o18_3_0 : Oper := opN r18_3 0
noncomputable def o18_3_1 : Oper := opN r18_3 1
noncomputable def o18_3_2 : Oper := opN r18_3 2
theorem x18_12 : execA E C (fg 18) B 48 E0 N c18_12 s = regX (runA E C B 48 r18_3 r18_3.toList s) (fun s => gcM E0 [7, 8, 9] (forget s.1 [7, 8, 9], s.2)) := x_reg (ops := r18_3) (by rfl) (by rfl) s
theorem r18_3_l : r18_3.toList = [o18_3_0, o18_3_1, o18_3_2] := nrfl rfl
theorem s18_3_0 : stepA E C B 48 r18_3 o18_3_0 (φ, H) = some (fput φ 8 (fget φ 0), H) := nrfl rfl
theorem s18_3_1 : stepA E C B 48 r18_3 o18_3_1 (φ, H) = stp (some 9) φ H (aBuiltin E.T (B + 9) .len #[25] [(fget φ 8)]) := nrfl rfl
theorem s18_3_2 : stepA E C B 48 r18_3 o18_3_2 (φ, H) = stp (some 10) φ H (just (aBin E.T .gtr 3 (fget φ 9) (.int .i64 5))) := nrfl rfl
noncomputable def c18_13 : Code := kR c18_11
noncomputable def c18_14 : Code := kT c18_13
noncomputable def c18_15 : Code := kL c18_14
noncomputable def r18_4 : Array Oper := kO c18_15
noncomputable def o18_4_0 : Oper := opN r18_4 0
theorem x18_15 : execA E C (fg 18) B 48 E0 N c18_15 s = regX (runA E C B 48 r18_4 r18_4.toList s) (fun s => gcM E0 [0, 10] (forget s.1 [0, 10], s.2)) := x_reg (ops := r18_4) (by rfl) (by rfl) s
theorem r18_4_l : r18_4.toList = [o18_4_0] := nrfl rfl
theorem s18_4_0 : stepA E C B 48 r18_4 o18_4_0 (φ, H) = some (fput φ 2 (.int .i64 3), H) := nrfl rfl
noncomputable def c18_16 : Code := kR c18_14
theorem x18_16 : execA E C (fg 18) B 48 E0 N c18_16 s = some (.ret, s) := x_ret (by rfl) s
theorem x18_14 : execA E C (fg 18) B 48 E0 N c18_14 s = seqX (execA E C (fg 18) B 48 E0 N c18_15 s) (execA E C (fg 18) B 48 E0 N c18_16) := x_seq (by rfl) s
noncomputable def c18_17 : Code := kE c18_13
theorem x18_17 : execA E C (fg 18) B 48 E0 N c18_17 s = some (.normal, s) := x_skip (by rfl) s
theorem x18_13 : execA E C (fg 18) B 48 E0 N c18_13 (φ, H) = condX (fget φ 10) (execA E C (fg 18) B 48 E0 N c18_14 (φ, H)) (execA E C (fg 18) B 48 E0 N c18_17 (φ, H)) := x_cond (by rfl) _
theorem x18_11 : execA E C (fg 18) B 48 E0 N c18_11 s = seqX (execA E C (fg 18) B 48 E0 N c18_12 s) (execA E C (fg 18) B 48 E0 N c18_13) := x_seq (by rfl) s
noncomputable def c18_18 : Code := kR c18_10
noncomputable def c18_19 : Code := kL c18_18
noncomputable def c18_20 : Code := kL c18_19
noncomputable def r18_5 : Array Oper := kO c18_20
noncomputable def o18_5_0 : Oper := opN r18_5 0
theorem x18_20 : execA E C (fg 18) B 48 E0 N c18_20 s = regX (runA E C B 48 r18_5 r18_5.toList s) (fun s => gcM E0 [10] (forget s.1 [10], s.2)) := x_reg (ops := r18_5) (by rfl) (by rfl) s
theorem r18_5_l : r18_5.toList = [o18_5_0] := nrfl rfl
theorem s18_5_0 : stepA E C B 48 r18_5 o18_5_0 (φ, H) = some (fput φ 3 (.int .i64 0), H) := nrfl rfl
noncomputable def c18_21 : Code := kR c18_19
noncomputable def c18_22 : Code := kB c18_21
noncomputable def c18_23 : Code := kB c18_22
noncomputable def c18_24 : Code := kL c18_23
noncomputable def c18_25 : Code := kL c18_24
noncomputable def r18_6 : Array Oper := kO c18_25
noncomputable def o18_6_0 : Oper := opN r18_6 0
noncomputable def o18_6_1 : Oper := opN r18_6 1
noncomputable def o18_6_2 : Oper := opN r18_6 2
noncomputable def o18_6_3 : Oper := opN r18_6 3
theorem x18_25 : execA E C (fg 18) B 48 E0 N c18_25 s = regX (runA E C B 48 r18_6 r18_6.toList s) (fun s => gcM E0 [11, 12, 13] (forget s.1 [11, 12, 13], s.2)) := x_reg (ops := r18_6) (by rfl) (by rfl) s
theorem r18_6_l : r18_6.toList = [o18_6_0, o18_6_1, o18_6_2, o18_6_3] := nrfl rfl
theorem s18_6_0 : stepA E C B 48 r18_6 o18_6_0 (φ, H) = some (fput φ 11 (fget φ 3), H) := nrfl rfl
theorem s18_6_1 : stepA E C B 48 r18_6 o18_6_1 (φ, H) = some (fput φ 12 (fget φ 0), H) := nrfl rfl
theorem s18_6_2 : stepA E C B 48 r18_6 o18_6_2 (φ, H) = stp (some 13) φ H (aBuiltin E.T (B + 13) .len #[25] [(fget φ 12)]) := nrfl rfl
theorem s18_6_3 : stepA E C B 48 r18_6 o18_6_3 (φ, H) = stp (some 14) φ H (just (aBin E.T .lss 3 (fget φ 11) (fget φ 13))) := nrfl rfl
noncomputable def c18_26 : Code := kR c18_24
noncomputable def c18_27 : Code := kT c18_26
theorem x18_27 : execA E C (fg 18) B 48 E0 N c18_27 s = some (.normal, s) := x_skip (by rfl) s
noncomputable def c18_28 : Code := kE c18_26
theorem x18_28 : execA E C (fg 18) B 48 E0 N c18_28 s = some (.exit 0, s) := x_exit (by rfl) s
theorem x18_26 : execA E C (fg 18) B 48 E0 N c18_26 (φ, H) = condX (fget φ 14) (execA E C (fg 18) B 48 E0 N c18_27 (φ, H)) (execA E C (fg 18) B 48 E0 N c18_28 (φ, H)) := x_cond (by rfl) _
theorem x18_24 : execA E C (fg 18) B 48 E0 N c18_24 s = seqX (execA E C (fg 18) B 48 E0 N c18_25 s) (execA E C (fg 18) B 48 E0 N c18_26) := x_seq (by rfl) s
noncomputable def c18_29 : Code := kR c18_23
noncomputable def c18_30 : Code := kL c18_29
noncomputable def c18_31 : Code := kB c18_30
noncomputable def c18_32 : Code := kL c18_31
noncomputable def r18_8 : Array Oper := kO c18_32
noncomputable def o18_8_0 : Oper := opN r18_8 0
noncomputable def o18_8_1 : Oper := opN r18_8 1
noncomputable def o18_8_2 : Oper := opN r18_8 2
noncomputable def o18_8_3 : Oper := opN r18_8 3
noncomputable def o18_8_4 : Oper := opN r18_8 4
noncomputable def o18_8_5 : Oper := opN r18_8 5
theorem x18_32 : execA E C (fg 18) B 48 E0 N c18_32 s = regX (runA E C B 48 r18_8 r18_8.toList s) (fun s => gcM E0 [14, 17, 18, 19, 20] (forget s.1 [14, 17, 18, 19, 20], s.2)) := x_reg (ops := r18_8) (by rfl) (by rfl) s
theorem r18_8_l : r18_8.toList = [o18_8_0, o18_8_1, o18_8_2, o18_8_3, o18_8_4, o18_8_5] := nrfl rfl
theorem s18_8_0 : stepA E C B 48 r18_8 o18_8_0 (φ, H) = some (fput φ 17 (fget φ 0), H) := nrfl rfl
theorem s18_8_1 : stepA E C B 48 r18_8 o18_8_1 (φ, H) = some (fput φ 18 (fget φ 3), H) := nrfl rfl
theorem s18_8_2 : stepA E C B 48 r18_8 o18_8_2 (φ, H) = stp (some 19) φ H (just (aIndexAddr E.T 25 (fget φ 17) (fget φ 18))) := nrfl rfl
theorem s18_8_3 : stepA E C B 48 r18_8 o18_8_3 (φ, H) = stp (some 20) φ H (just (aLoad E.T 82 (fget φ 19))) := nrfl rfl
theorem s18_8_4 : stepA E C B 48 r18_8 o18_8_4 (φ, H) = stp (some 4) φ H (opBox (B + 4) (zeroCells E.T 82)) := nrfl rfl
theorem s18_8_5 : stepA E C B 48 r18_8 o18_8_5 (φ, H) = stp none φ H (opStore E.T 82 (fget φ 4) (fget φ 20)) := nrfl rfl
noncomputable def c18_33 : Code := kR c18_31
noncomputable def c18_34 : Code := kL c18_33
noncomputable def c18_35 : Code := kL c18_34
noncomputable def r18_9 : Array Oper := kO c18_35
noncomputable def o18_9_0 : Oper := opN r18_9 0
noncomputable def o18_9_1 : Oper := opN r18_9 1
noncomputable def o18_9_2 : Oper := opN r18_9 2
noncomputable def o18_9_3 : Oper := opN r18_9 3
noncomputable def o18_9_4 : Oper := opN r18_9 4
noncomputable def o18_9_5 : Oper := opN r18_9 5
noncomputable def o18_9_6 : Oper := opN r18_9 6
noncomputable def o18_9_7 : Oper := opN r18_9 7
noncomputable def o18_9_8 : Oper := opN r18_9 8
noncomputable def o18_9_9 : Oper := opN r18_9 9
noncomputable def o18_9_10 : Oper := opN r18_9 10
noncomputable def o18_9_11 : Oper := opN r18_9 11
noncomputable def o18_9_12 : Oper := opN r18_9 12
noncomputable def o18_9_13 : Oper := opN r18_9 13
noncomputable def o18_9_14 : Oper := opN r18_9 14
noncomputable def o18_9_15 : Oper := opN r18_9 15
noncomputable def o18_9_16 : Oper := opN r18_9 16
noncomputable def o18_9_17 : Oper := opN r18_9 17
noncomputable def o18_9_18 : Oper := opN r18_9 18
noncomputable def o18_9_19 : Oper := opN r18_9 19
noncomputable def o18_9_20 : Oper := opN r18_9 20
noncomputable def o18_9_21 : Oper := opN r18_9 21
theorem x18_35 : execA E C (fg 18) B 48 E0 N c18_35 s = regX (runA E C B 48 r18_9 r18_9.toList s) (fun s => gcM E0 [21, 22, 23, 24, 25, 26, 27, 28, 29, 30, 31, 32, 33, 34, 35, 36, 37, 38, 39, 40, 41] (forget s.1 [21, 22, 23, 24, 25, 26, 27, 28, 29, 30, 31, 32, 33, 34, 35, 36, 37, 38, 39, 40, 41], s.2)) := x_reg (ops := r18_9) (by rfl) (by rfl) s
theorem r18_9_l : r18_9.toList = [o18_9_0, o18_9_1, o18_9_2, o18_9_3, o18_9_4, o18_9_5, o18_9_6, o18_9_7, o18_9_8, o18_9_9, o18_9_10, o18_9_11, o18_9_12, o18_9_13, o18_9_14, o18_9_15, o18_9_16, o18_9_17, o18_9_18, o18_9_19, o18_9_20, o18_9_21] := nrfl rfl
theorem s18_9_0 : stepA E C B 48 r18_9 o18_9_0 (φ, H) = stp (some 21) φ H (just (aFieldAddr E.T 82 (fget φ 4) 0)) := nrfl rfl
theorem s18_9_1 : stepA E C B 48 r18_9 o18_9_1 (φ, H) = stp (some 22) φ H (just (aLoad E.T 3 (fget φ 21))) := nrfl rfl
theorem s18_9_2 : stepA E C B 48 r18_9 o18_9_2 (φ, H) = stp (some 23) φ H (aCall C (fun j => B + j * 48 + 23) true 56 [(fget φ 22), (.int .i64 1), (.int .i64 4194304)]) := nrfl rfl
theorem s18_9_3 : stepA E C B 48 r18_9 o18_9_3 (φ, H) = stp (some 24) φ H (justO (aUn .not (fget φ 23))) := nrfl rfl
theorem s18_9_4 : stepA E C B 48 r18_9 o18_9_4 (φ, H) = some (fput φ 25 (fget φ 24), H) := nrfl rfl
theorem s18_9_5 : stepA E C B 48 r18_9 o18_9_5 (φ, H) = gd φ 25 false (fun φ => some (fput φ 26 (.tup []), H)) (fun φ => stp (some 26) φ H (just (aFieldAddr E.T 82 (fget φ 4) 1))) := s_gd (j := 4) (oj := o18_9_4) rfl rfl rfl (fun _ => rfl) (fun _ => rfl)
theorem s18_9_6 : stepA E C B 48 r18_9 o18_9_6 (φ, H) = gd φ 25 false (fun φ => some (fput φ 27 (.tup []), H)) (fun φ => stp (some 27) φ H (just (aLoad E.T 3 (fget φ 26)))) := s_gd (j := 4) (oj := o18_9_4) rfl rfl rfl (fun _ => rfl) (fun _ => rfl)
theorem s18_9_7 : stepA E C B 48 r18_9 o18_9_7 (φ, H) = gd φ 25 false (fun φ => some (fput φ 28 (.tup []), H)) (fun φ => stp (some 28) φ H (aCall C (fun j => B + j * 48 + 28) true 56 [(fget φ 27), (.int .i64 (-33554432)), (.int .i64 33554432)])) := s_gd (j := 4) (oj := o18_9_4) rfl rfl rfl (fun _ => rfl) (fun _ => rfl)
theorem s18_9_8 : stepA E C B 48 r18_9 o18_9_8 (φ, H) = gd φ 25 false (fun φ => some (fput φ 29 (.tup []), H)) (fun φ => stp (some 29) φ H (justO (aUn .not (fget φ 28)))) := s_gd (j := 4) (oj := o18_9_4) rfl rfl rfl (fun _ => rfl) (fun _ => rfl)
theorem s18_9_9 : stepA E C B 48 r18_9 o18_9_9 (φ, H) = stp (some 30) φ H (opPick (fget φ 25) (.bool true) (fget φ 29)) := nrfl rfl
theorem s18_9_10 : stepA E C B 48 r18_9 o18_9_10 (φ, H) = some (fput φ 31 (fget φ 30), H) := nrfl rfl
theorem s18_9_11 : stepA E C B 48 r18_9 o18_9_11 (φ, H) = gd φ 31 false (fun φ => some (fput φ 32 (.tup []), H)) (fun φ => stp (some 32) φ H (just (aFieldAddr E.T 82 (fget φ 4) 2))) := s_gd (j := 10) (oj := o18_9_10) rfl rfl rfl (fun _ => rfl) (fun _ => rfl)
theorem s18_9_12 : stepA E C B 48 r18_9 o18_9_12 (φ, H) = gd φ 31 false (fun φ => some (fput φ 33 (.tup []), H)) (fun φ => stp (some 33) φ H (just (aLoad E.T 3 (fget φ 32)))) := s_gd (j := 10) (oj := o18_9_10) rfl rfl rfl (fun _ => rfl) (fun _ => rfl)
theorem s18_9_13 : stepA E C B 48 r18_9 o18_9_13 (φ, H) = gd φ 31 false (fun φ => some (fput φ 34 (.tup []), H)) (fun φ => stp (some 34) φ H (aCall C (fun j => B + j * 48 + 34) true 56 [(fget φ 33), (.int .i64 1), (.int .i64 9)])) := s_gd (j := 10) (oj := o18_9_10) rfl rfl rfl (fun _ => rfl) (fun _ => rfl)
theorem s18_9_14 : stepA E C B 48 r18_9 o18_9_14 (φ, H) = gd φ 31 false (fun φ => some (fput φ 35 (.tup []), H)) (fun φ => stp (some 35) φ H (justO (aUn .not (fget φ 34)))) := s_gd (j := 10) (oj := o18_9_10) rfl rfl rfl (fun _ => rfl) (fun _ => rfl)
theorem s18_9_15 : stepA E C B 48 r18_9 o18_9_15 (φ, H) = stp (some 36) φ H (opPick (fget φ 31) (.bool true) (fget φ 35)) := nrfl rfl
theorem s18_9_16 : stepA E C B 48 r18_9 o18_9_16 (φ, H) = some (fput φ 37 (fget φ 36), H) := nrfl rfl
theorem s18_9_17 : stepA E C B 48 r18_9 o18_9_17 (φ, H) = gd φ 37 false (fun φ => some (fput φ 38 (.tup []), H)) (fun φ => stp (some 38) φ H (just (aFieldAddr E.T 82 (fget φ 4) 3))) := s_gd (j := 16) (oj := o18_9_16) rfl rfl rfl (fun _ => rfl) (fun _ => rfl)
theorem s18_9_18 : stepA E C B 48 r18_9 o18_9_18 (φ, H) = gd φ 37 false (fun φ => some (fput φ 39 (.tup []), H)) (fun φ => stp (some 39) φ H (just (aLoad E.T 3 (fget φ 38)))) := s_gd (j := 16) (oj := o18_9_16) rfl rfl rfl (fun _ => rfl) (fun _ => rfl)
theorem s18_9_19 : stepA E C B 48 r18_9 o18_9_19 (φ, H) = gd φ 37 false (fun φ => some (fput φ 40 (.tup []), H)) (fun φ => stp (some 40) φ H (aCall C (fun j => B + j * 48 + 40) true 56 [(fget φ 39), (.int .i64 1), (.int .i64 9)])) := s_gd (j := 16) (oj := o18_9_16) rfl rfl rfl (fun _ => rfl) (fun _ => rfl)
theorem s18_9_20 : stepA E C B 48 r18_9 o18_9_20 (φ, H) = gd φ 37 false (fun φ => some (fput φ 41 (.tup []), H)) (fun φ => stp (some 41) φ H (justO (aUn .not (fget φ 40)))) := s_gd (j := 16) (oj := o18_9_16) rfl rfl rfl (fun _ => rfl) (fun _ => rfl)
theorem s18_9_21 : stepA E C B 48 r18_9 o18_9_21 (φ, H) = stp (some 42) φ H (opPick (fget φ 37) (.bool true) (fget φ 41)) := nrfl rfl
noncomputable def c18_36 : Code := kR c18_34
noncomputable def c18_37 : Code := kT c18_36
noncomputable def c18_38 : Code := kL c18_37
noncomputable def r18_10 : Array Oper := kO c18_38
noncomputable def o18_10_0 : Oper := opN r18_10 0
theorem x18_38 : execA E C (fg 18) B 48 E0 N c18_38 s = regX (runA E C B 48 r18_10 r18_10.toList s) (fun s => gcM E0 [0, 3, 4, 42] (forget s.1 [0, 3, 4, 42], s.2)) := x_reg (ops := r18_10) (by rfl) (by rfl) s
theorem r18_10_l : r18_10.toList = [o18_10_0] := nrfl rfl
theorem s18_10_0 : stepA E C B 48 r18_10 o18_10_0 (φ, H) = some (fput φ 2 (.int .i64 1), H) := nrfl rfl
noncomputable def c18_39 : Code := kR c18_37
theorem x18_39 : execA E C (fg 18) B 48 E0 N c18_39 s = some (.ret, s) := x_ret (by rfl) s
theorem x18_37 : execA E C (fg 18) B 48 E0 N c18_37 s = seqX (execA E C (fg 18) B 48 E0 N c18_38 s) (execA E C (fg 18) B 48 E0 N c18_39) := x_seq (by rfl) s
noncomputable def c18_40 : Code := kE c18_36
theorem x18_40 : execA E C (fg 18) B 48 E0 N c18_40 s = some (.normal, s) := x_skip (by rfl) s
theorem x18_36 : execA E C (fg 18) B 48 E0 N c18_36 (φ, H) = condX (fget φ 42) (execA E C (fg 18) B 48 E0 N c18_37 (φ, H)) (execA E C (fg 18) B 48 E0 N c18_40 (φ, H)) := x_cond (by rfl) _
theorem x18_34 : execA E C (fg 18) B 48 E0 N c18_34 s = seqX (execA E C (fg 18) B 48 E0 N c18_35 s) (execA E C (fg 18) B 48 E0 N c18_36) := x_seq (by rfl) s
noncomputable def c18_41 : Code := kR c18_33
noncomputable def c18_42 : Code := kL c18_41
noncomputable def r18_11 : Array Oper := kO c18_42
noncomputable def o18_11_0 : Oper := opN r18_11 0
noncomputable def o18_11_1 : Oper := opN r18_11 1
noncomputable def o18_11_2 : Oper := opN r18_11 2
noncomputable def o18_11_3 : Oper := opN r18_11 3
noncomputable def o18_11_4 : Oper := opN r18_11 4
theorem x18_42 : execA E C (fg 18) B 48 E0 N c18_42 s = regX (runA E C B 48 r18_11 r18_11.toList s) (fun s => gcM E0 [4, 42, 43, 44, 45, 46] (forget s.1 [4, 42, 43, 44, 45, 46], s.2)) := x_reg (ops := r18_11) (by rfl) (by rfl) s
theorem r18_11_l : r18_11.toList = [o18_11_0, o18_11_1, o18_11_2, o18_11_3, o18_11_4] := nrfl rfl
theorem s18_11_0 : stepA E C B 48 r18_11 o18_11_0 (φ, H) = stp (some 43) φ H (just (aFieldAddr E.T 82 (fget φ 4) 2)) := nrfl rfl
theorem s18_11_1 : stepA E C B 48 r18_11 o18_11_1 (φ, H) = stp (some 44) φ H (just (aLoad E.T 3 (fget φ 43))) := nrfl rfl
theorem s18_11_2 : stepA E C B 48 r18_11 o18_11_2 (φ, H) = stp (some 45) φ H (just (aFieldAddr E.T 82 (fget φ 4) 3)) := nrfl rfl
theorem s18_11_3 : stepA E C B 48 r18_11 o18_11_3 (φ, H) = stp (some 46) φ H (just (aLoad E.T 3 (fget φ 45))) := nrfl rfl
theorem s18_11_4 : stepA E C B 48 r18_11 o18_11_4 (φ, H) = stp (some 47) φ H (just (aBin E.T .gtr 3 (fget φ 44) (fget φ 46))) := nrfl rfl
noncomputable def c18_43 : Code := kR c18_41
noncomputable def c18_44 : Code := kT c18_43
noncomputable def c18_45 : Code := kL c18_44
noncomputable def r18_12 : Array Oper := kO c18_45
noncomputable def o18_12_0 : Oper := opN r18_12 0
theorem x18_45 : execA E C (fg 18) B 48 E0 N c18_45 s = regX (runA E C B 48 r18_12 r18_12.toList s) (fun s => gcM E0 [0, 3, 47] (forget s.1 [0, 3, 47], s.2)) := x_reg (ops := r18_12) (by rfl) (by rfl) s
theorem r18_12_l : r18_12.toList = [o18_12_0] := nrfl rfl
theorem s18_12_0 : stepA E C B 48 r18_12 o18_12_0 (φ, H) = some (fput φ 2 (.int .i64 7), H) := nrfl rfl
noncomputable def c18_46 : Code := kR c18_44
theorem x18_46 : execA E C (fg 18) B 48 E0 N c18_46 s = some (.ret, s) := x_ret (by rfl) s
theorem x18_44 : execA E C (fg 18) B 48 E0 N c18_44 s = seqX (execA E C (fg 18) B 48 E0 N c18_45 s) (execA E C (fg 18) B 48 E0 N c18_46) := x_seq (by rfl) s
noncomputable def c18_47 : Code := kE c18_43
theorem x18_47 : execA E C (fg 18) B 48 E0 N c18_47 s = some (.normal, s) := x_skip (by rfl) s
theorem x18_43 : execA E C (fg 18) B 48 E0 N c18_43 (φ, H) = condX (fget φ 47) (execA E C (fg 18) B 48 E0 N c18_44 (φ, H)) (execA E C (fg 18) B 48 E0 N c18_47 (φ, H)) := x_cond (by rfl) _
theorem x18_41 : execA E C (fg 18) B 48 E0 N c18_41 s = seqX (execA E C (fg 18) B 48 E0 N c18_42 s) (execA E C (fg 18) B 48 E0 N c18_43) := x_seq (by rfl) s
theorem x18_33 : execA E C (fg 18) B 48 E0 N c18_33 s = seqX (execA E C (fg 18) B 48 E0 N c18_34 s) (execA E C (fg 18) B 48 E0 N c18_41) := x_seq (by rfl) s
theorem x18_31 : execA E C (fg 18) B 48 E0 N c18_31 s = seqX (execA E C (fg 18) B 48 E0 N c18_32 s) (execA E C (fg 18) B 48 E0 N c18_33) := x_seq (by rfl) s
theorem x18_30 : execA E C (fg 18) B 48 E0 N c18_30 s = blockX 1 (fun s => (forget s.1 [47], s.2)) (execA E C (fg 18) B 48 E0 N c18_31 s) := x_block (by rfl) (by rfl) s
noncomputable def c18_48 : Code := kR c18_29
noncomputable def r18_7 : Array Oper := kO c18_48
noncomputable def o18_7_0 : Oper := opN r18_7 0
noncomputable def o18_7_1 : Oper := opN r18_7 1
noncomputable def o18_7_2 : Oper := opN r18_7 2
theorem x18_48 : execA E C (fg 18) B 48 E0 N c18_48 s = regX (runA E C B 48 r18_7 r18_7.toList s) (fun s => gcM E0 [15, 16] (forget s.1 [15, 16], s.2)) := x_reg (ops := r18_7) (by rfl) (by rfl) s
theorem r18_7_l : r18_7.toList = [o18_7_0, o18_7_1, o18_7_2] := nrfl rfl
theorem s18_7_0 : stepA E C B 48 r18_7 o18_7_0 (φ, H) = some (fput φ 15 (fget φ 3), H) := nrfl rfl
theorem s18_7_1 : stepA E C B 48 r18_7 o18_7_1 (φ, H) = stp (some 16) φ H (just (aBin E.T .add 3 (fget φ 15) (.int .i64 1))) := nrfl rfl
theorem s18_7_2 : stepA E C B 48 r18_7 o18_7_2 (φ, H) = some (fput φ 3 (fget φ 16), H) := nrfl rfl
theorem x18_29 : execA E C (fg 18) B 48 E0 N c18_29 s = seqX (execA E C (fg 18) B 48 E0 N c18_30 s) (execA E C (fg 18) B 48 E0 N c18_48) := x_seq (by rfl) s
theorem x18_23 : execA E C (fg 18) B 48 E0 N c18_23 s = seqX (execA E C (fg 18) B 48 E0 N c18_24 s) (execA E C (fg 18) B 48 E0 N c18_29) := x_seq (by rfl) s
-- a loop of f18: x18_22; body c18_23; slots [3, 0]
theorem x18_22 : execA E C (fg 18) B 48 E0 N c18_22 s = iterA (execA E C (fg 18) B 48 E0 N c18_23) (headA E0) N s := x_loop (by rfl) s
theorem x18_21 : execA E C (fg 18) B 48 E0 N c18_21 s = blockX 0 (fun s => (forget s.1 [0, 3, 14], s.2)) (execA E C (fg 18) B 48 E0 N c18_22 s) := x_block (by rfl) (by rfl) s
theorem x18_19 : execA E C (fg 18) B 48 E0 N c18_19 s = seqX (execA E C (fg 18) B 48 E0 N c18_20 s) (execA E C (fg 18) B 48 E0 N c18_21) := x_seq (by rfl) s
noncomputable def c18_49 : Code := kR c18_18
noncomputable def c18_50 : Code := kL c18_49
noncomputable def r18_13 : Array Oper := kO c18_50
noncomputable def o18_13_0 : Oper := opN r18_13 0
theorem x18_50 : execA E C (fg 18) B 48 E0 N c18_50 s = regX (runA E C B 48 r18_13 r18_13.toList s) (fun s => gcM E0 [] (forget s.1 [], s.2)) := x_reg (ops := r18_13) (by rfl) (by rfl) s
theorem r18_13_l : r18_13.toList = [o18_13_0] := nrfl rfl
theorem s18_13_0 : stepA E C B 48 r18_13 o18_13_0 (φ, H) = some (fput φ 2 (.int .i64 0), H) := nrfl rfl
noncomputable def c18_51 : Code := kR c18_49
theorem x18_51 : execA E C (fg 18) B 48 E0 N c18_51 s = some (.ret, s) := x_ret (by rfl) s
theorem x18_49 : execA E C (fg 18) B 48 E0 N c18_49 s = seqX (execA E C (fg 18) B 48 E0 N c18_50 s) (execA E C (fg 18) B 48 E0 N c18_51) := x_seq (by rfl) s
theorem x18_18 : execA E C (fg 18) B 48 E0 N c18_18 s = seqX (execA E C (fg 18) B 48 E0 N c18_19 s) (execA E C (fg 18) B 48 E0 N c18_49) := x_seq (by rfl) s
theorem x18_10 : execA E C (fg 18) B 48 E0 N c18_10 s = seqX (execA E C (fg 18) B 48 E0 N c18_11 s) (execA E C (fg 18) B 48 E0 N c18_18) := x_seq (by rfl) s
theorem x18_2 : execA E C (fg 18) B 48 E0 N c18_2 s = seqX (execA E C (fg 18) B 48 E0 N c18_3 s) (execA E C (fg 18) B 48 E0 N c18_10) := x_seq (by rfl) s
theorem x18_0 : execA E C (fg 18) B 48 E0 N c18_0 s = seqX (execA E C (fg 18) B 48 E0 N c18_1 s) (execA E C (fg 18) B 48 E0 N c18_2) := x_seq (by rfl) s
theorem fi_18 : fInfo E 18 = some ⟨48, #[.tmp 2], c18_0⟩ := nrfl rfl
theorem b_18 (args : List AV) : bodyA E C fg N 18 args H B = bodyX E [.tmp 2] (execA E C (fg 18) B 48 H N c18_0 (frame0 args 0 [], H)) := bodyA_eq fi_18 args H
/-! ### f58: novaculite/novaculiteref07.levelled -/
noncomputable def c58_0 : Code := kBody Proofs.Try.f58
noncomputable def c58_1 : Code := kL c58_0
noncomputable def r58_0 : Array Oper := kO c58_1
noncomputable def o58_0_0 : Oper := opN r58_0 0
theorem x58_1 : execA E C (fg 58) B 19 E0 N c58_1 s = regX (runA E C B 19 r58_0 r58_0.toList s) (fun s => gcM E0 [4] (forget s.1 [4], s.2)) := x_reg (ops := r58_0) (by rfl) (by rfl) s
theorem r58_0_l : r58_0.toList = [o58_0_0] := nrfl rfl
theorem s58_0_0 : stepA E C B 19 r58_0 o58_0_0 (φ, H) = some (fput φ 4 (.int .i64 0), H) := nrfl rfl
noncomputable def c58_2 : Code := kR c58_0
noncomputable def c58_3 : Code := kL c58_2
noncomputable def r58_1 : Array Oper := kO c58_3
noncomputable def o58_1_0 : Oper := opN r58_1 0
noncomputable def o58_1_1 : Oper := opN r58_1 1
noncomputable def o58_1_2 : Oper := opN r58_1 2
theorem x58_3 : execA E C (fg 58) B 19 E0 N c58_3 s = regX (runA E C B 19 r58_1 r58_1.toList s) (fun s => gcM E0 [6, 7] (forget s.1 [6, 7], s.2)) := x_reg (ops := r58_1) (by rfl) (by rfl) s
theorem r58_1_l : r58_1.toList = [o58_1_0, o58_1_1, o58_1_2] := nrfl rfl
theorem s58_1_0 : stepA E C B 19 r58_1 o58_1_0 (φ, H) = some (fput φ 6 (fget φ 0), H) := nrfl rfl
theorem s58_1_1 : stepA E C B 19 r58_1 o58_1_1 (φ, H) = stp (some 7) φ H (aCall C (fun j => B + j * 19 + 7) true 18 [(fget φ 6)]) := nrfl rfl
theorem s58_1_2 : stepA E C B 19 r58_1 o58_1_2 (φ, H) = some (fput φ 5 (fget φ 7), H) := nrfl rfl
noncomputable def c58_4 : Code := kR c58_2
noncomputable def c58_5 : Code := kL c58_4
noncomputable def c58_6 : Code := kL c58_5
noncomputable def r58_2 : Array Oper := kO c58_6
noncomputable def o58_2_0 : Oper := opN r58_2 0
noncomputable def o58_2_1 : Oper := opN r58_2 1
noncomputable def o58_2_2 : Oper := opN r58_2 2
noncomputable def o58_2_3 : Oper := opN r58_2 3
noncomputable def o58_2_4 : Oper := opN r58_2 4
noncomputable def o58_2_5 : Oper := opN r58_2 5
noncomputable def o58_2_6 : Oper := opN r58_2 6
noncomputable def o58_2_7 : Oper := opN r58_2 7
noncomputable def o58_2_8 : Oper := opN r58_2 8
noncomputable def o58_2_9 : Oper := opN r58_2 9
theorem x58_6 : execA E C (fg 58) B 19 E0 N c58_6 s = regX (runA E C B 19 r58_2 r58_2.toList s) (fun s => gcM E0 [0, 1, 8, 9, 10, 11, 12, 13, 14, 15, 16] (forget s.1 [0, 1, 8, 9, 10, 11, 12, 13, 14, 15, 16], s.2)) := x_reg (ops := r58_2) (by rfl) (by rfl) s
theorem r58_2_l : r58_2.toList = [o58_2_0, o58_2_1, o58_2_2, o58_2_3, o58_2_4, o58_2_5, o58_2_6, o58_2_7, o58_2_8, o58_2_9] := nrfl rfl
theorem s58_2_0 : stepA E C B 19 r58_2 o58_2_0 (φ, H) = some (fput φ 8 (fget φ 5), H) := nrfl rfl
theorem s58_2_1 : stepA E C B 19 r58_2 o58_2_1 (φ, H) = stp (some 9) φ H (just (aBin E.T .eql 27 (fget φ 8) (.int .i64 0))) := nrfl rfl
theorem s58_2_2 : stepA E C B 19 r58_2 o58_2_2 (φ, H) = some (fput φ 10 (fget φ 9), H) := nrfl rfl
theorem s58_2_3 : stepA E C B 19 r58_2 o58_2_3 (φ, H) = gd φ 10 true (fun φ => some (fput φ 11 (.tup []), H)) (fun φ => some (fput φ 11 (fget φ 1), H)) := s_gd (j := 2) (oj := o58_2_2) rfl rfl rfl (fun _ => rfl) (fun _ => rfl)
theorem s58_2_4 : stepA E C B 19 r58_2 o58_2_4 (φ, H) = gd φ 10 true (fun φ => some (fput φ 12 (.tup []), H)) (fun φ => some (fput φ 12 (fget φ 0), H)) := s_gd (j := 2) (oj := o58_2_2) rfl rfl rfl (fun _ => rfl) (fun _ => rfl)
theorem s58_2_5 : stepA E C B 19 r58_2 o58_2_5 (φ, H) = gd φ 10 true (fun φ => some (fput φ 13 (.tup []), H)) (fun φ => stp (some 13) φ H (aBuiltin E.T (B + 13) .len #[25] [(fget φ 12)])) := s_gd (j := 2) (oj := o58_2_2) rfl rfl rfl (fun _ => rfl) (fun _ => rfl)
theorem s58_2_6 : stepA E C B 19 r58_2 o58_2_6 (φ, H) = gd φ 10 true (fun φ => some (fput φ 14 (.tup []), H)) (fun φ => stp (some 14) φ H (just (aBin E.T .sub 3 (fget φ 13) (.int .i64 1)))) := s_gd (j := 2) (oj := o58_2_2) rfl rfl rfl (fun _ => rfl) (fun _ => rfl)
theorem s58_2_7 : stepA E C B 19 r58_2 o58_2_7 (φ, H) = gd φ 10 true (fun φ => some (fput φ 15 (.tup []), H)) (fun φ => stp (some 15) φ H (aCall C (fun j => B + j * 19 + 15) true 56 [(fget φ 11), (.int .i64 0), (fget φ 14)])) := s_gd (j := 2) (oj := o58_2_2) rfl rfl rfl (fun _ => rfl) (fun _ => rfl)
theorem s58_2_8 : stepA E C B 19 r58_2 o58_2_8 (φ, H) = gd φ 10 true (fun φ => some (fput φ 16 (.tup []), H)) (fun φ => stp (some 16) φ H (justO (aUn .not (fget φ 15)))) := s_gd (j := 2) (oj := o58_2_2) rfl rfl rfl (fun _ => rfl) (fun _ => rfl)
theorem s58_2_9 : stepA E C B 19 r58_2 o58_2_9 (φ, H) = stp (some 17) φ H (opPick (fget φ 10) (fget φ 16) (.bool false)) := nrfl rfl
noncomputable def c58_7 : Code := kR c58_5
noncomputable def c58_8 : Code := kT c58_7
noncomputable def r58_3 : Array Oper := kO c58_8
noncomputable def o58_3_0 : Oper := opN r58_3 0
theorem x58_8 : execA E C (fg 58) B 19 E0 N c58_8 s = regX (runA E C B 19 r58_3 r58_3.toList s) (fun s => gcM E0 [17] (forget s.1 [17], s.2)) := x_reg (ops := r58_3) (by rfl) (by rfl) s
theorem r58_3_l : r58_3.toList = [o58_3_0] := nrfl rfl
theorem s58_3_0 : stepA E C B 19 r58_3 o58_3_0 (φ, H) = some (fput φ 5 (.int .i64 2), H) := nrfl rfl
noncomputable def c58_9 : Code := kE c58_7
theorem x58_9 : execA E C (fg 58) B 19 E0 N c58_9 s = some (.normal, s) := x_skip (by rfl) s
theorem x58_7 : execA E C (fg 58) B 19 E0 N c58_7 (φ, H) = condX (fget φ 17) (execA E C (fg 58) B 19 E0 N c58_8 (φ, H)) (execA E C (fg 58) B 19 E0 N c58_9 (φ, H)) := x_cond (by rfl) _
theorem x58_5 : execA E C (fg 58) B 19 E0 N c58_5 s = seqX (execA E C (fg 58) B 19 E0 N c58_6 s) (execA E C (fg 58) B 19 E0 N c58_7) := x_seq (by rfl) s
noncomputable def c58_10 : Code := kR c58_4
noncomputable def c58_11 : Code := kL c58_10
noncomputable def r58_4 : Array Oper := kO c58_11
noncomputable def o58_4_0 : Oper := opN r58_4 0
noncomputable def o58_4_1 : Oper := opN r58_4 1
theorem x58_11 : execA E C (fg 58) B 19 E0 N c58_11 s = regX (runA E C B 19 r58_4 r58_4.toList s) (fun s => gcM E0 [5, 17, 18] (forget s.1 [5, 17, 18], s.2)) := x_reg (ops := r58_4) (by rfl) (by rfl) s
theorem r58_4_l : r58_4.toList = [o58_4_0, o58_4_1] := nrfl rfl
theorem s58_4_0 : stepA E C B 19 r58_4 o58_4_0 (φ, H) = some (fput φ 18 (fget φ 5), H) := nrfl rfl
theorem s58_4_1 : stepA E C B 19 r58_4 o58_4_1 (φ, H) = some (fput φ 4 (fget φ 18), H) := nrfl rfl
noncomputable def c58_12 : Code := kR c58_10
theorem x58_12 : execA E C (fg 58) B 19 E0 N c58_12 s = some (.ret, s) := x_ret (by rfl) s
theorem x58_10 : execA E C (fg 58) B 19 E0 N c58_10 s = seqX (execA E C (fg 58) B 19 E0 N c58_11 s) (execA E C (fg 58) B 19 E0 N c58_12) := x_seq (by rfl) s
theorem x58_4 : execA E C (fg 58) B 19 E0 N c58_4 s = seqX (execA E C (fg 58) B 19 E0 N c58_5 s) (execA E C (fg 58) B 19 E0 N c58_10) := x_seq (by rfl) s
theorem x58_2 : execA E C (fg 58) B 19 E0 N c58_2 s = seqX (execA E C (fg 58) B 19 E0 N c58_3 s) (execA E C (fg 58) B 19 E0 N c58_4) := x_seq (by rfl) s
theorem x58_0 : execA E C (fg 58) B 19 E0 N c58_0 s = seqX (execA E C (fg 58) B 19 E0 N c58_1 s) (execA E C (fg 58) B 19 E0 N c58_2) := x_seq (by rfl) s
theorem fi_58 : fInfo E 58 = some ⟨19, #[.tmp 4], c58_0⟩ := nrfl rfl
theorem b_58 (args : List AV) : bodyA E C fg N 58 args H B = bodyX E [.tmp 4] (execA E C (fg 58) B 19 H N c58_0 (frame0 args 0 [], H)) := bodyA_eq fi_58 args H
/-! ### f78: novaculite/novaculiteref07.edge -/
noncomputable def c78_0 : Code := kBody Proofs.Try.f78
noncomputable def c78_1 : Code := kL c78_0
noncomputable def r78_0 : Array Oper := kO c78_1
noncomputable def o78_0_0 : Oper := opN r78_0 0
theorem x78_1 : execA E C (fg 78) B 24 E0 N c78_1 s = regX (runA E C B 24 r78_0 r78_0.toList s) (fun s => gcM E0 [6] (forget s.1 [6], s.2)) := x_reg (ops := r78_0) (by rfl) (by rfl) s
theorem r78_0_l : r78_0.toList = [o78_0_0] := nrfl rfl
theorem s78_0_0 : stepA E C B 24 r78_0 o78_0_0 (φ, H) = some (fput φ 6 (.int .i64 0), H) := nrfl rfl
noncomputable def c78_2 : Code := kR c78_0
noncomputable def c78_3 : Code := kL c78_2
noncomputable def c78_4 : Code := kL c78_3
noncomputable def r78_1 : Array Oper := kO c78_4
noncomputable def o78_1_0 : Oper := opN r78_1 0
noncomputable def o78_1_1 : Oper := opN r78_1 1
theorem x78_4 : execA E C (fg 78) B 24 E0 N c78_4 s = regX (runA E C B 24 r78_1 r78_1.toList s) (fun s => gcM E0 [7] (forget s.1 [7], s.2)) := x_reg (ops := r78_1) (by rfl) (by rfl) s
theorem r78_1_l : r78_1.toList = [o78_1_0, o78_1_1] := nrfl rfl
theorem s78_1_0 : stepA E C B 24 r78_1 o78_1_0 (φ, H) = some (fput φ 7 (fget φ 1), H) := nrfl rfl
theorem s78_1_1 : stepA E C B 24 r78_1 o78_1_1 (φ, H) = stp (some 8) φ H (just (aBin E.T .eql 3 (fget φ 7) (.int .i64 0))) := nrfl rfl
noncomputable def c78_5 : Code := kR c78_3
noncomputable def c78_6 : Code := kT c78_5
noncomputable def c78_7 : Code := kL c78_6
noncomputable def r78_2 : Array Oper := kO c78_7
noncomputable def o78_2_0 : Oper := opN r78_2 0
theorem x78_7 : execA E C (fg 78) B 24 E0 N c78_7 s = regX (runA E C B 24 r78_2 r78_2.toList s) (fun s => gcM E0 [0, 1, 2, 8] (forget s.1 [0, 1, 2, 8], s.2)) := x_reg (ops := r78_2) (by rfl) (by rfl) s
theorem r78_2_l : r78_2.toList = [o78_2_0] := nrfl rfl
theorem s78_2_0 : stepA E C B 24 r78_2 o78_2_0 (φ, H) = some (fput φ 6 (.int .i64 0), H) := nrfl rfl
noncomputable def c78_8 : Code := kR c78_6
theorem x78_8 : execA E C (fg 78) B 24 E0 N c78_8 s = some (.ret, s) := x_ret (by rfl) s
theorem x78_6 : execA E C (fg 78) B 24 E0 N c78_6 s = seqX (execA E C (fg 78) B 24 E0 N c78_7 s) (execA E C (fg 78) B 24 E0 N c78_8) := x_seq (by rfl) s
noncomputable def c78_9 : Code := kE c78_5
theorem x78_9 : execA E C (fg 78) B 24 E0 N c78_9 s = some (.normal, s) := x_skip (by rfl) s
theorem x78_5 : execA E C (fg 78) B 24 E0 N c78_5 (φ, H) = condX (fget φ 8) (execA E C (fg 78) B 24 E0 N c78_6 (φ, H)) (execA E C (fg 78) B 24 E0 N c78_9 (φ, H)) := x_cond (by rfl) _
theorem x78_3 : execA E C (fg 78) B 24 E0 N c78_3 s = seqX (execA E C (fg 78) B 24 E0 N c78_4 s) (execA E C (fg 78) B 24 E0 N c78_5) := x_seq (by rfl) s
noncomputable def c78_10 : Code := kR c78_2
noncomputable def c78_11 : Code := kL c78_10
noncomputable def r78_3 : Array Oper := kO c78_11
noncomputable def o78_3_0 : Oper := opN r78_3 0
noncomputable def o78_3_1 : Oper := opN r78_3 1
noncomputable def o78_3_2 : Oper := opN r78_3 2
noncomputable def o78_3_3 : Oper := opN r78_3 3
noncomputable def o78_3_4 : Oper := opN r78_3 4
noncomputable def o78_3_5 : Oper := opN r78_3 5
noncomputable def o78_3_6 : Oper := opN r78_3 6
noncomputable def o78_3_7 : Oper := opN r78_3 7
noncomputable def o78_3_8 : Oper := opN r78_3 8
noncomputable def o78_3_9 : Oper := opN r78_3 9
noncomputable def o78_3_10 : Oper := opN r78_3 10
noncomputable def o78_3_11 : Oper := opN r78_3 11
noncomputable def o78_3_12 : Oper := opN r78_3 12
noncomputable def o78_3_13 : Oper := opN r78_3 13
noncomputable def o78_3_14 : Oper := opN r78_3 14
noncomputable def o78_3_15 : Oper := opN r78_3 15
theorem x78_11 : execA E C (fg 78) B 24 E0 N c78_11 s = regX (drawA E C B 24 r78_3 s) (fun s => gcM E0 [0, 1, 2, 8, 9, 10, 11, 12, 13, 14, 15, 16, 17, 18, 19, 20, 21, 22, 23] (forget s.1 [0, 1, 2, 8, 9, 10, 11, 12, 13, 14, 15, 16, 17, 18, 19, 20, 21, 22, 23], s.2)) := x_draw (ops := r78_3) (by rfl) (by rfl) s
theorem r78_3_l : r78_3.toList = [o78_3_0, o78_3_1, o78_3_2, o78_3_3, o78_3_4, o78_3_5, o78_3_6, o78_3_7, o78_3_8, o78_3_9, o78_3_10, o78_3_11, o78_3_12, o78_3_13, o78_3_14, o78_3_15] := nrfl rfl
theorem r78_3_st : statOk r78_3 = true := by kernel_rfl
theorem r78_3_dr : drawA E C B 24 r78_3 s = if neat 24 s = true then drX r78_3 (runT E C B 24 r78_3 r78_3.toList 0 s) else none := draw_eq r78_3_st s
theorem r78_3_an (l : List (Nat × Tr)) : dynOk r78_3 l = (!writing l || dynPairs [[], [], [1], [0, 1, 2], [0, 1, 2, 3], [0, 1, 2, 3, 4], [], [], [], [8], [7, 8, 9], [7, 8, 9, 10], [7, 8, 9, 10, 11], [6, 7, 8, 9, 10, 11, 12], [0, 1, 2, 3, 4, 5, 6, 7, 8, 9, 10, 11, 12, 13], [0, 1, 2, 3, 4, 5, 6, 7, 8, 9, 10, 11, 12, 13, 14]] (touching l)) := dynOk_eq (by kernel_rfl) l
theorem s78_3_0 : stepT E C B 24 r78_3 o78_3_0 (φ, H) = some ((fput φ 9 (fget φ 0), H), ⟨false, [], []⟩) := stT_go rfl (goT_mv rfl rfl)
theorem s78_3_1 : stepT E C B 24 r78_3 o78_3_1 (φ, H) = some ((fput φ 10 (fget φ 1), H), ⟨false, [], []⟩) := stT_go rfl (goT_mv rfl rfl)
theorem s78_3_2 : stepT E C B 24 r78_3 o78_3_2 (φ, H) = stpT (some 11) φ H (just (aBin E.T .sub 3 (fget φ 10) (.int .i64 1))) := stT_go rfl (goT_R rfl rfl)
theorem s78_3_3 : stepT E C B 24 r78_3 o78_3_3 (φ, H) = stpT (some 12) φ H (just (aIndexAddr E.T 25 (fget φ 9) (fget φ 11))) := stT_go rfl (goT_R rfl rfl)
theorem s78_3_4 : stepT E C B 24 r78_3 o78_3_4 (φ, H) = stpT (some 13) φ H (just (aFieldAddr E.T 82 (fget φ 12) 1)) := stT_go rfl (goT_R rfl rfl)
theorem s78_3_5 : stepT E C B 24 r78_3 o78_3_5 (φ, H) = stpT (some 14) φ H (just (aLoad E.T 3 (fget φ 13))) := stT_go rfl (goT_R rfl rfl)
theorem s78_3_6 : stepT E C B 24 r78_3 o78_3_6 (φ, H) = some ((fput φ 15 (fget φ 2), H), ⟨false, [], []⟩) := stT_go rfl (goT_mv rfl rfl)
theorem s78_3_7 : stepT E C B 24 r78_3 o78_3_7 (φ, H) = some ((fput φ 16 (fget φ 0), H), ⟨false, [], []⟩) := stT_go rfl (goT_mv rfl rfl)
theorem s78_3_8 : stepT E C B 24 r78_3 o78_3_8 (φ, H) = some ((fput φ 17 (fget φ 1), H), ⟨false, [], []⟩) := stT_go rfl (goT_mv rfl rfl)
theorem s78_3_9 : stepT E C B 24 r78_3 o78_3_9 (φ, H) = stpT (some 18) φ H (just (aBin E.T .sub 3 (fget φ 17) (.int .i64 1))) := stT_go rfl (goT_R rfl rfl)
theorem s78_3_10 : stepT E C B 24 r78_3 o78_3_10 (φ, H) = stpT (some 19) φ H (just (aIndexAddr E.T 25 (fget φ 16) (fget φ 18))) := stT_go rfl (goT_R rfl rfl)
theorem s78_3_11 : stepT E C B 24 r78_3 o78_3_11 (φ, H) = stpT (some 20) φ H (just (aFieldAddr E.T 82 (fget φ 19) 0)) := stT_go rfl (goT_R rfl rfl)
theorem s78_3_12 : stepT E C B 24 r78_3 o78_3_12 (φ, H) = stpT (some 21) φ H (just (aLoad E.T 3 (fget φ 20))) := stT_go rfl (goT_R rfl rfl)
theorem s78_3_13 : stepT E C B 24 r78_3 o78_3_13 (φ, H) = stpT (some 22) φ H (just (aBin E.T .mul 3 (fget φ 15) (fget φ 21))) := stT_go rfl (goT_R rfl rfl)
theorem s78_3_14 : stepT E C B 24 r78_3 o78_3_14 (φ, H) = stpT (some 23) φ H (just (aBin E.T .add 3 (fget φ 14) (fget φ 22))) := stT_go rfl (goT_R rfl rfl)
theorem s78_3_15 : stepT E C B 24 r78_3 o78_3_15 (φ, H) = some ((fput φ 6 (fget φ 23), H), ⟨false, [], []⟩) := stT_go rfl (goT_mv rfl rfl)
noncomputable def c78_12 : Code := kR c78_10
theorem x78_12 : execA E C (fg 78) B 24 E0 N c78_12 s = some (.ret, s) := x_ret (by rfl) s
theorem x78_10 : execA E C (fg 78) B 24 E0 N c78_10 s = seqX (execA E C (fg 78) B 24 E0 N c78_11 s) (execA E C (fg 78) B 24 E0 N c78_12) := x_seq (by rfl) s
theorem x78_2 : execA E C (fg 78) B 24 E0 N c78_2 s = seqX (execA E C (fg 78) B 24 E0 N c78_3 s) (execA E C (fg 78) B 24 E0 N c78_10) := x_seq (by rfl) s
theorem x78_0 : execA E C (fg 78) B 24 E0 N c78_0 s = seqX (execA E C (fg 78) B 24 E0 N c78_1 s) (execA E C (fg 78) B 24 E0 N c78_2) := x_seq (by rfl) s
theorem fi_78 : fInfo E 78 = some ⟨24, #[.tmp 6], c78_0⟩ := nrfl rfl
theorem b_78 (args : List AV) : bodyA E C fg N 78 args H B = bodyX E [.tmp 6] (execA E C (fg 78) B 24 H N c78_0 (frame0 args 0 [], H)) := bodyA_eq fi_78 args H
/-! ### f50: novaculite/novaculiteref07.worst -/
noncomputable def c50_0 : Code := kBody Proofs.Try.f50
noncomputable def c50_1 : Code := kL c50_0
noncomputable def r50_0 : Array Oper := kO c50_1
noncomputable def o50_0_0 : Oper := opN r50_0 0
theorem x50_1 : execA E C (fg 50) B 50 E0 N c50_1 s = regX (runA E C B 50 r50_0 r50_0.toList s) (fun s => gcM E0 [6] (forget s.1 [6], s.2)) := x_reg (ops := r50_0) (by rfl) (by rfl) s
theorem r50_0_l : r50_0.toList = [o50_0_0] := nrfl rfl
theorem s50_0_0 : stepA E C B 50 r50_0 o50_0_0 (φ, H) = some (fput φ 6 (.nilsl), H) := nrfl rfl
noncomputable def c50_2 : Code := kR c50_0
noncomputable def c50_3 : Code := kL c50_2
noncomputable def r50_1 : Array Oper := kO c50_3
noncomputable def o50_1_0 : Oper := opN r50_1 0
theorem x50_3 : execA E C (fg 50) B 50 E0 N c50_3 s = regX (runA E C B 50 r50_1 r50_1.toList s) (fun s => gcM E0 [] (forget s.1 [], s.2)) := x_reg (ops := r50_1) (by rfl) (by rfl) s
theorem r50_1_l : r50_1.toList = [o50_1_0] := nrfl rfl
theorem s50_1_0 : stepA E C B 50 r50_1 o50_1_0 (φ, H) = some (fput φ 7 (.nilsl), H) := nrfl rfl
noncomputable def c50_4 : Code := kR c50_2
noncomputable def c50_5 : Code := kL c50_4
noncomputable def c50_6 : Code := kL c50_5
noncomputable def r50_2 : Array Oper := kO c50_6
noncomputable def o50_2_0 : Oper := opN r50_2 0
theorem x50_6 : execA E C (fg 50) B 50 E0 N c50_6 s = regX (runA E C B 50 r50_2 r50_2.toList s) (fun s => gcM E0 [] (forget s.1 [], s.2)) := x_reg (ops := r50_2) (by rfl) (by rfl) s
theorem r50_2_l : r50_2.toList = [o50_2_0] := nrfl rfl
theorem s50_2_0 : stepA E C B 50 r50_2 o50_2_0 (φ, H) = some (fput φ 8 (.int .i64 0), H) := nrfl rfl
noncomputable def c50_7 : Code := kR c50_5
noncomputable def c50_8 : Code := kB c50_7
noncomputable def c50_9 : Code := kB c50_8
noncomputable def c50_10 : Code := kL c50_9
noncomputable def c50_11 : Code := kL c50_10
noncomputable def r50_3 : Array Oper := kO c50_11
noncomputable def o50_3_0 : Oper := opN r50_3 0
noncomputable def o50_3_1 : Oper := opN r50_3 1
noncomputable def o50_3_2 : Oper := opN r50_3 2
noncomputable def o50_3_3 : Oper := opN r50_3 3
theorem x50_11 : execA E C (fg 50) B 50 E0 N c50_11 s = regX (runA E C B 50 r50_3 r50_3.toList s) (fun s => gcM E0 [9, 10, 11] (forget s.1 [9, 10, 11], s.2)) := x_reg (ops := r50_3) (by rfl) (by rfl) s
theorem r50_3_l : r50_3.toList = [o50_3_0, o50_3_1, o50_3_2, o50_3_3] := nrfl rfl
theorem s50_3_0 : stepA E C B 50 r50_3 o50_3_0 (φ, H) = some (fput φ 9 (fget φ 8), H) := nrfl rfl
theorem s50_3_1 : stepA E C B 50 r50_3 o50_3_1 (φ, H) = some (fput φ 10 (fget φ 0), H) := nrfl rfl
theorem s50_3_2 : stepA E C B 50 r50_3 o50_3_2 (φ, H) = stp (some 11) φ H (aBuiltin E.T (B + 11) .len #[25] [(fget φ 10)]) := nrfl rfl
theorem s50_3_3 : stepA E C B 50 r50_3 o50_3_3 (φ, H) = stp (some 12) φ H (just (aBin E.T .lss 3 (fget φ 9) (fget φ 11))) := nrfl rfl
noncomputable def c50_12 : Code := kR c50_10
noncomputable def c50_13 : Code := kT c50_12
theorem x50_13 : execA E C (fg 50) B 50 E0 N c50_13 s = some (.normal, s) := x_skip (by rfl) s
noncomputable def c50_14 : Code := kE c50_12
theorem x50_14 : execA E C (fg 50) B 50 E0 N c50_14 s = some (.exit 0, s) := x_exit (by rfl) s
theorem x50_12 : execA E C (fg 50) B 50 E0 N c50_12 (φ, H) = condX (fget φ 12) (execA E C (fg 50) B 50 E0 N c50_13 (φ, H)) (execA E C (fg 50) B 50 E0 N c50_14 (φ, H)) := x_cond (by rfl) _
theorem x50_10 : execA E C (fg 50) B 50 E0 N c50_10 s = seqX (execA E C (fg 50) B 50 E0 N c50_11 s) (execA E C (fg 50) B 50 E0 N c50_12) := x_seq (by rfl) s
noncomputable def c50_15 : Code := kR c50_9
noncomputable def c50_16 : Code := kL c50_15
noncomputable def c50_17 : Code := kB c50_16
noncomputable def c50_18 : Code := kL c50_17
noncomputable def r50_5 : Array Oper := kO c50_18
noncomputable def o50_5_0 : Oper := opN r50_5 0
noncomputable def o50_5_1 : Oper := opN r50_5 1
noncomputable def o50_5_2 : Oper := opN r50_5 2
noncomputable def o50_5_3 : Oper := opN r50_5 3
noncomputable def o50_5_4 : Oper := opN r50_5 4
noncomputable def o50_5_5 : Oper := opN r50_5 5
noncomputable def o50_5_6 : Oper := opN r50_5 6
noncomputable def o50_5_7 : Oper := opN r50_5 7
noncomputable def o50_5_8 : Oper := opN r50_5 8
noncomputable def o50_5_9 : Oper := opN r50_5 9
noncomputable def o50_5_10 : Oper := opN r50_5 10
noncomputable def o50_5_11 : Oper := opN r50_5 11
noncomputable def o50_5_12 : Oper := opN r50_5 12
noncomputable def o50_5_13 : Oper := opN r50_5 13
noncomputable def o50_5_14 : Oper := opN r50_5 14
noncomputable def o50_5_15 : Oper := opN r50_5 15
noncomputable def o50_5_16 : Oper := opN r50_5 16
noncomputable def o50_5_17 : Oper := opN r50_5 17
theorem x50_18 : execA E C (fg 50) B 50 E0 N c50_18 s = regX (drawA E C B 50 r50_5 s) (fun s => gcM E0 [12, 15, 16, 17, 18, 19, 20, 21, 22, 23, 24, 25, 26, 27, 28, 29, 30, 31] (forget s.1 [12, 15, 16, 17, 18, 19, 20, 21, 22, 23, 24, 25, 26, 27, 28, 29, 30, 31], s.2)) := x_draw (ops := r50_5) (by rfl) (by rfl) s
theorem r50_5_l : r50_5.toList = [o50_5_0, o50_5_1, o50_5_2, o50_5_3, o50_5_4, o50_5_5, o50_5_6, o50_5_7, o50_5_8, o50_5_9, o50_5_10, o50_5_11, o50_5_12, o50_5_13, o50_5_14, o50_5_15, o50_5_16, o50_5_17] := nrfl rfl
theorem r50_5_st : statOk r50_5 = true := by kernel_rfl
theorem r50_5_dr : drawA E C B 50 r50_5 s = if neat 50 s = true then drX r50_5 (runT E C B 50 r50_5 r50_5.toList 0 s) else none := draw_eq r50_5_st s
theorem r50_5_an (l : List (Nat × Tr)) : dynOk r50_5 l = (!writing l || dynPairs [[], [], [0, 1], [0, 1, 2], [0, 1, 2, 3], [0, 1, 2, 3], [0, 1, 2, 3], [0, 1, 2, 3, 5, 6], [0, 1, 2, 3, 5, 6, 7], [0, 1, 2, 3, 5, 6, 7, 8], [0, 1, 2, 3], [0, 1, 2, 3], [0, 1, 2, 3], [0, 1, 2, 3, 10, 11, 12], [0, 1, 2, 3, 5, 6, 7, 8, 9, 10, 11, 12, 13], [0, 1, 2, 3, 4, 5, 6, 7, 8, 9, 10, 11, 12, 13, 14], [0, 1, 2, 3, 4, 5, 6, 7, 8, 9, 10, 11, 12, 13, 14, 15], [0, 1, 2, 3, 4, 5, 6, 7, 8, 9, 10, 11, 12, 13, 14, 15, 16]] (touching l)) := dynOk_eq (by kernel_rfl) l
theorem s50_5_0 : stepT E C B 50 r50_5 o50_5_0 (φ, H) = some ((fput φ 15 (fget φ 8), H), ⟨false, [], []⟩) := stT_go rfl (goT_mv rfl rfl)
theorem s50_5_1 : stepT E C B 50 r50_5 o50_5_1 (φ, H) = some ((fput φ 16 (fget φ 1), H), ⟨false, [], []⟩) := stT_go rfl (goT_mv rfl rfl)
theorem s50_5_2 : stepT E C B 50 r50_5 o50_5_2 (φ, H) = stpT (some 17) φ H (just (aBin E.T .geq 3 (fget φ 15) (fget φ 16))) := stT_go rfl (goT_R rfl rfl)
theorem s50_5_3 : stepT E C B 50 r50_5 o50_5_3 (φ, H) = some ((fput φ 18 (fget φ 17), H), ⟨false, [], []⟩) := stT_go rfl (goT_mv rfl rfl)
theorem s50_5_4 : stepT E C B 50 r50_5 o50_5_4 (φ, H) = gdT φ 18 true (fun φ => (some (fput φ 19 (.tup []), H)).map fun s => (s, ⟨false, [], []⟩)) (fun φ => some ((fput φ 19 (fget φ 2), H), ⟨false, [], []⟩)) := stT_gd (j := 3) (oj := o50_5_3) rfl rfl rfl (fun _ => rfl) (fun _ => goT_mv rfl rfl)
theorem s50_5_5 : stepT E C B 50 r50_5 o50_5_5 (φ, H) = gdT φ 18 true (fun φ => (some (fput φ 20 (.tup []), H)).map fun s => (s, ⟨false, [], []⟩)) (fun φ => some ((fput φ 20 (fget φ 0), H), ⟨false, [], []⟩)) := stT_gd (j := 3) (oj := o50_5_3) rfl rfl rfl (fun _ => rfl) (fun _ => goT_mv rfl rfl)
theorem s50_5_6 : stepT E C B 50 r50_5 o50_5_6 (φ, H) = gdT φ 18 true (fun φ => (some (fput φ 21 (.tup []), H)).map fun s => (s, ⟨false, [], []⟩)) (fun φ => some ((fput φ 21 (fget φ 8), H), ⟨false, [], []⟩)) := stT_gd (j := 3) (oj := o50_5_3) rfl rfl rfl (fun _ => rfl) (fun _ => goT_mv rfl rfl)
theorem s50_5_7 : stepT E C B 50 r50_5 o50_5_7 (φ, H) = gdT φ 18 true (fun φ => (some (fput φ 22 (.tup []), H)).map fun s => (s, ⟨false, [], []⟩)) (fun φ => stpT (some 22) φ H (just (aIndexAddr E.T 25 (fget φ 20) (fget φ 21)))) := stT_gd (j := 3) (oj := o50_5_3) rfl rfl rfl (fun _ => rfl) (fun _ => goT_R rfl rfl)
theorem s50_5_8 : stepT E C B 50 r50_5 o50_5_8 (φ, H) = gdT φ 18 true (fun φ => (some (fput φ 23 (.tup []), H)).map fun s => (s, ⟨false, [], []⟩)) (fun φ => stpT (some 23) φ H (just (aFieldAddr E.T 82 (fget φ 22) 1))) := stT_gd (j := 3) (oj := o50_5_3) rfl rfl rfl (fun _ => rfl) (fun _ => goT_R rfl rfl)
theorem s50_5_9 : stepT E C B 50 r50_5 o50_5_9 (φ, H) = gdT φ 18 true (fun φ => (some (fput φ 24 (.tup []), H)).map fun s => (s, ⟨false, [], []⟩)) (fun φ => stpT (some 24) φ H (just (aLoad E.T 3 (fget φ 23)))) := stT_gd (j := 3) (oj := o50_5_3) rfl rfl rfl (fun _ => rfl) (fun _ => goT_R rfl rfl)
theorem s50_5_10 : stepT E C B 50 r50_5 o50_5_10 (φ, H) = gdT φ 18 true (fun φ => (some (fput φ 25 (.tup []), H)).map fun s => (s, ⟨false, [], []⟩)) (fun φ => some ((fput φ 25 (fget φ 0), H), ⟨false, [], []⟩)) := stT_gd (j := 3) (oj := o50_5_3) rfl rfl rfl (fun _ => rfl) (fun _ => goT_mv rfl rfl)
theorem s50_5_11 : stepT E C B 50 r50_5 o50_5_11 (φ, H) = gdT φ 18 true (fun φ => (some (fput φ 26 (.tup []), H)).map fun s => (s, ⟨false, [], []⟩)) (fun φ => some ((fput φ 26 (fget φ 1), H), ⟨false, [], []⟩)) := stT_gd (j := 3) (oj := o50_5_3) rfl rfl rfl (fun _ => rfl) (fun _ => goT_mv rfl rfl)
theorem s50_5_12 : stepT E C B 50 r50_5 o50_5_12 (φ, H) = gdT φ 18 true (fun φ => (some (fput φ 27 (.tup []), H)).map fun s => (s, ⟨false, [], []⟩)) (fun φ => some ((fput φ 27 (fget φ 2), H), ⟨false, [], []⟩)) := stT_gd (j := 3) (oj := o50_5_3) rfl rfl rfl (fun _ => rfl) (fun _ => goT_mv rfl rfl)
theorem s50_5_13 : stepT E C B 50 r50_5 o50_5_13 (φ, H) = gdT φ 18 true (fun φ => (some (fput φ 28 (.tup []), H)).map fun s => (s, ⟨false, [], []⟩)) (fun φ => stpT (some 28) φ H (aCall C (fun j => B + j * 50 + 28) true 78 [(fget φ 25), (fget φ 26), (fget φ 27)])) := stT_gd (j := 3) (oj := o50_5_3) rfl rfl rfl (fun _ => rfl) (fun _ => goT_R rfl rfl)
theorem s50_5_14 : stepT E C B 50 r50_5 o50_5_14 (φ, H) = gdT φ 18 true (fun φ => (some (fput φ 29 (.tup []), H)).map fun s => (s, ⟨false, [], []⟩)) (fun φ => stpT (some 29) φ H (just (aBin E.T .sub 3 (fget φ 24) (fget φ 28)))) := stT_gd (j := 3) (oj := o50_5_3) rfl rfl rfl (fun _ => rfl) (fun _ => goT_R rfl rfl)
theorem s50_5_15 : stepT E C B 50 r50_5 o50_5_15 (φ, H) = gdT φ 18 true (fun φ => (some (fput φ 30 (.tup []), H)).map fun s => (s, ⟨false, [], []⟩)) (fun φ => stpT (some 30) φ H (just (aBin E.T .mul 3 (fget φ 19) (fget φ 29)))) := stT_gd (j := 3) (oj := o50_5_3) rfl rfl rfl (fun _ => rfl) (fun _ => goT_R rfl rfl)
theorem s50_5_16 : stepT E C B 50 r50_5 o50_5_16 (φ, H) = gdT φ 18 true (fun φ => (some (fput φ 31 (.tup []), H)).map fun s => (s, ⟨false, [], []⟩)) (fun φ => stpT (some 31) φ H (just (aBin E.T .gtr 3 (fget φ 30) (.int .i64 0)))) := stT_gd (j := 3) (oj := o50_5_3) rfl rfl rfl (fun _ => rfl) (fun _ => goT_R rfl rfl)
theorem s50_5_17 : stepT E C B 50 r50_5 o50_5_17 (φ, H) = stpT (some 32) φ H (opPick (fget φ 18) (fget φ 31) (.bool false)) := stT_go rfl (goT_R rfl rfl)
noncomputable def c50_19 : Code := kR c50_17
noncomputable def c50_20 : Code := kT c50_19
noncomputable def r50_6 : Array Oper := kO c50_20
noncomputable def o50_6_0 : Oper := opN r50_6 0
noncomputable def o50_6_1 : Oper := opN r50_6 1
noncomputable def o50_6_2 : Oper := opN r50_6 2
noncomputable def o50_6_3 : Oper := opN r50_6 3
noncomputable def o50_6_4 : Oper := opN r50_6 4
noncomputable def o50_6_5 : Oper := opN r50_6 5
noncomputable def o50_6_6 : Oper := opN r50_6 6
noncomputable def o50_6_7 : Oper := opN r50_6 7
noncomputable def o50_6_8 : Oper := opN r50_6 8
theorem x50_20 : execA E C (fg 50) B 50 E0 N c50_20 s = regX (runA E C B 50 r50_6 r50_6.toList s) (fun s => gcM E0 [32, 33, 34, 35, 36, 37, 38, 39, 40] (forget s.1 [32, 33, 34, 35, 36, 37, 38, 39, 40], s.2)) := x_reg (ops := r50_6) (by rfl) (by rfl) s
theorem r50_6_l : r50_6.toList = [o50_6_0, o50_6_1, o50_6_2, o50_6_3, o50_6_4, o50_6_5, o50_6_6, o50_6_7, o50_6_8] := nrfl rfl
theorem s50_6_0 : stepA E C B 50 r50_6 o50_6_0 (φ, H) = some (fput φ 33 (fget φ 7), H) := nrfl rfl
theorem s50_6_1 : stepA E C B 50 r50_6 o50_6_1 (φ, H) = some (fput φ 34 (fget φ 0), H) := nrfl rfl
theorem s50_6_2 : stepA E C B 50 r50_6 o50_6_2 (φ, H) = some (fput φ 35 (fget φ 8), H) := nrfl rfl
theorem s50_6_3 : stepA E C B 50 r50_6 o50_6_3 (φ, H) = stp (some 36) φ H (just (aIndexAddr E.T 25 (fget φ 34) (fget φ 35))) := nrfl rfl
theorem s50_6_4 : stepA E C B 50 r50_6 o50_6_4 (φ, H) = stp (some 37) φ H (just (aFieldAddr E.T 82 (fget φ 36) 3)) := nrfl rfl
theorem s50_6_5 : stepA E C B 50 r50_6 o50_6_5 (φ, H) = stp (some 38) φ H (just (aLoad E.T 3 (fget φ 37))) := nrfl rfl
theorem s50_6_6 : stepA E C B 50 r50_6 o50_6_6 (φ, H) = stp (some 39) φ H (aBuildSlice E.T (B + 39) 23 1 (evO E φ) [(0, Operand.tmp 38)]) := nrfl rfl
theorem s50_6_7 : stepA E C B 50 r50_6 o50_6_7 (φ, H) = stp (some 40) φ H (aBuiltin E.T (B + 40) .append #[23, 23] [(fget φ 33), (fget φ 39)]) := nrfl rfl
theorem s50_6_8 : stepA E C B 50 r50_6 o50_6_8 (φ, H) = some (fput φ 7 (fget φ 40), H) := nrfl rfl
noncomputable def c50_21 : Code := kE c50_19
noncomputable def r50_7 : Array Oper := kO c50_21
noncomputable def o50_7_0 : Oper := opN r50_7 0
noncomputable def o50_7_1 : Oper := opN r50_7 1
noncomputable def o50_7_2 : Oper := opN r50_7 2
noncomputable def o50_7_3 : Oper := opN r50_7 3
noncomputable def o50_7_4 : Oper := opN r50_7 4
noncomputable def o50_7_5 : Oper := opN r50_7 5
noncomputable def o50_7_6 : Oper := opN r50_7 6
noncomputable def o50_7_7 : Oper := opN r50_7 7
noncomputable def o50_7_8 : Oper := opN r50_7 8
theorem x50_21 : execA E C (fg 50) B 50 E0 N c50_21 s = regX (runA E C B 50 r50_7 r50_7.toList s) (fun s => gcM E0 [32, 41, 42, 43, 44, 45, 46, 47, 48] (forget s.1 [32, 41, 42, 43, 44, 45, 46, 47, 48], s.2)) := x_reg (ops := r50_7) (by rfl) (by rfl) s
theorem r50_7_l : r50_7.toList = [o50_7_0, o50_7_1, o50_7_2, o50_7_3, o50_7_4, o50_7_5, o50_7_6, o50_7_7, o50_7_8] := nrfl rfl
theorem s50_7_0 : stepA E C B 50 r50_7 o50_7_0 (φ, H) = some (fput φ 41 (fget φ 7), H) := nrfl rfl
theorem s50_7_1 : stepA E C B 50 r50_7 o50_7_1 (φ, H) = some (fput φ 42 (fget φ 0), H) := nrfl rfl
theorem s50_7_2 : stepA E C B 50 r50_7 o50_7_2 (φ, H) = some (fput φ 43 (fget φ 8), H) := nrfl rfl
theorem s50_7_3 : stepA E C B 50 r50_7 o50_7_3 (φ, H) = stp (some 44) φ H (just (aIndexAddr E.T 25 (fget φ 42) (fget φ 43))) := nrfl rfl
theorem s50_7_4 : stepA E C B 50 r50_7 o50_7_4 (φ, H) = stp (some 45) φ H (just (aFieldAddr E.T 82 (fget φ 44) 2)) := nrfl rfl
theorem s50_7_5 : stepA E C B 50 r50_7 o50_7_5 (φ, H) = stp (some 46) φ H (just (aLoad E.T 3 (fget φ 45))) := nrfl rfl
theorem s50_7_6 : stepA E C B 50 r50_7 o50_7_6 (φ, H) = stp (some 47) φ H (aBuildSlice E.T (B + 47) 23 1 (evO E φ) [(0, Operand.tmp 46)]) := nrfl rfl
theorem s50_7_7 : stepA E C B 50 r50_7 o50_7_7 (φ, H) = stp (some 48) φ H (aBuiltin E.T (B + 48) .append #[23, 23] [(fget φ 41), (fget φ 47)]) := nrfl rfl
theorem s50_7_8 : stepA E C B 50 r50_7 o50_7_8 (φ, H) = some (fput φ 7 (fget φ 48), H) := nrfl rfl
theorem x50_19 : execA E C (fg 50) B 50 E0 N c50_19 (φ, H) = condX (fget φ 32) (execA E C (fg 50) B 50 E0 N c50_20 (φ, H)) (execA E C (fg 50) B 50 E0 N c50_21 (φ, H)) := x_cond (by rfl) _
theorem x50_17 : execA E C (fg 50) B 50 E0 N c50_17 s = seqX (execA E C (fg 50) B 50 E0 N c50_18 s) (execA E C (fg 50) B 50 E0 N c50_19) := x_seq (by rfl) s
theorem x50_16 : execA E C (fg 50) B 50 E0 N c50_16 s = blockX 1 (fun s => (forget s.1 [], s.2)) (execA E C (fg 50) B 50 E0 N c50_17 s) := x_block (by rfl) (by rfl) s
noncomputable def c50_22 : Code := kR c50_15
noncomputable def r50_4 : Array Oper := kO c50_22
noncomputable def o50_4_0 : Oper := opN r50_4 0
noncomputable def o50_4_1 : Oper := opN r50_4 1
noncomputable def o50_4_2 : Oper := opN r50_4 2
theorem x50_22 : execA E C (fg 50) B 50 E0 N c50_22 s = regX (runA E C B 50 r50_4 r50_4.toList s) (fun s => gcM E0 [13, 14] (forget s.1 [13, 14], s.2)) := x_reg (ops := r50_4) (by rfl) (by rfl) s
theorem r50_4_l : r50_4.toList = [o50_4_0, o50_4_1, o50_4_2] := nrfl rfl
theorem s50_4_0 : stepA E C B 50 r50_4 o50_4_0 (φ, H) = some (fput φ 13 (fget φ 8), H) := nrfl rfl
theorem s50_4_1 : stepA E C B 50 r50_4 o50_4_1 (φ, H) = stp (some 14) φ H (just (aBin E.T .add 3 (fget φ 13) (.int .i64 1))) := nrfl rfl
theorem s50_4_2 : stepA E C B 50 r50_4 o50_4_2 (φ, H) = some (fput φ 8 (fget φ 14), H) := nrfl rfl
theorem x50_15 : execA E C (fg 50) B 50 E0 N c50_15 s = seqX (execA E C (fg 50) B 50 E0 N c50_16 s) (execA E C (fg 50) B 50 E0 N c50_22) := x_seq (by rfl) s
theorem x50_9 : execA E C (fg 50) B 50 E0 N c50_9 s = seqX (execA E C (fg 50) B 50 E0 N c50_10 s) (execA E C (fg 50) B 50 E0 N c50_15) := x_seq (by rfl) s
-- a loop of f50: x50_8; body c50_9; slots [8, 7, 2, 1, 0]
theorem x50_8 : execA E C (fg 50) B 50 E0 N c50_8 s = iterA (execA E C (fg 50) B 50 E0 N c50_9) (headA E0) N s := x_loop (by rfl) s
theorem x50_7 : execA E C (fg 50) B 50 E0 N c50_7 s = blockX 0 (fun s => (forget s.1 [0, 1, 2, 8, 12], s.2)) (execA E C (fg 50) B 50 E0 N c50_8 s) := x_block (by rfl) (by rfl) s
theorem x50_5 : execA E C (fg 50) B 50 E0 N c50_5 s = seqX (execA E C (fg 50) B 50 E0 N c50_6 s) (execA E C (fg 50) B 50 E0 N c50_7) := x_seq (by rfl) s
noncomputable def c50_23 : Code := kR c50_4
noncomputable def c50_24 : Code := kL c50_23
noncomputable def r50_8 : Array Oper := kO c50_24
noncomputable def o50_8_0 : Oper := opN r50_8 0
noncomputable def o50_8_1 : Oper := opN r50_8 1
theorem x50_24 : execA E C (fg 50) B 50 E0 N c50_24 s = regX (runA E C B 50 r50_8 r50_8.toList s) (fun s => gcM E0 [7, 49] (forget s.1 [7, 49], s.2)) := x_reg (ops := r50_8) (by rfl) (by rfl) s
theorem r50_8_l : r50_8.toList = [o50_8_0, o50_8_1] := nrfl rfl
theorem s50_8_0 : stepA E C B 50 r50_8 o50_8_0 (φ, H) = some (fput φ 49 (fget φ 7), H) := nrfl rfl
theorem s50_8_1 : stepA E C B 50 r50_8 o50_8_1 (φ, H) = some (fput φ 6 (fget φ 49), H) := nrfl rfl
noncomputable def c50_25 : Code := kR c50_23
theorem x50_25 : execA E C (fg 50) B 50 E0 N c50_25 s = some (.ret, s) := x_ret (by rfl) s
theorem x50_23 : execA E C (fg 50) B 50 E0 N c50_23 s = seqX (execA E C (fg 50) B 50 E0 N c50_24 s) (execA E C (fg 50) B 50 E0 N c50_25) := x_seq (by rfl) s
theorem x50_4 : execA E C (fg 50) B 50 E0 N c50_4 s = seqX (execA E C (fg 50) B 50 E0 N c50_5 s) (execA E C (fg 50) B 50 E0 N c50_23) := x_seq (by rfl) s
theorem x50_2 : execA E C (fg 50) B 50 E0 N c50_2 s = seqX (execA E C (fg 50) B 50 E0 N c50_3 s) (execA E C (fg 50) B 50 E0 N c50_4) := x_seq (by rfl) s
theorem x50_0 : execA E C (fg 50) B 50 E0 N c50_0 s = seqX (execA E C (fg 50) B 50 E0 N c50_1 s) (execA E C (fg 50) B 50 E0 N c50_2) := x_seq (by rfl) s
theorem fi_50 : fInfo E 50 = some ⟨50, #[.tmp 6], c50_0⟩ := nrfl rfl
theorem b_50 (args : List AV) : bodyA E C fg N 50 args H B = bodyX E [.tmp 6] (execA E C (fg 50) B 50 H N c50_0 (frame0 args 0 [], H)) := bodyA_eq fi_50 args H
/-! ### f54: novaculite/novaculiteref07.moment -/
noncomputable def c54_0 : Code := kBody Proofs.Try.f54
noncomputable def c54_1 : Code := kL c54_0
noncomputable def r54_0 : Array Oper := kO c54_1
noncomputable def o54_0_0 : Oper := opN r54_0 0
theorem x54_1 : execA E C (fg 54) B 38 E0 N c54_1 s = regX (runA E C B 38 r54_0 r54_0.toList s) (fun s => gcM E0 [8] (forget s.1 [8], s.2)) := x_reg (ops := r54_0) (by rfl) (by rfl) s
theorem r54_0_l : r54_0.toList = [o54_0_0] := nrfl rfl
theorem s54_0_0 : stepA E C B 38 r54_0 o54_0_0 (φ, H) = some (fput φ 8 (.int .i64 0), H) := nrfl rfl
noncomputable def c54_2 : Code := kR c54_0
noncomputable def c54_3 : Code := kL c54_2
noncomputable def r54_1 : Array Oper := kO c54_3
noncomputable def o54_1_0 : Oper := opN r54_1 0
theorem x54_3 : execA E C (fg 54) B 38 E0 N c54_3 s = regX (runA E C B 38 r54_1 r54_1.toList s) (fun s => gcM E0 [] (forget s.1 [], s.2)) := x_reg (ops := r54_1) (by rfl) (by rfl) s
theorem r54_1_l : r54_1.toList = [o54_1_0] := nrfl rfl
theorem s54_1_0 : stepA E C B 38 r54_1 o54_1_0 (φ, H) = some (fput φ 9 (.int .i64 0), H) := nrfl rfl
noncomputable def c54_4 : Code := kR c54_2
noncomputable def c54_5 : Code := kL c54_4
noncomputable def c54_6 : Code := kL c54_5
noncomputable def r54_2 : Array Oper := kO c54_6
noncomputable def o54_2_0 : Oper := opN r54_2 0
noncomputable def o54_2_1 : Oper := opN r54_2 1
theorem x54_6 : execA E C (fg 54) B 38 E0 N c54_6 s = regX (runA E C B 38 r54_2 r54_2.toList s) (fun s => gcM E0 [11] (forget s.1 [11], s.2)) := x_reg (ops := r54_2) (by rfl) (by rfl) s
theorem r54_2_l : r54_2.toList = [o54_2_0, o54_2_1] := nrfl rfl
theorem s54_2_0 : stepA E C B 38 r54_2 o54_2_0 (φ, H) = some (fput φ 11 (fget φ 2), H) := nrfl rfl
theorem s54_2_1 : stepA E C B 38 r54_2 o54_2_1 (φ, H) = some (fput φ 10 (fget φ 11), H) := nrfl rfl
noncomputable def c54_7 : Code := kR c54_5
noncomputable def c54_8 : Code := kB c54_7
noncomputable def c54_9 : Code := kB c54_8
noncomputable def c54_10 : Code := kL c54_9
noncomputable def c54_11 : Code := kL c54_10
noncomputable def r54_3 : Array Oper := kO c54_11
noncomputable def o54_3_0 : Oper := opN r54_3 0
noncomputable def o54_3_1 : Oper := opN r54_3 1
noncomputable def o54_3_2 : Oper := opN r54_3 2
noncomputable def o54_3_3 : Oper := opN r54_3 3
theorem x54_11 : execA E C (fg 54) B 38 E0 N c54_11 s = regX (runA E C B 38 r54_3 r54_3.toList s) (fun s => gcM E0 [12, 13, 14] (forget s.1 [12, 13, 14], s.2)) := x_reg (ops := r54_3) (by rfl) (by rfl) s
theorem r54_3_l : r54_3.toList = [o54_3_0, o54_3_1, o54_3_2, o54_3_3] := nrfl rfl
theorem s54_3_0 : stepA E C B 38 r54_3 o54_3_0 (φ, H) = some (fput φ 12 (fget φ 10), H) := nrfl rfl
theorem s54_3_1 : stepA E C B 38 r54_3 o54_3_1 (φ, H) = some (fput φ 13 (fget φ 0), H) := nrfl rfl
theorem s54_3_2 : stepA E C B 38 r54_3 o54_3_2 (φ, H) = stp (some 14) φ H (aBuiltin E.T (B + 14) .len #[25] [(fget φ 13)]) := nrfl rfl
theorem s54_3_3 : stepA E C B 38 r54_3 o54_3_3 (φ, H) = stp (some 15) φ H (just (aBin E.T .lss 3 (fget φ 12) (fget φ 14))) := nrfl rfl
noncomputable def c54_12 : Code := kR c54_10
noncomputable def c54_13 : Code := kT c54_12
theorem x54_13 : execA E C (fg 54) B 38 E0 N c54_13 s = some (.normal, s) := x_skip (by rfl) s
noncomputable def c54_14 : Code := kE c54_12
theorem x54_14 : execA E C (fg 54) B 38 E0 N c54_14 s = some (.exit 0, s) := x_exit (by rfl) s
theorem x54_12 : execA E C (fg 54) B 38 E0 N c54_12 (φ, H) = condX (fget φ 15) (execA E C (fg 54) B 38 E0 N c54_13 (φ, H)) (execA E C (fg 54) B 38 E0 N c54_14 (φ, H)) := x_cond (by rfl) _
theorem x54_10 : execA E C (fg 54) B 38 E0 N c54_10 s = seqX (execA E C (fg 54) B 38 E0 N c54_11 s) (execA E C (fg 54) B 38 E0 N c54_12) := x_seq (by rfl) s
noncomputable def c54_15 : Code := kR c54_9
noncomputable def c54_16 : Code := kL c54_15
noncomputable def c54_17 : Code := kB c54_16
noncomputable def r54_5 : Array Oper := kO c54_17
noncomputable def o54_5_0 : Oper := opN r54_5 0
noncomputable def o54_5_1 : Oper := opN r54_5 1
noncomputable def o54_5_2 : Oper := opN r54_5 2
noncomputable def o54_5_3 : Oper := opN r54_5 3
noncomputable def o54_5_4 : Oper := opN r54_5 4
noncomputable def o54_5_5 : Oper := opN r54_5 5
noncomputable def o54_5_6 : Oper := opN r54_5 6
noncomputable def o54_5_7 : Oper := opN r54_5 7
noncomputable def o54_5_8 : Oper := opN r54_5 8
noncomputable def o54_5_9 : Oper := opN r54_5 9
noncomputable def o54_5_10 : Oper := opN r54_5 10
noncomputable def o54_5_11 : Oper := opN r54_5 11
noncomputable def o54_5_12 : Oper := opN r54_5 12
noncomputable def o54_5_13 : Oper := opN r54_5 13
noncomputable def o54_5_14 : Oper := opN r54_5 14
noncomputable def o54_5_15 : Oper := opN r54_5 15
noncomputable def o54_5_16 : Oper := opN r54_5 16
noncomputable def o54_5_17 : Oper := opN r54_5 17
noncomputable def o54_5_18 : Oper := opN r54_5 18
noncomputable def o54_5_19 : Oper := opN r54_5 19
theorem x54_17 : execA E C (fg 54) B 38 E0 N c54_17 s = regX (drawA E C B 38 r54_5 s) (fun s => gcM E0 [15, 18, 19, 20, 21, 22, 23, 24, 25, 26, 27, 28, 29, 30, 31, 32, 33, 34, 35, 36] (forget s.1 [15, 18, 19, 20, 21, 22, 23, 24, 25, 26, 27, 28, 29, 30, 31, 32, 33, 34, 35, 36], s.2)) := x_draw (ops := r54_5) (by rfl) (by rfl) s
theorem r54_5_l : r54_5.toList = [o54_5_0, o54_5_1, o54_5_2, o54_5_3, o54_5_4, o54_5_5, o54_5_6, o54_5_7, o54_5_8, o54_5_9, o54_5_10, o54_5_11, o54_5_12, o54_5_13, o54_5_14, o54_5_15, o54_5_16, o54_5_17, o54_5_18, o54_5_19] := nrfl rfl
theorem r54_5_st : statOk r54_5 = true := by kernel_rfl
theorem r54_5_dr : drawA E C B 38 r54_5 s = if neat 38 s = true then drX r54_5 (runT E C B 38 r54_5 r54_5.toList 0 s) else none := draw_eq r54_5_st s
theorem r54_5_an (l : List (Nat × Tr)) : dynOk r54_5 l = (!writing l || dynPairs [[], [], [], [1, 2], [1, 2, 3], [], [1, 2, 3, 4, 5], [], [], [7, 8], [7, 8, 9], [7, 8, 9, 10], [], [], [], [12, 13, 14], [7, 8, 9, 10, 11, 12, 13, 14, 15], [1, 2, 3, 4, 5, 6, 7, 8, 9, 10, 11, 12, 13, 14, 15, 16], [0, 1, 2, 3, 4, 5, 6, 7, 8, 9, 10, 11, 12, 13, 14, 15, 16, 17], [0, 1, 2, 3, 4, 5, 6, 7, 8, 9, 10, 11, 12, 13, 14, 15, 16, 17, 18]] (touching l)) := dynOk_eq (by kernel_rfl) l
theorem s54_5_0 : stepT E C B 38 r54_5 o54_5_0 (φ, H) = some ((fput φ 18 (fget φ 9), H), ⟨false, [], []⟩) := stT_go rfl (goT_mv rfl rfl)
theorem s54_5_1 : stepT E C B 38 r54_5 o54_5_1 (φ, H) = some ((fput φ 19 (fget φ 1), H), ⟨false, [], []⟩) := stT_go rfl (goT_mv rfl rfl)
theorem s54_5_2 : stepT E C B 38 r54_5 o54_5_2 (φ, H) = some ((fput φ 20 (fget φ 10), H), ⟨false, [], []⟩) := stT_go rfl (goT_mv rfl rfl)
theorem s54_5_3 : stepT E C B 38 r54_5 o54_5_3 (φ, H) = stpT (some 21) φ H (just (aIndexAddr E.T 23 (fget φ 19) (fget φ 20))) := stT_go rfl (goT_R rfl rfl)
theorem s54_5_4 : stepT E C B 38 r54_5 o54_5_4 (φ, H) = stpT (some 22) φ H (just (aLoad E.T 3 (fget φ 21))) := stT_go rfl (goT_R rfl rfl)
theorem s54_5_5 : stepT E C B 38 r54_5 o54_5_5 (φ, H) = some ((fput φ 23 (fget φ 3), H), ⟨false, [], []⟩) := stT_go rfl (goT_mv rfl rfl)
theorem s54_5_6 : stepT E C B 38 r54_5 o54_5_6 (φ, H) = stpT (some 24) φ H (just (aBin E.T .mul 3 (fget φ 22) (fget φ 23))) := stT_go rfl (goT_R rfl rfl)
theorem s54_5_7 : stepT E C B 38 r54_5 o54_5_7 (φ, H) = some ((fput φ 25 (fget φ 0), H), ⟨false, [], []⟩) := stT_go rfl (goT_mv rfl rfl)
theorem s54_5_8 : stepT E C B 38 r54_5 o54_5_8 (φ, H) = some ((fput φ 26 (fget φ 10), H), ⟨false, [], []⟩) := stT_go rfl (goT_mv rfl rfl)
theorem s54_5_9 : stepT E C B 38 r54_5 o54_5_9 (φ, H) = stpT (some 27) φ H (just (aIndexAddr E.T 25 (fget φ 25) (fget φ 26))) := stT_go rfl (goT_R rfl rfl)
theorem s54_5_10 : stepT E C B 38 r54_5 o54_5_10 (φ, H) = stpT (some 28) φ H (just (aFieldAddr E.T 82 (fget φ 27) 1)) := stT_go rfl (goT_R rfl rfl)
theorem s54_5_11 : stepT E C B 38 r54_5 o54_5_11 (φ, H) = stpT (some 29) φ H (just (aLoad E.T 3 (fget φ 28))) := stT_go rfl (goT_R rfl rfl)
theorem s54_5_12 : stepT E C B 38 r54_5 o54_5_12 (φ, H) = some ((fput φ 30 (fget φ 0), H), ⟨false, [], []⟩) := stT_go rfl (goT_mv rfl rfl)
theorem s54_5_13 : stepT E C B 38 r54_5 o54_5_13 (φ, H) = some ((fput φ 31 (fget φ 2), H), ⟨false, [], []⟩) := stT_go rfl (goT_mv rfl rfl)
theorem s54_5_14 : stepT E C B 38 r54_5 o54_5_14 (φ, H) = some ((fput φ 32 (fget φ 3), H), ⟨false, [], []⟩) := stT_go rfl (goT_mv rfl rfl)
theorem s54_5_15 : stepT E C B 38 r54_5 o54_5_15 (φ, H) = stpT (some 33) φ H (aCall C (fun j => B + j * 38 + 33) true 78 [(fget φ 30), (fget φ 31), (fget φ 32)]) := stT_go rfl (goT_R rfl rfl)
theorem s54_5_16 : stepT E C B 38 r54_5 o54_5_16 (φ, H) = stpT (some 34) φ H (just (aBin E.T .sub 3 (fget φ 29) (fget φ 33))) := stT_go rfl (goT_R rfl rfl)
theorem s54_5_17 : stepT E C B 38 r54_5 o54_5_17 (φ, H) = stpT (some 35) φ H (just (aBin E.T .mul 3 (fget φ 24) (fget φ 34))) := stT_go rfl (goT_R rfl rfl)
theorem s54_5_18 : stepT E C B 38 r54_5 o54_5_18 (φ, H) = stpT (some 36) φ H (just (aBin E.T .add 3 (fget φ 18) (fget φ 35))) := stT_go rfl (goT_R rfl rfl)
theorem s54_5_19 : stepT E C B 38 r54_5 o54_5_19 (φ, H) = some ((fput φ 9 (fget φ 36), H), ⟨false, [], []⟩) := stT_go rfl (goT_mv rfl rfl)
theorem x54_16 : execA E C (fg 54) B 38 E0 N c54_16 s = blockX 1 (fun s => (forget s.1 [], s.2)) (execA E C (fg 54) B 38 E0 N c54_17 s) := x_block (by rfl) (by rfl) s
noncomputable def c54_18 : Code := kR c54_15
noncomputable def r54_4 : Array Oper := kO c54_18
noncomputable def o54_4_0 : Oper := opN r54_4 0
noncomputable def o54_4_1 : Oper := opN r54_4 1
noncomputable def o54_4_2 : Oper := opN r54_4 2
theorem x54_18 : execA E C (fg 54) B 38 E0 N c54_18 s = regX (runA E C B 38 r54_4 r54_4.toList s) (fun s => gcM E0 [16, 17] (forget s.1 [16, 17], s.2)) := x_reg (ops := r54_4) (by rfl) (by rfl) s
theorem r54_4_l : r54_4.toList = [o54_4_0, o54_4_1, o54_4_2] := nrfl rfl
theorem s54_4_0 : stepA E C B 38 r54_4 o54_4_0 (φ, H) = some (fput φ 16 (fget φ 10), H) := nrfl rfl
theorem s54_4_1 : stepA E C B 38 r54_4 o54_4_1 (φ, H) = stp (some 17) φ H (just (aBin E.T .add 3 (fget φ 16) (.int .i64 1))) := nrfl rfl
theorem s54_4_2 : stepA E C B 38 r54_4 o54_4_2 (φ, H) = some (fput φ 10 (fget φ 17), H) := nrfl rfl
theorem x54_15 : execA E C (fg 54) B 38 E0 N c54_15 s = seqX (execA E C (fg 54) B 38 E0 N c54_16 s) (execA E C (fg 54) B 38 E0 N c54_18) := x_seq (by rfl) s
theorem x54_9 : execA E C (fg 54) B 38 E0 N c54_9 s = seqX (execA E C (fg 54) B 38 E0 N c54_10 s) (execA E C (fg 54) B 38 E0 N c54_15) := x_seq (by rfl) s
-- a loop of f54: x54_8; body c54_9; slots [10, 9, 3, 2, 1, 0]
theorem x54_8 : execA E C (fg 54) B 38 E0 N c54_8 s = iterA (execA E C (fg 54) B 38 E0 N c54_9) (headA E0) N s := x_loop (by rfl) s
theorem x54_7 : execA E C (fg 54) B 38 E0 N c54_7 s = blockX 0 (fun s => (forget s.1 [0, 1, 2, 3, 10, 15], s.2)) (execA E C (fg 54) B 38 E0 N c54_8 s) := x_block (by rfl) (by rfl) s
theorem x54_5 : execA E C (fg 54) B 38 E0 N c54_5 s = seqX (execA E C (fg 54) B 38 E0 N c54_6 s) (execA E C (fg 54) B 38 E0 N c54_7) := x_seq (by rfl) s
noncomputable def c54_19 : Code := kR c54_4
noncomputable def c54_20 : Code := kL c54_19
noncomputable def r54_6 : Array Oper := kO c54_20
noncomputable def o54_6_0 : Oper := opN r54_6 0
noncomputable def o54_6_1 : Oper := opN r54_6 1
theorem x54_20 : execA E C (fg 54) B 38 E0 N c54_20 s = regX (runA E C B 38 r54_6 r54_6.toList s) (fun s => gcM E0 [9, 37] (forget s.1 [9, 37], s.2)) := x_reg (ops := r54_6) (by rfl) (by rfl) s
theorem r54_6_l : r54_6.toList = [o54_6_0, o54_6_1] := nrfl rfl
theorem s54_6_0 : stepA E C B 38 r54_6 o54_6_0 (φ, H) = some (fput φ 37 (fget φ 9), H) := nrfl rfl
theorem s54_6_1 : stepA E C B 38 r54_6 o54_6_1 (φ, H) = some (fput φ 8 (fget φ 37), H) := nrfl rfl
noncomputable def c54_21 : Code := kR c54_19
theorem x54_21 : execA E C (fg 54) B 38 E0 N c54_21 s = some (.ret, s) := x_ret (by rfl) s
theorem x54_19 : execA E C (fg 54) B 38 E0 N c54_19 s = seqX (execA E C (fg 54) B 38 E0 N c54_20 s) (execA E C (fg 54) B 38 E0 N c54_21) := x_seq (by rfl) s
theorem x54_4 : execA E C (fg 54) B 38 E0 N c54_4 s = seqX (execA E C (fg 54) B 38 E0 N c54_5 s) (execA E C (fg 54) B 38 E0 N c54_19) := x_seq (by rfl) s
theorem x54_2 : execA E C (fg 54) B 38 E0 N c54_2 s = seqX (execA E C (fg 54) B 38 E0 N c54_3 s) (execA E C (fg 54) B 38 E0 N c54_4) := x_seq (by rfl) s
theorem x54_0 : execA E C (fg 54) B 38 E0 N c54_0 s = seqX (execA E C (fg 54) B 38 E0 N c54_1 s) (execA E C (fg 54) B 38 E0 N c54_2) := x_seq (by rfl) s
theorem fi_54 : fInfo E 54 = some ⟨38, #[.tmp 8], c54_0⟩ := nrfl rfl
theorem b_54 (args : List AV) : bodyA E C fg N 54 args H B = bodyX E [.tmp 8] (execA E C (fg 54) B 38 H N c54_0 (frame0 args 0 [], H)) := bodyA_eq fi_54 args H
/-! ### f59: novaculite/novaculiteref07.tips -/
noncomputable def c59_0 : Code := kBody Proofs.Try.f59
noncomputable def c59_1 : Code := kL c59_0
noncomputable def r59_0 : Array Oper := kO c59_1
noncomputable def o59_0_0 : Oper := opN r59_0 0
theorem x59_1 : execA E C (fg 59) B 23 E0 N c59_1 s = regX (runA E C B 23 r59_0 r59_0.toList s) (fun s => gcM E0 [6] (forget s.1 [6], s.2)) := x_reg (ops := r59_0) (by rfl) (by rfl) s
theorem r59_0_l : r59_0.toList = [o59_0_0] := nrfl rfl
theorem s59_0_0 : stepA E C B 23 r59_0 o59_0_0 (φ, H) = some (fput φ 6 (.bool false), H) := nrfl rfl
noncomputable def c59_2 : Code := kR c59_0
noncomputable def c59_3 : Code := kL c59_2
noncomputable def r59_1 : Array Oper := kO c59_3
noncomputable def o59_1_0 : Oper := opN r59_1 0
noncomputable def o59_1_1 : Oper := opN r59_1 1
noncomputable def o59_1_2 : Oper := opN r59_1 2
noncomputable def o59_1_3 : Oper := opN r59_1 3
noncomputable def o59_1_4 : Oper := opN r59_1 4
noncomputable def o59_1_5 : Oper := opN r59_1 5
noncomputable def o59_1_6 : Oper := opN r59_1 6
noncomputable def o59_1_7 : Oper := opN r59_1 7
noncomputable def o59_1_8 : Oper := opN r59_1 8
noncomputable def o59_1_9 : Oper := opN r59_1 9
noncomputable def o59_1_10 : Oper := opN r59_1 10
noncomputable def o59_1_11 : Oper := opN r59_1 11
noncomputable def o59_1_12 : Oper := opN r59_1 12
noncomputable def o59_1_13 : Oper := opN r59_1 13
noncomputable def o59_1_14 : Oper := opN r59_1 14
noncomputable def o59_1_15 : Oper := opN r59_1 15
noncomputable def o59_1_16 : Oper := opN r59_1 16
theorem x59_3 : execA E C (fg 59) B 23 E0 N c59_3 s = regX (runA E C B 23 r59_1 r59_1.toList s) (fun s => gcM E0 [0, 1, 2, 7, 8, 9, 10, 11, 12, 13, 14, 15, 16, 17, 18, 19, 20, 21, 22] (forget s.1 [0, 1, 2, 7, 8, 9, 10, 11, 12, 13, 14, 15, 16, 17, 18, 19, 20, 21, 22], s.2)) := x_reg (ops := r59_1) (by rfl) (by rfl) s
theorem r59_1_l : r59_1.toList = [o59_1_0, o59_1_1, o59_1_2, o59_1_3, o59_1_4, o59_1_5, o59_1_6, o59_1_7, o59_1_8, o59_1_9, o59_1_10, o59_1_11, o59_1_12, o59_1_13, o59_1_14, o59_1_15, o59_1_16] := nrfl rfl
theorem s59_1_0 : stepA E C B 23 r59_1 o59_1_0 (φ, H) = some (fput φ 7 (fget φ 0), H) := nrfl rfl
theorem s59_1_1 : stepA E C B 23 r59_1 o59_1_1 (φ, H) = some (fput φ 8 (fget φ 1), H) := nrfl rfl
theorem s59_1_2 : stepA E C B 23 r59_1 o59_1_2 (φ, H) = some (fput φ 9 (fget φ 2), H) := nrfl rfl
theorem s59_1_3 : stepA E C B 23 r59_1 o59_1_3 (φ, H) = stp (some 10) φ H (aCall C (fun j => B + j * 23 + 10) true 54 [(fget φ 7), (fget φ 8), (fget φ 9), (.int .i64 1)]) := nrfl rfl
theorem s59_1_4 : stepA E C B 23 r59_1 o59_1_4 (φ, H) = stp (some 11) φ H (just (aBin E.T .gtr 3 (fget φ 10) (.int .i64 0))) := nrfl rfl
theorem s59_1_5 : stepA E C B 23 r59_1 o59_1_5 (φ, H) = some (fput φ 12 (fget φ 11), H) := nrfl rfl
theorem s59_1_6 : stepA E C B 23 r59_1 o59_1_6 (φ, H) = gd φ 12 false (fun φ => some (fput φ 13 (.tup []), H)) (fun φ => some (fput φ 13 (fget φ 2), H)) := s_gd (j := 5) (oj := o59_1_5) rfl rfl rfl (fun _ => rfl) (fun _ => rfl)
theorem s59_1_7 : stepA E C B 23 r59_1 o59_1_7 (φ, H) = gd φ 12 false (fun φ => some (fput φ 14 (.tup []), H)) (fun φ => stp (some 14) φ H (just (aBin E.T .gtr 3 (fget φ 13) (.int .i64 0)))) := s_gd (j := 5) (oj := o59_1_5) rfl rfl rfl (fun _ => rfl) (fun _ => rfl)
theorem s59_1_8 : stepA E C B 23 r59_1 o59_1_8 (φ, H) = gd φ 12 false (fun φ => some (fput φ 15 (.tup []), H)) (fun φ => some (fput φ 15 (fget φ 14), H)) := s_gd (j := 5) (oj := o59_1_5) rfl rfl rfl (fun _ => rfl) (fun _ => rfl)
theorem s59_1_9 : stepA E C B 23 r59_1 o59_1_9 (φ, H) = gd φ 15 true (fun φ => some (fput φ 16 (.tup []), H)) (fun φ => some (fput φ 16 (fget φ 0), H)) := s_gd (j := 8) (oj := o59_1_8) rfl rfl rfl (fun _ => rfl) (fun _ => rfl)
theorem s59_1_10 : stepA E C B 23 r59_1 o59_1_10 (φ, H) = gd φ 15 true (fun φ => some (fput φ 17 (.tup []), H)) (fun φ => some (fput φ 17 (fget φ 1), H)) := s_gd (j := 8) (oj := o59_1_8) rfl rfl rfl (fun _ => rfl) (fun _ => rfl)
theorem s59_1_11 : stepA E C B 23 r59_1 o59_1_11 (φ, H) = gd φ 15 true (fun φ => some (fput φ 18 (.tup []), H)) (fun φ => some (fput φ 18 (fget φ 2), H)) := s_gd (j := 8) (oj := o59_1_8) rfl rfl rfl (fun _ => rfl) (fun _ => rfl)
theorem s59_1_12 : stepA E C B 23 r59_1 o59_1_12 (φ, H) = gd φ 15 true (fun φ => some (fput φ 19 (.tup []), H)) (fun φ => stp (some 19) φ H (aCall C (fun j => B + j * 23 + 19) true 54 [(fget φ 16), (fget φ 17), (fget φ 18), (.int .i64 (-1))])) := s_gd (j := 8) (oj := o59_1_8) rfl rfl rfl (fun _ => rfl) (fun _ => rfl)
theorem s59_1_13 : stepA E C B 23 r59_1 o59_1_13 (φ, H) = gd φ 15 true (fun φ => some (fput φ 20 (.tup []), H)) (fun φ => stp (some 20) φ H (just (aBin E.T .gtr 3 (fget φ 19) (.int .i64 0)))) := s_gd (j := 8) (oj := o59_1_8) rfl rfl rfl (fun _ => rfl) (fun _ => rfl)
theorem s59_1_14 : stepA E C B 23 r59_1 o59_1_14 (φ, H) = gd φ 12 false (fun φ => some (fput φ 21 (.tup []), H)) (fun φ => stp (some 21) φ H (opPick (fget φ 15) (fget φ 20) (.bool false))) := s_gd (j := 5) (oj := o59_1_5) rfl rfl rfl (fun _ => rfl) (fun _ => rfl)
theorem s59_1_15 : stepA E C B 23 r59_1 o59_1_15 (φ, H) = stp (some 22) φ H (opPick (fget φ 12) (.bool true) (fget φ 21)) := nrfl rfl
theorem s59_1_16 : stepA E C B 23 r59_1 o59_1_16 (φ, H) = some (fput φ 6 (fget φ 22), H) := nrfl rfl
noncomputable def c59_4 : Code := kR c59_2
theorem x59_4 : execA E C (fg 59) B 23 E0 N c59_4 s = some (.ret, s) := x_ret (by rfl) s
theorem x59_2 : execA E C (fg 59) B 23 E0 N c59_2 s = seqX (execA E C (fg 59) B 23 E0 N c59_3 s) (execA E C (fg 59) B 23 E0 N c59_4) := x_seq (by rfl) s
theorem x59_0 : execA E C (fg 59) B 23 E0 N c59_0 s = seqX (execA E C (fg 59) B 23 E0 N c59_1 s) (execA E C (fg 59) B 23 E0 N c59_2) := x_seq (by rfl) s
theorem fi_59 : fInfo E 59 = some ⟨23, #[.tmp 6], c59_0⟩ := nrfl rfl
theorem b_59 (args : List AV) : bodyA E C fg N 59 args H B = bodyX E [.tmp 6] (execA E C (fg 59) B 23 H N c59_0 (frame0 args 0 [], H)) := bodyA_eq fi_59 args H
/-! ### f45: novaculite/novaculiteref07.weak -/
noncomputable def c45_0 : Code := kBody Proofs.Try.f45
noncomputable def c45_1 : Code := kL c45_0
noncomputable def r45_0 : Array Oper := kO c45_1
noncomputable def o45_0_0 : Oper := opN r45_0 0
theorem x45_1 : execA E C (fg 45) B 29 E0 N c45_1 s = regX (runA E C B 29 r45_0 r45_0.toList s) (fun s => gcM E0 [2] (forget s.1 [2], s.2)) := x_reg (ops := r45_0) (by rfl) (by rfl) s
theorem r45_0_l : r45_0.toList = [o45_0_0] := nrfl rfl
theorem s45_0_0 : stepA E C B 29 r45_0 o45_0_0 (φ, H) = some (fput φ 2 (.int .i64 0), H) := nrfl rfl
noncomputable def c45_2 : Code := kR c45_0
noncomputable def c45_3 : Code := kL c45_2
noncomputable def r45_1 : Array Oper := kO c45_3
noncomputable def o45_1_0 : Oper := opN r45_1 0
theorem x45_3 : execA E C (fg 45) B 29 E0 N c45_3 s = regX (runA E C B 29 r45_1 r45_1.toList s) (fun s => gcM E0 [] (forget s.1 [], s.2)) := x_reg (ops := r45_1) (by rfl) (by rfl) s
theorem r45_1_l : r45_1.toList = [o45_1_0] := nrfl rfl
theorem s45_1_0 : stepA E C B 29 r45_1 o45_1_0 (φ, H) = some (fput φ 3 (.int .i64 0), H) := nrfl rfl
noncomputable def c45_4 : Code := kR c45_2
noncomputable def c45_5 : Code := kL c45_4
noncomputable def c45_6 : Code := kB c45_5
noncomputable def c45_7 : Code := kB c45_6
noncomputable def c45_8 : Code := kL c45_7
noncomputable def c45_9 : Code := kL c45_8
noncomputable def r45_2 : Array Oper := kO c45_9
noncomputable def o45_2_0 : Oper := opN r45_2 0
noncomputable def o45_2_1 : Oper := opN r45_2 1
noncomputable def o45_2_2 : Oper := opN r45_2 2
noncomputable def o45_2_3 : Oper := opN r45_2 3
noncomputable def o45_2_4 : Oper := opN r45_2 4
noncomputable def o45_2_5 : Oper := opN r45_2 5
noncomputable def o45_2_6 : Oper := opN r45_2 6
noncomputable def o45_2_7 : Oper := opN r45_2 7
noncomputable def o45_2_8 : Oper := opN r45_2 8
noncomputable def o45_2_9 : Oper := opN r45_2 9
noncomputable def o45_2_10 : Oper := opN r45_2 10
noncomputable def o45_2_11 : Oper := opN r45_2 11
noncomputable def o45_2_12 : Oper := opN r45_2 12
noncomputable def o45_2_13 : Oper := opN r45_2 13
noncomputable def o45_2_14 : Oper := opN r45_2 14
noncomputable def o45_2_15 : Oper := opN r45_2 15
noncomputable def o45_2_16 : Oper := opN r45_2 16
noncomputable def o45_2_17 : Oper := opN r45_2 17
noncomputable def o45_2_18 : Oper := opN r45_2 18
noncomputable def o45_2_19 : Oper := opN r45_2 19
noncomputable def o45_2_20 : Oper := opN r45_2 20
noncomputable def o45_2_21 : Oper := opN r45_2 21
theorem x45_9 : execA E C (fg 45) B 29 E0 N c45_9 s = regX (runA E C B 29 r45_2 r45_2.toList s) (fun s => gcM E0 [4, 5, 6, 7, 8, 9, 10, 11, 12, 13, 14, 15, 16, 17, 18, 19, 20, 21, 22, 23, 24] (forget s.1 [4, 5, 6, 7, 8, 9, 10, 11, 12, 13, 14, 15, 16, 17, 18, 19, 20, 21, 22, 23, 24], s.2)) := x_reg (ops := r45_2) (by rfl) (by rfl) s
theorem r45_2_l : r45_2.toList = [o45_2_0, o45_2_1, o45_2_2, o45_2_3, o45_2_4, o45_2_5, o45_2_6, o45_2_7, o45_2_8, o45_2_9, o45_2_10, o45_2_11, o45_2_12, o45_2_13, o45_2_14, o45_2_15, o45_2_16, o45_2_17, o45_2_18, o45_2_19, o45_2_20, o45_2_21] := nrfl rfl
theorem s45_2_0 : stepA E C B 29 r45_2 o45_2_0 (φ, H) = some (fput φ 4 (fget φ 3), H) := nrfl rfl
theorem s45_2_1 : stepA E C B 29 r45_2 o45_2_1 (φ, H) = some (fput φ 5 (fget φ 0), H) := nrfl rfl
theorem s45_2_2 : stepA E C B 29 r45_2 o45_2_2 (φ, H) = stp (some 6) φ H (aBuiltin E.T (B + 6) .len #[25] [(fget φ 5)]) := nrfl rfl
theorem s45_2_3 : stepA E C B 29 r45_2 o45_2_3 (φ, H) = stp (some 7) φ H (just (aBin E.T .lss 3 (fget φ 4) (fget φ 6))) := nrfl rfl
theorem s45_2_4 : stepA E C B 29 r45_2 o45_2_4 (φ, H) = some (fput φ 8 (fget φ 7), H) := nrfl rfl
theorem s45_2_5 : stepA E C B 29 r45_2 o45_2_5 (φ, H) = gd φ 8 true (fun φ => some (fput φ 9 (.tup []), H)) (fun φ => some (fput φ 9 (fget φ 0), H)) := s_gd (j := 4) (oj := o45_2_4) rfl rfl rfl (fun _ => rfl) (fun _ => rfl)
theorem s45_2_6 : stepA E C B 29 r45_2 o45_2_6 (φ, H) = gd φ 8 true (fun φ => some (fput φ 10 (.tup []), H)) (fun φ => some (fput φ 10 (fget φ 0), H)) := s_gd (j := 4) (oj := o45_2_4) rfl rfl rfl (fun _ => rfl) (fun _ => rfl)
theorem s45_2_7 : stepA E C B 29 r45_2 o45_2_7 (φ, H) = gd φ 8 true (fun φ => some (fput φ 11 (.tup []), H)) (fun φ => some (fput φ 11 (fget φ 3), H)) := s_gd (j := 4) (oj := o45_2_4) rfl rfl rfl (fun _ => rfl) (fun _ => rfl)
theorem s45_2_8 : stepA E C B 29 r45_2 o45_2_8 (φ, H) = gd φ 8 true (fun φ => some (fput φ 12 (.tup []), H)) (fun φ => stp (some 12) φ H (aCall C (fun j => B + j * 29 + 12) true 50 [(fget φ 10), (fget φ 11), (.int .i64 1)])) := s_gd (j := 4) (oj := o45_2_4) rfl rfl rfl (fun _ => rfl) (fun _ => rfl)
theorem s45_2_9 : stepA E C B 29 r45_2 o45_2_9 (φ, H) = gd φ 8 true (fun φ => some (fput φ 13 (.tup []), H)) (fun φ => some (fput φ 13 (fget φ 3), H)) := s_gd (j := 4) (oj := o45_2_4) rfl rfl rfl (fun _ => rfl) (fun _ => rfl)
theorem s45_2_10 : stepA E C B 29 r45_2 o45_2_10 (φ, H) = gd φ 8 true (fun φ => some (fput φ 14 (.tup []), H)) (fun φ => stp (some 14) φ H (aCall C (fun j => B + j * 29 + 14) true 59 [(fget φ 9), (fget φ 12), (fget φ 13)])) := s_gd (j := 4) (oj := o45_2_4) rfl rfl rfl (fun _ => rfl) (fun _ => rfl)
theorem s45_2_11 : stepA E C B 29 r45_2 o45_2_11 (φ, H) = gd φ 8 true (fun φ => some (fput φ 15 (.tup []), H)) (fun φ => stp (some 15) φ H (justO (aUn .not (fget φ 14)))) := s_gd (j := 4) (oj := o45_2_4) rfl rfl rfl (fun _ => rfl) (fun _ => rfl)
theorem s45_2_12 : stepA E C B 29 r45_2 o45_2_12 (φ, H) = stp (some 16) φ H (opPick (fget φ 8) (fget φ 15) (.bool false)) := nrfl rfl
theorem s45_2_13 : stepA E C B 29 r45_2 o45_2_13 (φ, H) = some (fput φ 17 (fget φ 16), H) := nrfl rfl
theorem s45_2_14 : stepA E C B 29 r45_2 o45_2_14 (φ, H) = gd φ 17 true (fun φ => some (fput φ 18 (.tup []), H)) (fun φ => some (fput φ 18 (fget φ 0), H)) := s_gd (j := 13) (oj := o45_2_13) rfl rfl rfl (fun _ => rfl) (fun _ => rfl)
theorem s45_2_15 : stepA E C B 29 r45_2 o45_2_15 (φ, H) = gd φ 17 true (fun φ => some (fput φ 19 (.tup []), H)) (fun φ => some (fput φ 19 (fget φ 0), H)) := s_gd (j := 13) (oj := o45_2_13) rfl rfl rfl (fun _ => rfl) (fun _ => rfl)
theorem s45_2_16 : stepA E C B 29 r45_2 o45_2_16 (φ, H) = gd φ 17 true (fun φ => some (fput φ 20 (.tup []), H)) (fun φ => some (fput φ 20 (fget φ 3), H)) := s_gd (j := 13) (oj := o45_2_13) rfl rfl rfl (fun _ => rfl) (fun _ => rfl)
theorem s45_2_17 : stepA E C B 29 r45_2 o45_2_17 (φ, H) = gd φ 17 true (fun φ => some (fput φ 21 (.tup []), H)) (fun φ => stp (some 21) φ H (aCall C (fun j => B + j * 29 + 21) true 50 [(fget φ 19), (fget φ 20), (.int .i64 (-1))])) := s_gd (j := 13) (oj := o45_2_13) rfl rfl rfl (fun _ => rfl) (fun _ => rfl)
theorem s45_2_18 : stepA E C B 29 r45_2 o45_2_18 (φ, H) = gd φ 17 true (fun φ => some (fput φ 22 (.tup []), H)) (fun φ => some (fput φ 22 (fget φ 3), H)) := s_gd (j := 13) (oj := o45_2_13) rfl rfl rfl (fun _ => rfl) (fun _ => rfl)
theorem s45_2_19 : stepA E C B 29 r45_2 o45_2_19 (φ, H) = gd φ 17 true (fun φ => some (fput φ 23 (.tup []), H)) (fun φ => stp (some 23) φ H (aCall C (fun j => B + j * 29 + 23) true 59 [(fget φ 18), (fget φ 21), (fget φ 22)])) := s_gd (j := 13) (oj := o45_2_13) rfl rfl rfl (fun _ => rfl) (fun _ => rfl)
theorem s45_2_20 : stepA E C B 29 r45_2 o45_2_20 (φ, H) = gd φ 17 true (fun φ => some (fput φ 24 (.tup []), H)) (fun φ => stp (some 24) φ H (justO (aUn .not (fget φ 23)))) := s_gd (j := 13) (oj := o45_2_13) rfl rfl rfl (fun _ => rfl) (fun _ => rfl)
theorem s45_2_21 : stepA E C B 29 r45_2 o45_2_21 (φ, H) = stp (some 25) φ H (opPick (fget φ 17) (fget φ 24) (.bool false)) := nrfl rfl
noncomputable def c45_10 : Code := kR c45_8
noncomputable def c45_11 : Code := kT c45_10
theorem x45_11 : execA E C (fg 45) B 29 E0 N c45_11 s = some (.normal, s) := x_skip (by rfl) s
noncomputable def c45_12 : Code := kE c45_10
theorem x45_12 : execA E C (fg 45) B 29 E0 N c45_12 s = some (.exit 0, s) := x_exit (by rfl) s
theorem x45_10 : execA E C (fg 45) B 29 E0 N c45_10 (φ, H) = condX (fget φ 25) (execA E C (fg 45) B 29 E0 N c45_11 (φ, H)) (execA E C (fg 45) B 29 E0 N c45_12 (φ, H)) := x_cond (by rfl) _
theorem x45_8 : execA E C (fg 45) B 29 E0 N c45_8 s = seqX (execA E C (fg 45) B 29 E0 N c45_9 s) (execA E C (fg 45) B 29 E0 N c45_10) := x_seq (by rfl) s
noncomputable def c45_13 : Code := kR c45_7
noncomputable def c45_14 : Code := kB c45_13
noncomputable def r45_3 : Array Oper := kO c45_14
noncomputable def o45_3_0 : Oper := opN r45_3 0
noncomputable def o45_3_1 : Oper := opN r45_3 1
noncomputable def o45_3_2 : Oper := opN r45_3 2
theorem x45_14 : execA E C (fg 45) B 29 E0 N c45_14 s = regX (runA E C B 29 r45_3 r45_3.toList s) (fun s => gcM E0 [25, 26, 27] (forget s.1 [25, 26, 27], s.2)) := x_reg (ops := r45_3) (by rfl) (by rfl) s
theorem r45_3_l : r45_3.toList = [o45_3_0, o45_3_1, o45_3_2] := nrfl rfl
theorem s45_3_0 : stepA E C B 29 r45_3 o45_3_0 (φ, H) = some (fput φ 26 (fget φ 3), H) := nrfl rfl
theorem s45_3_1 : stepA E C B 29 r45_3 o45_3_1 (φ, H) = stp (some 27) φ H (just (aBin E.T .add 3 (fget φ 26) (.int .i64 1))) := nrfl rfl
theorem s45_3_2 : stepA E C B 29 r45_3 o45_3_2 (φ, H) = some (fput φ 3 (fget φ 27), H) := nrfl rfl
theorem x45_13 : execA E C (fg 45) B 29 E0 N c45_13 s = blockX 1 (fun s => (forget s.1 [], s.2)) (execA E C (fg 45) B 29 E0 N c45_14 s) := x_block (by rfl) (by rfl) s
theorem x45_7 : execA E C (fg 45) B 29 E0 N c45_7 s = seqX (execA E C (fg 45) B 29 E0 N c45_8 s) (execA E C (fg 45) B 29 E0 N c45_13) := x_seq (by rfl) s
-- a loop of f45: x45_6; body c45_7; slots [3, 0]
theorem x45_6 : execA E C (fg 45) B 29 E0 N c45_6 s = iterA (execA E C (fg 45) B 29 E0 N c45_7) (headA E0) N s := x_loop (by rfl) s
theorem x45_5 : execA E C (fg 45) B 29 E0 N c45_5 s = blockX 0 (fun s => (forget s.1 [0, 25], s.2)) (execA E C (fg 45) B 29 E0 N c45_6 s) := x_block (by rfl) (by rfl) s
noncomputable def c45_15 : Code := kR c45_4
noncomputable def c45_16 : Code := kL c45_15
noncomputable def r45_4 : Array Oper := kO c45_16
noncomputable def o45_4_0 : Oper := opN r45_4 0
noncomputable def o45_4_1 : Oper := opN r45_4 1
theorem x45_16 : execA E C (fg 45) B 29 E0 N c45_16 s = regX (runA E C B 29 r45_4 r45_4.toList s) (fun s => gcM E0 [3, 28] (forget s.1 [3, 28], s.2)) := x_reg (ops := r45_4) (by rfl) (by rfl) s
theorem r45_4_l : r45_4.toList = [o45_4_0, o45_4_1] := nrfl rfl
theorem s45_4_0 : stepA E C B 29 r45_4 o45_4_0 (φ, H) = some (fput φ 28 (fget φ 3), H) := nrfl rfl
theorem s45_4_1 : stepA E C B 29 r45_4 o45_4_1 (φ, H) = some (fput φ 2 (fget φ 28), H) := nrfl rfl
noncomputable def c45_17 : Code := kR c45_15
theorem x45_17 : execA E C (fg 45) B 29 E0 N c45_17 s = some (.ret, s) := x_ret (by rfl) s
theorem x45_15 : execA E C (fg 45) B 29 E0 N c45_15 s = seqX (execA E C (fg 45) B 29 E0 N c45_16 s) (execA E C (fg 45) B 29 E0 N c45_17) := x_seq (by rfl) s
theorem x45_4 : execA E C (fg 45) B 29 E0 N c45_4 s = seqX (execA E C (fg 45) B 29 E0 N c45_5 s) (execA E C (fg 45) B 29 E0 N c45_15) := x_seq (by rfl) s
theorem x45_2 : execA E C (fg 45) B 29 E0 N c45_2 s = seqX (execA E C (fg 45) B 29 E0 N c45_3 s) (execA E C (fg 45) B 29 E0 N c45_4) := x_seq (by rfl) s
theorem x45_0 : execA E C (fg 45) B 29 E0 N c45_0 s = seqX (execA E C (fg 45) B 29 E0 N c45_1 s) (execA E C (fg 45) B 29 E0 N c45_2) := x_seq (by rfl) s
theorem fi_45 : fInfo E 45 = some ⟨29, #[.tmp 2], c45_0⟩ := nrfl rfl
theorem b_45 (args : List AV) : bodyA E C fg N 45 args H B = bodyX E [.tmp 2] (execA E C (fg 45) B 29 H N c45_0 (frame0 args 0 [], H)) := bodyA_eq fi_45 args H
/-! ### f9: novaculite/novaculiteref07.Stands -/
noncomputable def c9_0 : Code := kBody Proofs.Try.f9
noncomputable def c9_1 : Code := kL c9_0
noncomputable def r9_0 : Array Oper := kO c9_1
noncomputable def o9_0_0 : Oper := opN r9_0 0
noncomputable def o9_0_1 : Oper := opN r9_0 1
theorem x9_1 : execA E C (fg 9) B 15 E0 N c9_1 s = regX (runA E C B 15 r9_0 r9_0.toList s) (fun s => gcM E0 [2, 3] (forget s.1 [2, 3], s.2)) := x_reg (ops := r9_0) (by rfl) (by rfl) s
theorem r9_0_l : r9_0.toList = [o9_0_0, o9_0_1] := nrfl rfl
theorem s9_0_0 : stepA E C B 15 r9_0 o9_0_0 (φ, H) = some (fput φ 2 (.bool false), H) := nrfl rfl
theorem s9_0_1 : stepA E C B 15 r9_0 o9_0_1 (φ, H) = some (fput φ 3 (.int .i64 0), H) := nrfl rfl
noncomputable def c9_2 : Code := kR c9_0
noncomputable def c9_3 : Code := kL c9_2
noncomputable def r9_1 : Array Oper := kO c9_3
noncomputable def o9_1_0 : Oper := opN r9_1 0
noncomputable def o9_1_1 : Oper := opN r9_1 1
noncomputable def o9_1_2 : Oper := opN r9_1 2
theorem x9_3 : execA E C (fg 9) B 15 E0 N c9_3 s = regX (runA E C B 15 r9_1 r9_1.toList s) (fun s => gcM E0 [5, 6] (forget s.1 [5, 6], s.2)) := x_reg (ops := r9_1) (by rfl) (by rfl) s
theorem r9_1_l : r9_1.toList = [o9_1_0, o9_1_1, o9_1_2] := nrfl rfl
theorem s9_1_0 : stepA E C B 15 r9_1 o9_1_0 (φ, H) = some (fput φ 5 (fget φ 0), H) := nrfl rfl
theorem s9_1_1 : stepA E C B 15 r9_1 o9_1_1 (φ, H) = stp (some 6) φ H (aCall C (fun j => B + j * 15 + 6) true 18 [(fget φ 5)]) := nrfl rfl
theorem s9_1_2 : stepA E C B 15 r9_1 o9_1_2 (φ, H) = some (fput φ 4 (fget φ 6), H) := nrfl rfl
noncomputable def c9_4 : Code := kR c9_2
noncomputable def c9_5 : Code := kL c9_4
noncomputable def c9_6 : Code := kL c9_5
noncomputable def r9_2 : Array Oper := kO c9_6
noncomputable def o9_2_0 : Oper := opN r9_2 0
noncomputable def o9_2_1 : Oper := opN r9_2 1
theorem x9_6 : execA E C (fg 9) B 15 E0 N c9_6 s = regX (runA E C B 15 r9_2 r9_2.toList s) (fun s => gcM E0 [7] (forget s.1 [7], s.2)) := x_reg (ops := r9_2) (by rfl) (by rfl) s
theorem r9_2_l : r9_2.toList = [o9_2_0, o9_2_1] := nrfl rfl
theorem s9_2_0 : stepA E C B 15 r9_2 o9_2_0 (φ, H) = some (fput φ 7 (fget φ 4), H) := nrfl rfl
theorem s9_2_1 : stepA E C B 15 r9_2 o9_2_1 (φ, H) = stp (some 8) φ H (just (aBin E.T .neq 27 (fget φ 7) (.int .i64 0))) := nrfl rfl
noncomputable def c9_7 : Code := kR c9_5
noncomputable def c9_8 : Code := kT c9_7
noncomputable def c9_9 : Code := kL c9_8
noncomputable def r9_3 : Array Oper := kO c9_9
noncomputable def o9_3_0 : Oper := opN r9_3 0
noncomputable def o9_3_1 : Oper := opN r9_3 1
noncomputable def o9_3_2 : Oper := opN r9_3 2
theorem x9_9 : execA E C (fg 9) B 15 E0 N c9_9 s = regX (runA E C B 15 r9_3 r9_3.toList s) (fun s => gcM E0 [0, 4, 8, 9] (forget s.1 [0, 4, 8, 9], s.2)) := x_reg (ops := r9_3) (by rfl) (by rfl) s
theorem r9_3_l : r9_3.toList = [o9_3_0, o9_3_1, o9_3_2] := nrfl rfl
theorem s9_3_0 : stepA E C B 15 r9_3 o9_3_0 (φ, H) = some (fput φ 9 (fget φ 4), H) := nrfl rfl
theorem s9_3_1 : stepA E C B 15 r9_3 o9_3_1 (φ, H) = some (fput φ 2 (.bool false), H) := nrfl rfl
theorem s9_3_2 : stepA E C B 15 r9_3 o9_3_2 (φ, H) = some (fput φ 3 (fget φ 9), H) := nrfl rfl
noncomputable def c9_10 : Code := kR c9_8
theorem x9_10 : execA E C (fg 9) B 15 E0 N c9_10 s = some (.ret, s) := x_ret (by rfl) s
theorem x9_8 : execA E C (fg 9) B 15 E0 N c9_8 s = seqX (execA E C (fg 9) B 15 E0 N c9_9 s) (execA E C (fg 9) B 15 E0 N c9_10) := x_seq (by rfl) s
noncomputable def c9_11 : Code := kE c9_7
theorem x9_11 : execA E C (fg 9) B 15 E0 N c9_11 s = some (.normal, s) := x_skip (by rfl) s
theorem x9_7 : execA E C (fg 9) B 15 E0 N c9_7 (φ, H) = condX (fget φ 8) (execA E C (fg 9) B 15 E0 N c9_8 (φ, H)) (execA E C (fg 9) B 15 E0 N c9_11 (φ, H)) := x_cond (by rfl) _
theorem x9_5 : execA E C (fg 9) B 15 E0 N c9_5 s = seqX (execA E C (fg 9) B 15 E0 N c9_6 s) (execA E C (fg 9) B 15 E0 N c9_7) := x_seq (by rfl) s
noncomputable def c9_12 : Code := kR c9_4
noncomputable def c9_13 : Code := kL c9_12
noncomputable def r9_4 : Array Oper := kO c9_13
noncomputable def o9_4_0 : Oper := opN r9_4 0
noncomputable def o9_4_1 : Oper := opN r9_4 1
noncomputable def o9_4_2 : Oper := opN r9_4 2
noncomputable def o9_4_3 : Oper := opN r9_4 3
noncomputable def o9_4_4 : Oper := opN r9_4 4
noncomputable def o9_4_5 : Oper := opN r9_4 5
noncomputable def o9_4_6 : Oper := opN r9_4 6
theorem x9_13 : execA E C (fg 9) B 15 E0 N c9_13 s = regX (runA E C B 15 r9_4 r9_4.toList s) (fun s => gcM E0 [0, 4, 8, 10, 11, 12, 13, 14] (forget s.1 [0, 4, 8, 10, 11, 12, 13, 14], s.2)) := x_reg (ops := r9_4) (by rfl) (by rfl) s
theorem r9_4_l : r9_4.toList = [o9_4_0, o9_4_1, o9_4_2, o9_4_3, o9_4_4, o9_4_5, o9_4_6] := nrfl rfl
theorem s9_4_0 : stepA E C B 15 r9_4 o9_4_0 (φ, H) = some (fput φ 10 (fget φ 0), H) := nrfl rfl
theorem s9_4_1 : stepA E C B 15 r9_4 o9_4_1 (φ, H) = stp (some 11) φ H (aCall C (fun j => B + j * 15 + 11) true 45 [(fget φ 10)]) := nrfl rfl
theorem s9_4_2 : stepA E C B 15 r9_4 o9_4_2 (φ, H) = some (fput φ 12 (fget φ 0), H) := nrfl rfl
theorem s9_4_3 : stepA E C B 15 r9_4 o9_4_3 (φ, H) = stp (some 13) φ H (aBuiltin E.T (B + 13) .len #[25] [(fget φ 12)]) := nrfl rfl
theorem s9_4_4 : stepA E C B 15 r9_4 o9_4_4 (φ, H) = stp (some 14) φ H (just (aBin E.T .eql 3 (fget φ 11) (fget φ 13))) := nrfl rfl
theorem s9_4_5 : stepA E C B 15 r9_4 o9_4_5 (φ, H) = some (fput φ 2 (fget φ 14), H) := nrfl rfl
theorem s9_4_6 : stepA E C B 15 r9_4 o9_4_6 (φ, H) = some (fput φ 3 (.int .i64 0), H) := nrfl rfl
noncomputable def c9_14 : Code := kR c9_12
theorem x9_14 : execA E C (fg 9) B 15 E0 N c9_14 s = some (.ret, s) := x_ret (by rfl) s
theorem x9_12 : execA E C (fg 9) B 15 E0 N c9_12 s = seqX (execA E C (fg 9) B 15 E0 N c9_13 s) (execA E C (fg 9) B 15 E0 N c9_14) := x_seq (by rfl) s
theorem x9_4 : execA E C (fg 9) B 15 E0 N c9_4 s = seqX (execA E C (fg 9) B 15 E0 N c9_5 s) (execA E C (fg 9) B 15 E0 N c9_12) := x_seq (by rfl) s
theorem x9_2 : execA E C (fg 9) B 15 E0 N c9_2 s = seqX (execA E C (fg 9) B 15 E0 N c9_3 s) (execA E C (fg 9) B 15 E0 N c9_4) := x_seq (by rfl) s
theorem x9_0 : execA E C (fg 9) B 15 E0 N c9_0 s = seqX (execA E C (fg 9) B 15 E0 N c9_1 s) (execA E C (fg 9) B 15 E0 N c9_2) := x_seq (by rfl) s
theorem fi_9 : fInfo E 9 = some ⟨15, #[.tmp 2, .tmp 3], c9_0⟩ := nrfl rfl
theorem b_9 (args : List AV) : bodyA E C fg N 9 args H B = bodyX E [.tmp 2, .tmp 3] (execA E C (fg 9) B 15 H N c9_0 (frame0 args 0 [], H)) := bodyA_eq fi_9 args H
/-! ### f11: novaculite/novaculiteref07.Tips -/
noncomputable def c11_0 : Code := kBody Proofs.Try.f11
noncomputable def c11_1 : Code := kL c11_0
noncomputable def r11_0 : Array Oper := kO c11_1
noncomputable def o11_0_0 : Oper := opN r11_0 0
noncomputable def o11_0_1 : Oper := opN r11_0 1
theorem x11_1 : execA E C (fg 11) B 21 E0 N c11_1 s = regX (runA E C B 21 r11_0 r11_0.toList s) (fun s => gcM E0 [2, 3] (forget s.1 [2, 3], s.2)) := x_reg (ops := r11_0) (by rfl) (by rfl) s
theorem r11_0_l : r11_0.toList = [o11_0_0, o11_0_1] := nrfl rfl
theorem s11_0_0 : stepA E C B 21 r11_0 o11_0_0 (φ, H) = some (fput φ 2 (.int .i64 0), H) := nrfl rfl
theorem s11_0_1 : stepA E C B 21 r11_0 o11_0_1 (φ, H) = some (fput φ 3 (.int .i64 0), H) := nrfl rfl
noncomputable def c11_2 : Code := kR c11_0
noncomputable def c11_3 : Code := kL c11_2
noncomputable def r11_1 : Array Oper := kO c11_3
noncomputable def o11_1_0 : Oper := opN r11_1 0
noncomputable def o11_1_1 : Oper := opN r11_1 1
noncomputable def o11_1_2 : Oper := opN r11_1 2
theorem x11_3 : execA E C (fg 11) B 21 E0 N c11_3 s = regX (runA E C B 21 r11_1 r11_1.toList s) (fun s => gcM E0 [5, 6] (forget s.1 [5, 6], s.2)) := x_reg (ops := r11_1) (by rfl) (by rfl) s
theorem r11_1_l : r11_1.toList = [o11_1_0, o11_1_1, o11_1_2] := nrfl rfl
theorem s11_1_0 : stepA E C B 21 r11_1 o11_1_0 (φ, H) = some (fput φ 5 (fget φ 0), H) := nrfl rfl
theorem s11_1_1 : stepA E C B 21 r11_1 o11_1_1 (φ, H) = stp (some 6) φ H (aCall C (fun j => B + j * 21 + 6) true 18 [(fget φ 5)]) := nrfl rfl
theorem s11_1_2 : stepA E C B 21 r11_1 o11_1_2 (φ, H) = some (fput φ 4 (fget φ 6), H) := nrfl rfl
noncomputable def c11_4 : Code := kR c11_2
noncomputable def c11_5 : Code := kL c11_4
noncomputable def c11_6 : Code := kL c11_5
noncomputable def r11_2 : Array Oper := kO c11_6
noncomputable def o11_2_0 : Oper := opN r11_2 0
noncomputable def o11_2_1 : Oper := opN r11_2 1
noncomputable def o11_2_2 : Oper := opN r11_2 2
noncomputable def o11_2_3 : Oper := opN r11_2 3
noncomputable def o11_2_4 : Oper := opN r11_2 4
noncomputable def o11_2_5 : Oper := opN r11_2 5
noncomputable def o11_2_6 : Oper := opN r11_2 6
noncomputable def o11_2_7 : Oper := opN r11_2 7
noncomputable def o11_2_8 : Oper := opN r11_2 8
theorem x11_6 : execA E C (fg 11) B 21 E0 N c11_6 s = regX (runA E C B 21 r11_2 r11_2.toList s) (fun s => gcM E0 [7, 8, 9, 10, 11, 12, 13, 14] (forget s.1 [7, 8, 9, 10, 11, 12, 13, 14], s.2)) := x_reg (ops := r11_2) (by rfl) (by rfl) s
theorem r11_2_l : r11_2.toList = [o11_2_0, o11_2_1, o11_2_2, o11_2_3, o11_2_4, o11_2_5, o11_2_6, o11_2_7, o11_2_8] := nrfl rfl
theorem s11_2_0 : stepA E C B 21 r11_2 o11_2_0 (φ, H) = some (fput φ 7 (fget φ 4), H) := nrfl rfl
theorem s11_2_1 : stepA E C B 21 r11_2 o11_2_1 (φ, H) = stp (some 8) φ H (just (aBin E.T .eql 27 (fget φ 7) (.int .i64 0))) := nrfl rfl
theorem s11_2_2 : stepA E C B 21 r11_2 o11_2_2 (φ, H) = some (fput φ 9 (fget φ 8), H) := nrfl rfl
theorem s11_2_3 : stepA E C B 21 r11_2 o11_2_3 (φ, H) = gd φ 9 true (fun φ => some (fput φ 10 (.tup []), H)) (fun φ => some (fput φ 10 (fget φ 0), H)) := s_gd (j := 2) (oj := o11_2_2) rfl rfl rfl (fun _ => rfl) (fun _ => rfl)
theorem s11_2_4 : stepA E C B 21 r11_2 o11_2_4 (φ, H) = gd φ 9 true (fun φ => some (fput φ 11 (.tup []), H)) (fun φ => stp (some 11) φ H (aCall C (fun j => B + j * 21 + 11) true 45 [(fget φ 10)])) := s_gd (j := 2) (oj := o11_2_2) rfl rfl rfl (fun _ => rfl) (fun _ => rfl)
theorem s11_2_5 : stepA E C B 21 r11_2 o11_2_5 (φ, H) = gd φ 9 true (fun φ => some (fput φ 12 (.tup []), H)) (fun φ => some (fput φ 12 (fget φ 0), H)) := s_gd (j := 2) (oj := o11_2_2) rfl rfl rfl (fun _ => rfl) (fun _ => rfl)
theorem s11_2_6 : stepA E C B 21 r11_2 o11_2_6 (φ, H) = gd φ 9 true (fun φ => some (fput φ 13 (.tup []), H)) (fun φ => stp (some 13) φ H (aBuiltin E.T (B + 13) .len #[25] [(fget φ 12)])) := s_gd (j := 2) (oj := o11_2_2) rfl rfl rfl (fun _ => rfl) (fun _ => rfl)
theorem s11_2_7 : stepA E C B 21 r11_2 o11_2_7 (φ, H) = gd φ 9 true (fun φ => some (fput φ 14 (.tup []), H)) (fun φ => stp (some 14) φ H (just (aBin E.T .eql 3 (fget φ 11) (fget φ 13)))) := s_gd (j := 2) (oj := o11_2_2) rfl rfl rfl (fun _ => rfl) (fun _ => rfl)
theorem s11_2_8 : stepA E C B 21 r11_2 o11_2_8 (φ, H) = stp (some 15) φ H (opPick (fget φ 9) (fget φ 14) (.bool false)) := nrfl rfl
noncomputable def c11_7 : Code := kR c11_5
noncomputable def c11_8 : Code := kT c11_7
noncomputable def r11_3 : Array Oper := kO c11_8
noncomputable def o11_3_0 : Oper := opN r11_3 0
theorem x11_8 : execA E C (fg 11) B 21 E0 N c11_8 s = regX (runA E C B 21 r11_3 r11_3.toList s) (fun s => gcM E0 [15] (forget s.1 [15], s.2)) := x_reg (ops := r11_3) (by rfl) (by rfl) s
theorem r11_3_l : r11_3.toList = [o11_3_0] := nrfl rfl
theorem s11_3_0 : stepA E C B 21 r11_3 o11_3_0 (φ, H) = some (fput φ 4 (.int .i64 13), H) := nrfl rfl
noncomputable def c11_9 : Code := kE c11_7
theorem x11_9 : execA E C (fg 11) B 21 E0 N c11_9 s = some (.normal, s) := x_skip (by rfl) s
theorem x11_7 : execA E C (fg 11) B 21 E0 N c11_7 (φ, H) = condX (fget φ 15) (execA E C (fg 11) B 21 E0 N c11_8 (φ, H)) (execA E C (fg 11) B 21 E0 N c11_9 (φ, H)) := x_cond (by rfl) _
theorem x11_5 : execA E C (fg 11) B 21 E0 N c11_5 s = seqX (execA E C (fg 11) B 21 E0 N c11_6 s) (execA E C (fg 11) B 21 E0 N c11_7) := x_seq (by rfl) s
noncomputable def c11_10 : Code := kR c11_4
noncomputable def c11_11 : Code := kL c11_10
noncomputable def c11_12 : Code := kL c11_11
noncomputable def r11_4 : Array Oper := kO c11_12
noncomputable def o11_4_0 : Oper := opN r11_4 0
noncomputable def o11_4_1 : Oper := opN r11_4 1
theorem x11_12 : execA E C (fg 11) B 21 E0 N c11_12 s = regX (runA E C B 21 r11_4 r11_4.toList s) (fun s => gcM E0 [15, 16] (forget s.1 [15, 16], s.2)) := x_reg (ops := r11_4) (by rfl) (by rfl) s
theorem r11_4_l : r11_4.toList = [o11_4_0, o11_4_1] := nrfl rfl
theorem s11_4_0 : stepA E C B 21 r11_4 o11_4_0 (φ, H) = some (fput φ 16 (fget φ 4), H) := nrfl rfl
theorem s11_4_1 : stepA E C B 21 r11_4 o11_4_1 (φ, H) = stp (some 17) φ H (just (aBin E.T .neq 27 (fget φ 16) (.int .i64 0))) := nrfl rfl
noncomputable def c11_13 : Code := kR c11_11
noncomputable def c11_14 : Code := kT c11_13
noncomputable def c11_15 : Code := kL c11_14
noncomputable def r11_5 : Array Oper := kO c11_15
noncomputable def o11_5_0 : Oper := opN r11_5 0
noncomputable def o11_5_1 : Oper := opN r11_5 1
noncomputable def o11_5_2 : Oper := opN r11_5 2
theorem x11_15 : execA E C (fg 11) B 21 E0 N c11_15 s = regX (runA E C B 21 r11_5 r11_5.toList s) (fun s => gcM E0 [0, 4, 17, 18] (forget s.1 [0, 4, 17, 18], s.2)) := x_reg (ops := r11_5) (by rfl) (by rfl) s
theorem r11_5_l : r11_5.toList = [o11_5_0, o11_5_1, o11_5_2] := nrfl rfl
theorem s11_5_0 : stepA E C B 21 r11_5 o11_5_0 (φ, H) = some (fput φ 18 (fget φ 4), H) := nrfl rfl
theorem s11_5_1 : stepA E C B 21 r11_5 o11_5_1 (φ, H) = some (fput φ 2 (.int .i64 0), H) := nrfl rfl
theorem s11_5_2 : stepA E C B 21 r11_5 o11_5_2 (φ, H) = some (fput φ 3 (fget φ 18), H) := nrfl rfl
noncomputable def c11_16 : Code := kR c11_14
theorem x11_16 : execA E C (fg 11) B 21 E0 N c11_16 s = some (.ret, s) := x_ret (by rfl) s
theorem x11_14 : execA E C (fg 11) B 21 E0 N c11_14 s = seqX (execA E C (fg 11) B 21 E0 N c11_15 s) (execA E C (fg 11) B 21 E0 N c11_16) := x_seq (by rfl) s
noncomputable def c11_17 : Code := kE c11_13
theorem x11_17 : execA E C (fg 11) B 21 E0 N c11_17 s = some (.normal, s) := x_skip (by rfl) s
theorem x11_13 : execA E C (fg 11) B 21 E0 N c11_13 (φ, H) = condX (fget φ 17) (execA E C (fg 11) B 21 E0 N c11_14 (φ, H)) (execA E C (fg 11) B 21 E0 N c11_17 (φ, H)) := x_cond (by rfl) _
theorem x11_11 : execA E C (fg 11) B 21 E0 N c11_11 s = seqX (execA E C (fg 11) B 21 E0 N c11_12 s) (execA E C (fg 11) B 21 E0 N c11_13) := x_seq (by rfl) s
noncomputable def c11_18 : Code := kR c11_10
noncomputable def c11_19 : Code := kL c11_18
noncomputable def r11_6 : Array Oper := kO c11_19
noncomputable def o11_6_0 : Oper := opN r11_6 0
noncomputable def o11_6_1 : Oper := opN r11_6 1
noncomputable def o11_6_2 : Oper := opN r11_6 2
noncomputable def o11_6_3 : Oper := opN r11_6 3
theorem x11_19 : execA E C (fg 11) B 21 E0 N c11_19 s = regX (runA E C B 21 r11_6 r11_6.toList s) (fun s => gcM E0 [0, 4, 17, 19, 20] (forget s.1 [0, 4, 17, 19, 20], s.2)) := x_reg (ops := r11_6) (by rfl) (by rfl) s
theorem r11_6_l : r11_6.toList = [o11_6_0, o11_6_1, o11_6_2, o11_6_3] := nrfl rfl
theorem s11_6_0 : stepA E C B 21 r11_6 o11_6_0 (φ, H) = some (fput φ 19 (fget φ 0), H) := nrfl rfl
theorem s11_6_1 : stepA E C B 21 r11_6 o11_6_1 (φ, H) = stp (some 20) φ H (aCall C (fun j => B + j * 21 + 20) true 45 [(fget φ 19)]) := nrfl rfl
theorem s11_6_2 : stepA E C B 21 r11_6 o11_6_2 (φ, H) = some (fput φ 2 (fget φ 20), H) := nrfl rfl
theorem s11_6_3 : stepA E C B 21 r11_6 o11_6_3 (φ, H) = some (fput φ 3 (.int .i64 0), H) := nrfl rfl
noncomputable def c11_20 : Code := kR c11_18
theorem x11_20 : execA E C (fg 11) B 21 E0 N c11_20 s = some (.ret, s) := x_ret (by rfl) s
theorem x11_18 : execA E C (fg 11) B 21 E0 N c11_18 s = seqX (execA E C (fg 11) B 21 E0 N c11_19 s) (execA E C (fg 11) B 21 E0 N c11_20) := x_seq (by rfl) s
theorem x11_10 : execA E C (fg 11) B 21 E0 N c11_10 s = seqX (execA E C (fg 11) B 21 E0 N c11_11 s) (execA E C (fg 11) B 21 E0 N c11_18) := x_seq (by rfl) s
theorem x11_4 : execA E C (fg 11) B 21 E0 N c11_4 s = seqX (execA E C (fg 11) B 21 E0 N c11_5 s) (execA E C (fg 11) B 21 E0 N c11_10) := x_seq (by rfl) s
theorem x11_2 : execA E C (fg 11) B 21 E0 N c11_2 s = seqX (execA E C (fg 11) B 21 E0 N c11_3 s) (execA E C (fg 11) B 21 E0 N c11_4) := x_seq (by rfl) s
theorem x11_0 : execA E C (fg 11) B 21 E0 N c11_0 s = seqX (execA E C (fg 11) B 21 E0 N c11_1 s) (execA E C (fg 11) B 21 E0 N c11_2) := x_seq (by rfl) s
theorem fi_11 : fInfo E 11 = some ⟨21, #[.tmp 2, .tmp 3], c11_0⟩ := nrfl rfl
theorem b_11 (args : List AV) : bodyA E C fg N 11 args H B = bodyX E [.tmp 2, .tmp 3] (execA E C (fg 11) B 21 H N c11_0 (frame0 args 0 [], H)) := bodyA_eq fi_11 args H
/-! ### f49: novaculite/novaculiteref07.sided -/
noncomputable def c49_0 : Code := kBody Proofs.Try.f49
noncomputable def c49_1 : Code := kL c49_0
noncomputable def r49_0 : Array Oper := kO c49_1
noncomputable def o49_0_0 : Oper := opN r49_0 0
theorem x49_1 : execA E C (fg 49) B 32 E0 N c49_1 s = regX (runA E C B 32 r49_0 r49_0.toList s) (fun s => gcM E0 [6] (forget s.1 [6], s.2)) := x_reg (ops := r49_0) (by rfl) (by rfl) s
theorem r49_0_l : r49_0.toList = [o49_0_0] := nrfl rfl
theorem s49_0_0 : stepA E C B 32 r49_0 o49_0_0 (φ, H) = some (fput φ 6 (.int .i64 0), H) := nrfl rfl
noncomputable def c49_2 : Code := kR c49_0
noncomputable def c49_3 : Code := kL c49_2
noncomputable def r49_1 : Array Oper := kO c49_3
noncomputable def o49_1_0 : Oper := opN r49_1 0
noncomputable def o49_1_1 : Oper := opN r49_1 1
noncomputable def o49_1_2 : Oper := opN r49_1 2
noncomputable def o49_1_3 : Oper := opN r49_1 3
theorem x49_3 : execA E C (fg 49) B 32 E0 N c49_3 s = regX (runA E C B 32 r49_1 r49_1.toList s) (fun s => gcM E0 [0, 8, 9, 10] (forget s.1 [0, 8, 9, 10], s.2)) := x_reg (ops := r49_1) (by rfl) (by rfl) s
theorem r49_1_l : r49_1.toList = [o49_1_0, o49_1_1, o49_1_2, o49_1_3] := nrfl rfl
theorem s49_1_0 : stepA E C B 32 r49_1 o49_1_0 (φ, H) = some (fput φ 8 (fget φ 0), H) := nrfl rfl
theorem s49_1_1 : stepA E C B 32 r49_1 o49_1_1 (φ, H) = some (fput φ 9 (fget φ 1), H) := nrfl rfl
theorem s49_1_2 : stepA E C B 32 r49_1 o49_1_2 (φ, H) = stp (some 10) φ H (aCall C (fun j => B + j * 32 + 10) true 58 [(fget φ 8), (fget φ 9)]) := nrfl rfl
theorem s49_1_3 : stepA E C B 32 r49_1 o49_1_3 (φ, H) = some (fput φ 7 (fget φ 10), H) := nrfl rfl
noncomputable def c49_4 : Code := kR c49_2
noncomputable def c49_5 : Code := kL c49_4
noncomputable def c49_6 : Code := kL c49_5
noncomputable def r49_2 : Array Oper := kO c49_6
noncomputable def o49_2_0 : Oper := opN r49_2 0
noncomputable def o49_2_1 : Oper := opN r49_2 1
noncomputable def o49_2_2 : Oper := opN r49_2 2
noncomputable def o49_2_3 : Oper := opN r49_2 3
noncomputable def o49_2_4 : Oper := opN r49_2 4
noncomputable def o49_2_5 : Oper := opN r49_2 5
noncomputable def o49_2_6 : Oper := opN r49_2 6
noncomputable def o49_2_7 : Oper := opN r49_2 7
noncomputable def o49_2_8 : Oper := opN r49_2 8
noncomputable def o49_2_9 : Oper := opN r49_2 9
theorem x49_6 : execA E C (fg 49) B 32 E0 N c49_6 s = regX (runA E C B 32 r49_2 r49_2.toList s) (fun s => gcM E0 [11, 12, 13, 14, 15, 16, 17, 18, 19] (forget s.1 [11, 12, 13, 14, 15, 16, 17, 18, 19], s.2)) := x_reg (ops := r49_2) (by rfl) (by rfl) s
theorem r49_2_l : r49_2.toList = [o49_2_0, o49_2_1, o49_2_2, o49_2_3, o49_2_4, o49_2_5, o49_2_6, o49_2_7, o49_2_8, o49_2_9] := nrfl rfl
theorem s49_2_0 : stepA E C B 32 r49_2 o49_2_0 (φ, H) = some (fput φ 11 (fget φ 7), H) := nrfl rfl
theorem s49_2_1 : stepA E C B 32 r49_2 o49_2_1 (φ, H) = stp (some 12) φ H (just (aBin E.T .eql 27 (fget φ 11) (.int .i64 0))) := nrfl rfl
theorem s49_2_2 : stepA E C B 32 r49_2 o49_2_2 (φ, H) = some (fput φ 13 (fget φ 12), H) := nrfl rfl
theorem s49_2_3 : stepA E C B 32 r49_2 o49_2_3 (φ, H) = gd φ 13 true (fun φ => some (fput φ 14 (.tup []), H)) (fun φ => some (fput φ 14 (fget φ 2), H)) := s_gd (j := 2) (oj := o49_2_2) rfl rfl rfl (fun _ => rfl) (fun _ => rfl)
theorem s49_2_4 : stepA E C B 32 r49_2 o49_2_4 (φ, H) = gd φ 13 true (fun φ => some (fput φ 15 (.tup []), H)) (fun φ => stp (some 15) φ H (just (aBin E.T .neq 3 (fget φ 14) (.int .i64 1)))) := s_gd (j := 2) (oj := o49_2_2) rfl rfl rfl (fun _ => rfl) (fun _ => rfl)
theorem s49_2_5 : stepA E C B 32 r49_2 o49_2_5 (φ, H) = stp (some 16) φ H (opPick (fget φ 13) (fget φ 15) (.bool false)) := nrfl rfl
theorem s49_2_6 : stepA E C B 32 r49_2 o49_2_6 (φ, H) = some (fput φ 17 (fget φ 16), H) := nrfl rfl
theorem s49_2_7 : stepA E C B 32 r49_2 o49_2_7 (φ, H) = gd φ 17 true (fun φ => some (fput φ 18 (.tup []), H)) (fun φ => some (fput φ 18 (fget φ 2), H)) := s_gd (j := 6) (oj := o49_2_6) rfl rfl rfl (fun _ => rfl) (fun _ => rfl)
theorem s49_2_8 : stepA E C B 32 r49_2 o49_2_8 (φ, H) = gd φ 17 true (fun φ => some (fput φ 19 (.tup []), H)) (fun φ => stp (some 19) φ H (just (aBin E.T .neq 3 (fget φ 18) (.int .i64 (-1))))) := s_gd (j := 6) (oj := o49_2_6) rfl rfl rfl (fun _ => rfl) (fun _ => rfl)
theorem s49_2_9 : stepA E C B 32 r49_2 o49_2_9 (φ, H) = stp (some 20) φ H (opPick (fget φ 17) (fget φ 19) (.bool false)) := nrfl rfl
noncomputable def c49_7 : Code := kR c49_5
noncomputable def c49_8 : Code := kT c49_7
noncomputable def r49_3 : Array Oper := kO c49_8
noncomputable def o49_3_0 : Oper := opN r49_3 0
theorem x49_8 : execA E C (fg 49) B 32 E0 N c49_8 s = regX (runA E C B 32 r49_3 r49_3.toList s) (fun s => gcM E0 [20] (forget s.1 [20], s.2)) := x_reg (ops := r49_3) (by rfl) (by rfl) s
theorem r49_3_l : r49_3.toList = [o49_3_0] := nrfl rfl
theorem s49_3_0 : stepA E C B 32 r49_3 o49_3_0 (φ, H) = some (fput φ 7 (.int .i64 1), H) := nrfl rfl
noncomputable def c49_9 : Code := kE c49_7
theorem x49_9 : execA E C (fg 49) B 32 E0 N c49_9 s = some (.normal, s) := x_skip (by rfl) s
theorem x49_7 : execA E C (fg 49) B 32 E0 N c49_7 (φ, H) = condX (fget φ 20) (execA E C (fg 49) B 32 E0 N c49_8 (φ, H)) (execA E C (fg 49) B 32 E0 N c49_9 (φ, H)) := x_cond (by rfl) _
theorem x49_5 : execA E C (fg 49) B 32 E0 N c49_5 s = seqX (execA E C (fg 49) B 32 E0 N c49_6 s) (execA E C (fg 49) B 32 E0 N c49_7) := x_seq (by rfl) s
noncomputable def c49_10 : Code := kR c49_4
noncomputable def c49_11 : Code := kL c49_10
noncomputable def c49_12 : Code := kL c49_11
noncomputable def r49_4 : Array Oper := kO c49_12
noncomputable def o49_4_0 : Oper := opN r49_4 0
noncomputable def o49_4_1 : Oper := opN r49_4 1
noncomputable def o49_4_2 : Oper := opN r49_4 2
noncomputable def o49_4_3 : Oper := opN r49_4 3
noncomputable def o49_4_4 : Oper := opN r49_4 4
noncomputable def o49_4_5 : Oper := opN r49_4 5
noncomputable def o49_4_6 : Oper := opN r49_4 6
noncomputable def o49_4_7 : Oper := opN r49_4 7
noncomputable def o49_4_8 : Oper := opN r49_4 8
noncomputable def o49_4_9 : Oper := opN r49_4 9
theorem x49_12 : execA E C (fg 49) B 32 E0 N c49_12 s = regX (runA E C B 32 r49_4 r49_4.toList s) (fun s => gcM E0 [1, 2, 20, 21, 22, 23, 24, 25, 26, 27, 28, 29] (forget s.1 [1, 2, 20, 21, 22, 23, 24, 25, 26, 27, 28, 29], s.2)) := x_reg (ops := r49_4) (by rfl) (by rfl) s
theorem r49_4_l : r49_4.toList = [o49_4_0, o49_4_1, o49_4_2, o49_4_3, o49_4_4, o49_4_5, o49_4_6, o49_4_7, o49_4_8, o49_4_9] := nrfl rfl
theorem s49_4_0 : stepA E C B 32 r49_4 o49_4_0 (φ, H) = some (fput φ 21 (fget φ 7), H) := nrfl rfl
theorem s49_4_1 : stepA E C B 32 r49_4 o49_4_1 (φ, H) = stp (some 22) φ H (just (aBin E.T .eql 27 (fget φ 21) (.int .i64 0))) := nrfl rfl
theorem s49_4_2 : stepA E C B 32 r49_4 o49_4_2 (φ, H) = some (fput φ 23 (fget φ 22), H) := nrfl rfl
theorem s49_4_3 : stepA E C B 32 r49_4 o49_4_3 (φ, H) = gd φ 23 true (fun φ => some (fput φ 24 (.tup []), H)) (fun φ => some (fput φ 24 (fget φ 1), H)) := s_gd (j := 2) (oj := o49_4_2) rfl rfl rfl (fun _ => rfl) (fun _ => rfl)
theorem s49_4_4 : stepA E C B 32 r49_4 o49_4_4 (φ, H) = gd φ 23 true (fun φ => some (fput φ 25 (.tup []), H)) (fun φ => stp (some 25) φ H (just (aBin E.T .eql 3 (fget φ 24) (.int .i64 0)))) := s_gd (j := 2) (oj := o49_4_2) rfl rfl rfl (fun _ => rfl) (fun _ => rfl)
theorem s49_4_5 : stepA E C B 32 r49_4 o49_4_5 (φ, H) = stp (some 26) φ H (opPick (fget φ 23) (fget φ 25) (.bool false)) := nrfl rfl
theorem s49_4_6 : stepA E C B 32 r49_4 o49_4_6 (φ, H) = some (fput φ 27 (fget φ 26), H) := nrfl rfl
theorem s49_4_7 : stepA E C B 32 r49_4 o49_4_7 (φ, H) = gd φ 27 true (fun φ => some (fput φ 28 (.tup []), H)) (fun φ => some (fput φ 28 (fget φ 2), H)) := s_gd (j := 6) (oj := o49_4_6) rfl rfl rfl (fun _ => rfl) (fun _ => rfl)
theorem s49_4_8 : stepA E C B 32 r49_4 o49_4_8 (φ, H) = gd φ 27 true (fun φ => some (fput φ 29 (.tup []), H)) (fun φ => stp (some 29) φ H (just (aBin E.T .eql 3 (fget φ 28) (.int .i64 (-1))))) := s_gd (j := 6) (oj := o49_4_6) rfl rfl rfl (fun _ => rfl) (fun _ => rfl)
theorem s49_4_9 : stepA E C B 32 r49_4 o49_4_9 (φ, H) = stp (some 30) φ H (opPick (fget φ 27) (fget φ 29) (.bool false)) := nrfl rfl
noncomputable def c49_13 : Code := kR c49_11
noncomputable def c49_14 : Code := kT c49_13
noncomputable def r49_5 : Array Oper := kO c49_14
noncomputable def o49_5_0 : Oper := opN r49_5 0
theorem x49_14 : execA E C (fg 49) B 32 E0 N c49_14 s = regX (runA E C B 32 r49_5 r49_5.toList s) (fun s => gcM E0 [30] (forget s.1 [30], s.2)) := x_reg (ops := r49_5) (by rfl) (by rfl) s
theorem r49_5_l : r49_5.toList = [o49_5_0] := nrfl rfl
theorem s49_5_0 : stepA E C B 32 r49_5 o49_5_0 (φ, H) = some (fput φ 7 (.int .i64 21), H) := nrfl rfl
noncomputable def c49_15 : Code := kE c49_13
theorem x49_15 : execA E C (fg 49) B 32 E0 N c49_15 s = some (.normal, s) := x_skip (by rfl) s
theorem x49_13 : execA E C (fg 49) B 32 E0 N c49_13 (φ, H) = condX (fget φ 30) (execA E C (fg 49) B 32 E0 N c49_14 (φ, H)) (execA E C (fg 49) B 32 E0 N c49_15 (φ, H)) := x_cond (by rfl) _
theorem x49_11 : execA E C (fg 49) B 32 E0 N c49_11 s = seqX (execA E C (fg 49) B 32 E0 N c49_12 s) (execA E C (fg 49) B 32 E0 N c49_13) := x_seq (by rfl) s
noncomputable def c49_16 : Code := kR c49_10
noncomputable def c49_17 : Code := kL c49_16
noncomputable def r49_6 : Array Oper := kO c49_17
noncomputable def o49_6_0 : Oper := opN r49_6 0
noncomputable def o49_6_1 : Oper := opN r49_6 1
theorem x49_17 : execA E C (fg 49) B 32 E0 N c49_17 s = regX (runA E C B 32 r49_6 r49_6.toList s) (fun s => gcM E0 [7, 30, 31] (forget s.1 [7, 30, 31], s.2)) := x_reg (ops := r49_6) (by rfl) (by rfl) s
theorem r49_6_l : r49_6.toList = [o49_6_0, o49_6_1] := nrfl rfl
theorem s49_6_0 : stepA E C B 32 r49_6 o49_6_0 (φ, H) = some (fput φ 31 (fget φ 7), H) := nrfl rfl
theorem s49_6_1 : stepA E C B 32 r49_6 o49_6_1 (φ, H) = some (fput φ 6 (fget φ 31), H) := nrfl rfl
noncomputable def c49_18 : Code := kR c49_16
theorem x49_18 : execA E C (fg 49) B 32 E0 N c49_18 s = some (.ret, s) := x_ret (by rfl) s
theorem x49_16 : execA E C (fg 49) B 32 E0 N c49_16 s = seqX (execA E C (fg 49) B 32 E0 N c49_17 s) (execA E C (fg 49) B 32 E0 N c49_18) := x_seq (by rfl) s
theorem x49_10 : execA E C (fg 49) B 32 E0 N c49_10 s = seqX (execA E C (fg 49) B 32 E0 N c49_11 s) (execA E C (fg 49) B 32 E0 N c49_16) := x_seq (by rfl) s
theorem x49_4 : execA E C (fg 49) B 32 E0 N c49_4 s = seqX (execA E C (fg 49) B 32 E0 N c49_5 s) (execA E C (fg 49) B 32 E0 N c49_10) := x_seq (by rfl) s
theorem x49_2 : execA E C (fg 49) B 32 E0 N c49_2 s = seqX (execA E C (fg 49) B 32 E0 N c49_3 s) (execA E C (fg 49) B 32 E0 N c49_4) := x_seq (by rfl) s
theorem x49_0 : execA E C (fg 49) B 32 E0 N c49_0 s = seqX (execA E C (fg 49) B 32 E0 N c49_1 s) (execA E C (fg 49) B 32 E0 N c49_2) := x_seq (by rfl) s
theorem fi_49 : fInfo E 49 = some ⟨32, #[.tmp 6], c49_0⟩ := nrfl rfl
theorem b_49 (args : List AV) : bodyA E C fg N 49 args H B = bodyX E [.tmp 6] (execA E C (fg 49) B 32 H N c49_0 (frame0 args 0 [], H)) := bodyA_eq fi_49 args H
/-! ### f13: novaculite/novaculiteref07.Worst -/
noncomputable def c13_0 : Code := kBody Proofs.Try.f13
noncomputable def c13_1 : Code := kL c13_0
noncomputable def r13_0 : Array Oper := kO c13_1
noncomputable def o13_0_0 : Oper := opN r13_0 0
noncomputable def o13_0_1 : Oper := opN r13_0 1
theorem x13_1 : execA E C (fg 13) B 20 E0 N c13_1 s = regX (runA E C B 20 r13_0 r13_0.toList s) (fun s => gcM E0 [6, 7] (forget s.1 [6, 7], s.2)) := x_reg (ops := r13_0) (by rfl) (by rfl) s
theorem r13_0_l : r13_0.toList = [o13_0_0, o13_0_1] := nrfl rfl
theorem s13_0_0 : stepA E C B 20 r13_0 o13_0_0 (φ, H) = some (fput φ 6 (.nilsl), H) := nrfl rfl
theorem s13_0_1 : stepA E C B 20 r13_0 o13_0_1 (φ, H) = some (fput φ 7 (.int .i64 0), H) := nrfl rfl
noncomputable def c13_2 : Code := kR c13_0
noncomputable def c13_3 : Code := kL c13_2
noncomputable def r13_1 : Array Oper := kO c13_3
noncomputable def o13_1_0 : Oper := opN r13_1 0
noncomputable def o13_1_1 : Oper := opN r13_1 1
noncomputable def o13_1_2 : Oper := opN r13_1 2
noncomputable def o13_1_3 : Oper := opN r13_1 3
noncomputable def o13_1_4 : Oper := opN r13_1 4
theorem x13_3 : execA E C (fg 13) B 20 E0 N c13_3 s = regX (runA E C B 20 r13_1 r13_1.toList s) (fun s => gcM E0 [9, 10, 11, 12] (forget s.1 [9, 10, 11, 12], s.2)) := x_reg (ops := r13_1) (by rfl) (by rfl) s
theorem r13_1_l : r13_1.toList = [o13_1_0, o13_1_1, o13_1_2, o13_1_3, o13_1_4] := nrfl rfl
theorem s13_1_0 : stepA E C B 20 r13_1 o13_1_0 (φ, H) = some (fput φ 9 (fget φ 0), H) := nrfl rfl
theorem s13_1_1 : stepA E C B 20 r13_1 o13_1_1 (φ, H) = some (fput φ 10 (fget φ 1), H) := nrfl rfl
theorem s13_1_2 : stepA E C B 20 r13_1 o13_1_2 (φ, H) = some (fput φ 11 (fget φ 2), H) := nrfl rfl
theorem s13_1_3 : stepA E C B 20 r13_1 o13_1_3 (φ, H) = stp (some 12) φ H (aCall C (fun j => B + j * 20 + 12) true 49 [(fget φ 9), (fget φ 10), (fget φ 11)]) := nrfl rfl
theorem s13_1_4 : stepA E C B 20 r13_1 o13_1_4 (φ, H) = some (fput φ 8 (fget φ 12), H) := nrfl rfl
noncomputable def c13_4 : Code := kR c13_2
noncomputable def c13_5 : Code := kL c13_4
noncomputable def c13_6 : Code := kL c13_5
noncomputable def r13_2 : Array Oper := kO c13_6
noncomputable def o13_2_0 : Oper := opN r13_2 0
noncomputable def o13_2_1 : Oper := opN r13_2 1
theorem x13_6 : execA E C (fg 13) B 20 E0 N c13_6 s = regX (runA E C B 20 r13_2 r13_2.toList s) (fun s => gcM E0 [13] (forget s.1 [13], s.2)) := x_reg (ops := r13_2) (by rfl) (by rfl) s
theorem r13_2_l : r13_2.toList = [o13_2_0, o13_2_1] := nrfl rfl
theorem s13_2_0 : stepA E C B 20 r13_2 o13_2_0 (φ, H) = some (fput φ 13 (fget φ 8), H) := nrfl rfl
theorem s13_2_1 : stepA E C B 20 r13_2 o13_2_1 (φ, H) = stp (some 14) φ H (just (aBin E.T .neq 27 (fget φ 13) (.int .i64 0))) := nrfl rfl
noncomputable def c13_7 : Code := kR c13_5
noncomputable def c13_8 : Code := kT c13_7
noncomputable def c13_9 : Code := kL c13_8
noncomputable def r13_3 : Array Oper := kO c13_9
noncomputable def o13_3_0 : Oper := opN r13_3 0
noncomputable def o13_3_1 : Oper := opN r13_3 1
noncomputable def o13_3_2 : Oper := opN r13_3 2
theorem x13_9 : execA E C (fg 13) B 20 E0 N c13_9 s = regX (runA E C B 20 r13_3 r13_3.toList s) (fun s => gcM E0 [0, 1, 2, 8, 14, 15] (forget s.1 [0, 1, 2, 8, 14, 15], s.2)) := x_reg (ops := r13_3) (by rfl) (by rfl) s
theorem r13_3_l : r13_3.toList = [o13_3_0, o13_3_1, o13_3_2] := nrfl rfl
theorem s13_3_0 : stepA E C B 20 r13_3 o13_3_0 (φ, H) = some (fput φ 15 (fget φ 8), H) := nrfl rfl
theorem s13_3_1 : stepA E C B 20 r13_3 o13_3_1 (φ, H) = some (fput φ 6 (.nilsl), H) := nrfl rfl
theorem s13_3_2 : stepA E C B 20 r13_3 o13_3_2 (φ, H) = some (fput φ 7 (fget φ 15), H) := nrfl rfl
noncomputable def c13_10 : Code := kR c13_8
theorem x13_10 : execA E C (fg 13) B 20 E0 N c13_10 s = some (.ret, s) := x_ret (by rfl) s
theorem x13_8 : execA E C (fg 13) B 20 E0 N c13_8 s = seqX (execA E C (fg 13) B 20 E0 N c13_9 s) (execA E C (fg 13) B 20 E0 N c13_10) := x_seq (by rfl) s
noncomputable def c13_11 : Code := kE c13_7
theorem x13_11 : execA E C (fg 13) B 20 E0 N c13_11 s = some (.normal, s) := x_skip (by rfl) s
theorem x13_7 : execA E C (fg 13) B 20 E0 N c13_7 (φ, H) = condX (fget φ 14) (execA E C (fg 13) B 20 E0 N c13_8 (φ, H)) (execA E C (fg 13) B 20 E0 N c13_11 (φ, H)) := x_cond (by rfl) _
theorem x13_5 : execA E C (fg 13) B 20 E0 N c13_5 s = seqX (execA E C (fg 13) B 20 E0 N c13_6 s) (execA E C (fg 13) B 20 E0 N c13_7) := x_seq (by rfl) s
noncomputable def c13_12 : Code := kR c13_4
noncomputable def c13_13 : Code := kL c13_12
noncomputable def r13_4 : Array Oper := kO c13_13
noncomputable def o13_4_0 : Oper := opN r13_4 0
noncomputable def o13_4_1 : Oper := opN r13_4 1
noncomputable def o13_4_2 : Oper := opN r13_4 2
noncomputable def o13_4_3 : Oper := opN r13_4 3
noncomputable def o13_4_4 : Oper := opN r13_4 4
noncomputable def o13_4_5 : Oper := opN r13_4 5
theorem x13_13 : execA E C (fg 13) B 20 E0 N c13_13 s = regX (runA E C B 20 r13_4 r13_4.toList s) (fun s => gcM E0 [0, 1, 2, 8, 14, 16, 17, 18, 19] (forget s.1 [0, 1, 2, 8, 14, 16, 17, 18, 19], s.2)) := x_reg (ops := r13_4) (by rfl) (by rfl) s
theorem r13_4_l : r13_4.toList = [o13_4_0, o13_4_1, o13_4_2, o13_4_3, o13_4_4, o13_4_5] := nrfl rfl
theorem s13_4_0 : stepA E C B 20 r13_4 o13_4_0 (φ, H) = some (fput φ 16 (fget φ 0), H) := nrfl rfl
theorem s13_4_1 : stepA E C B 20 r13_4 o13_4_1 (φ, H) = some (fput φ 17 (fget φ 1), H) := nrfl rfl
theorem s13_4_2 : stepA E C B 20 r13_4 o13_4_2 (φ, H) = some (fput φ 18 (fget φ 2), H) := nrfl rfl
theorem s13_4_3 : stepA E C B 20 r13_4 o13_4_3 (φ, H) = stp (some 19) φ H (aCall C (fun j => B + j * 20 + 19) true 50 [(fget φ 16), (fget φ 17), (fget φ 18)]) := nrfl rfl
theorem s13_4_4 : stepA E C B 20 r13_4 o13_4_4 (φ, H) = some (fput φ 6 (fget φ 19), H) := nrfl rfl
theorem s13_4_5 : stepA E C B 20 r13_4 o13_4_5 (φ, H) = some (fput φ 7 (.int .i64 0), H) := nrfl rfl
noncomputable def c13_14 : Code := kR c13_12
theorem x13_14 : execA E C (fg 13) B 20 E0 N c13_14 s = some (.ret, s) := x_ret (by rfl) s
theorem x13_12 : execA E C (fg 13) B 20 E0 N c13_12 s = seqX (execA E C (fg 13) B 20 E0 N c13_13 s) (execA E C (fg 13) B 20 E0 N c13_14) := x_seq (by rfl) s
theorem x13_4 : execA E C (fg 13) B 20 E0 N c13_4 s = seqX (execA E C (fg 13) B 20 E0 N c13_5 s) (execA E C (fg 13) B 20 E0 N c13_12) := x_seq (by rfl) s
theorem x13_2 : execA E C (fg 13) B 20 E0 N c13_2 s = seqX (execA E C (fg 13) B 20 E0 N c13_3 s) (execA E C (fg 13) B 20 E0 N c13_4) := x_seq (by rfl) s
theorem x13_0 : execA E C (fg 13) B 20 E0 N c13_0 s = seqX (execA E C (fg 13) B 20 E0 N c13_1 s) (execA E C (fg 13) B 20 E0 N c13_2) := x_seq (by rfl) s
theorem fi_13 : fInfo E 13 = some ⟨20, #[.tmp 6, .tmp 7], c13_0⟩ := nrfl rfl
theorem b_13 (args : List AV) : bodyA E C fg N 13 args H B = bodyX E [.tmp 6, .tmp 7] (execA E C (fg 13) B 20 H N c13_0 (frame0 args 0 [], H)) := bodyA_eq fi_13 args H
/-! ### f53: novaculite/novaculiteref07.weighed -/
noncomputable def c53_0 : Code := kBody Proofs.Try.f53
noncomputable def c53_1 : Code := kL c53_0
noncomputable def r53_0 : Array Oper := kO c53_1
noncomputable def o53_0_0 : Oper := opN r53_0 0
theorem x53_1 : execA E C (fg 53) B 33 E0 N c53_1 s = regX (runA E C B 33 r53_0 r53_0.toList s) (fun s => gcM E0 [4] (forget s.1 [4], s.2)) := x_reg (ops := r53_0) (by rfl) (by rfl) s
theorem r53_0_l : r53_0.toList = [o53_0_0] := nrfl rfl
theorem s53_0_0 : stepA E C B 33 r53_0 o53_0_0 (φ, H) = some (fput φ 4 (.int .i64 0), H) := nrfl rfl
noncomputable def c53_2 : Code := kR c53_0
noncomputable def c53_3 : Code := kL c53_2
noncomputable def c53_4 : Code := kL c53_3
noncomputable def r53_1 : Array Oper := kO c53_4
noncomputable def o53_1_0 : Oper := opN r53_1 0
noncomputable def o53_1_1 : Oper := opN r53_1 1
noncomputable def o53_1_2 : Oper := opN r53_1 2
noncomputable def o53_1_3 : Oper := opN r53_1 3
noncomputable def o53_1_4 : Oper := opN r53_1 4
theorem x53_4 : execA E C (fg 53) B 33 E0 N c53_4 s = regX (runA E C B 33 r53_1 r53_1.toList s) (fun s => gcM E0 [6, 7, 8, 9] (forget s.1 [6, 7, 8, 9], s.2)) := x_reg (ops := r53_1) (by rfl) (by rfl) s
theorem r53_1_l : r53_1.toList = [o53_1_0, o53_1_1, o53_1_2, o53_1_3, o53_1_4] := nrfl rfl
theorem s53_1_0 : stepA E C B 33 r53_1 o53_1_0 (φ, H) = some (fput φ 6 (fget φ 1), H) := nrfl rfl
theorem s53_1_1 : stepA E C B 33 r53_1 o53_1_1 (φ, H) = stp (some 7) φ H (aBuiltin E.T (B + 7) .len #[23] [(fget φ 6)]) := nrfl rfl
theorem s53_1_2 : stepA E C B 33 r53_1 o53_1_2 (φ, H) = some (fput φ 8 (fget φ 0), H) := nrfl rfl
theorem s53_1_3 : stepA E C B 33 r53_1 o53_1_3 (φ, H) = stp (some 9) φ H (aBuiltin E.T (B + 9) .len #[25] [(fget φ 8)]) := nrfl rfl
theorem s53_1_4 : stepA E C B 33 r53_1 o53_1_4 (φ, H) = stp (some 10) φ H (just (aBin E.T .neq 3 (fget φ 7) (fget φ 9))) := nrfl rfl
noncomputable def c53_5 : Code := kR c53_3
noncomputable def c53_6 : Code := kT c53_5
noncomputable def c53_7 : Code := kL c53_6
noncomputable def r53_2 : Array Oper := kO c53_7
noncomputable def o53_2_0 : Oper := opN r53_2 0
theorem x53_7 : execA E C (fg 53) B 33 E0 N c53_7 s = regX (runA E C B 33 r53_2 r53_2.toList s) (fun s => gcM E0 [0, 1, 10] (forget s.1 [0, 1, 10], s.2)) := x_reg (ops := r53_2) (by rfl) (by rfl) s
theorem r53_2_l : r53_2.toList = [o53_2_0] := nrfl rfl
theorem s53_2_0 : stepA E C B 33 r53_2 o53_2_0 (φ, H) = some (fput φ 4 (.int .i64 5), H) := nrfl rfl
noncomputable def c53_8 : Code := kR c53_6
theorem x53_8 : execA E C (fg 53) B 33 E0 N c53_8 s = some (.ret, s) := x_ret (by rfl) s
theorem x53_6 : execA E C (fg 53) B 33 E0 N c53_6 s = seqX (execA E C (fg 53) B 33 E0 N c53_7 s) (execA E C (fg 53) B 33 E0 N c53_8) := x_seq (by rfl) s
noncomputable def c53_9 : Code := kE c53_5
theorem x53_9 : execA E C (fg 53) B 33 E0 N c53_9 s = some (.normal, s) := x_skip (by rfl) s
theorem x53_5 : execA E C (fg 53) B 33 E0 N c53_5 (φ, H) = condX (fget φ 10) (execA E C (fg 53) B 33 E0 N c53_6 (φ, H)) (execA E C (fg 53) B 33 E0 N c53_9 (φ, H)) := x_cond (by rfl) _
theorem x53_3 : execA E C (fg 53) B 33 E0 N c53_3 s = seqX (execA E C (fg 53) B 33 E0 N c53_4 s) (execA E C (fg 53) B 33 E0 N c53_5) := x_seq (by rfl) s
noncomputable def c53_10 : Code := kR c53_2
noncomputable def c53_11 : Code := kL c53_10
noncomputable def c53_12 : Code := kL c53_11
noncomputable def r53_3 : Array Oper := kO c53_12
noncomputable def o53_3_0 : Oper := opN r53_3 0
theorem x53_12 : execA E C (fg 53) B 33 E0 N c53_12 s = regX (runA E C B 33 r53_3 r53_3.toList s) (fun s => gcM E0 [10] (forget s.1 [10], s.2)) := x_reg (ops := r53_3) (by rfl) (by rfl) s
theorem r53_3_l : r53_3.toList = [o53_3_0] := nrfl rfl
theorem s53_3_0 : stepA E C B 33 r53_3 o53_3_0 (φ, H) = some (fput φ 5 (.int .i64 0), H) := nrfl rfl
noncomputable def c53_13 : Code := kR c53_11
noncomputable def c53_14 : Code := kB c53_13
noncomputable def c53_15 : Code := kB c53_14
noncomputable def c53_16 : Code := kL c53_15
noncomputable def c53_17 : Code := kL c53_16
noncomputable def r53_4 : Array Oper := kO c53_17
noncomputable def o53_4_0 : Oper := opN r53_4 0
noncomputable def o53_4_1 : Oper := opN r53_4 1
noncomputable def o53_4_2 : Oper := opN r53_4 2
noncomputable def o53_4_3 : Oper := opN r53_4 3
theorem x53_17 : execA E C (fg 53) B 33 E0 N c53_17 s = regX (runA E C B 33 r53_4 r53_4.toList s) (fun s => gcM E0 [11, 12, 13] (forget s.1 [11, 12, 13], s.2)) := x_reg (ops := r53_4) (by rfl) (by rfl) s
theorem r53_4_l : r53_4.toList = [o53_4_0, o53_4_1, o53_4_2, o53_4_3] := nrfl rfl
theorem s53_4_0 : stepA E C B 33 r53_4 o53_4_0 (φ, H) = some (fput φ 11 (fget φ 5), H) := nrfl rfl
theorem s53_4_1 : stepA E C B 33 r53_4 o53_4_1 (φ, H) = some (fput φ 12 (fget φ 1), H) := nrfl rfl
theorem s53_4_2 : stepA E C B 33 r53_4 o53_4_2 (φ, H) = stp (some 13) φ H (aBuiltin E.T (B + 13) .len #[23] [(fget φ 12)]) := nrfl rfl
theorem s53_4_3 : stepA E C B 33 r53_4 o53_4_3 (φ, H) = stp (some 14) φ H (just (aBin E.T .lss 3 (fget φ 11) (fget φ 13))) := nrfl rfl
noncomputable def c53_18 : Code := kR c53_16
noncomputable def c53_19 : Code := kT c53_18
theorem x53_19 : execA E C (fg 53) B 33 E0 N c53_19 s = some (.normal, s) := x_skip (by rfl) s
noncomputable def c53_20 : Code := kE c53_18
theorem x53_20 : execA E C (fg 53) B 33 E0 N c53_20 s = some (.exit 0, s) := x_exit (by rfl) s
theorem x53_18 : execA E C (fg 53) B 33 E0 N c53_18 (φ, H) = condX (fget φ 14) (execA E C (fg 53) B 33 E0 N c53_19 (φ, H)) (execA E C (fg 53) B 33 E0 N c53_20 (φ, H)) := x_cond (by rfl) _
theorem x53_16 : execA E C (fg 53) B 33 E0 N c53_16 s = seqX (execA E C (fg 53) B 33 E0 N c53_17 s) (execA E C (fg 53) B 33 E0 N c53_18) := x_seq (by rfl) s
noncomputable def c53_21 : Code := kR c53_15
noncomputable def c53_22 : Code := kL c53_21
noncomputable def c53_23 : Code := kB c53_22
noncomputable def c53_24 : Code := kL c53_23
noncomputable def r53_6 : Array Oper := kO c53_24
noncomputable def o53_6_0 : Oper := opN r53_6 0
noncomputable def o53_6_1 : Oper := opN r53_6 1
noncomputable def o53_6_2 : Oper := opN r53_6 2
noncomputable def o53_6_3 : Oper := opN r53_6 3
noncomputable def o53_6_4 : Oper := opN r53_6 4
noncomputable def o53_6_5 : Oper := opN r53_6 5
noncomputable def o53_6_6 : Oper := opN r53_6 6
noncomputable def o53_6_7 : Oper := opN r53_6 7
noncomputable def o53_6_8 : Oper := opN r53_6 8
noncomputable def o53_6_9 : Oper := opN r53_6 9
noncomputable def o53_6_10 : Oper := opN r53_6 10
noncomputable def o53_6_11 : Oper := opN r53_6 11
noncomputable def o53_6_12 : Oper := opN r53_6 12
noncomputable def o53_6_13 : Oper := opN r53_6 13
noncomputable def o53_6_14 : Oper := opN r53_6 14
noncomputable def o53_6_15 : Oper := opN r53_6 15
theorem x53_24 : execA E C (fg 53) B 33 E0 N c53_24 s = regX (drawA E C B 33 r53_6 s) (fun s => gcM E0 [14, 17, 18, 19, 20, 21, 22, 23, 24, 25, 26, 27, 28, 29, 30, 31] (forget s.1 [14, 17, 18, 19, 20, 21, 22, 23, 24, 25, 26, 27, 28, 29, 30, 31], s.2)) := x_draw (ops := r53_6) (by rfl) (by rfl) s
theorem r53_6_l : r53_6.toList = [o53_6_0, o53_6_1, o53_6_2, o53_6_3, o53_6_4, o53_6_5, o53_6_6, o53_6_7, o53_6_8, o53_6_9, o53_6_10, o53_6_11, o53_6_12, o53_6_13, o53_6_14, o53_6_15] := nrfl rfl
theorem r53_6_st : statOk r53_6 = true := by kernel_rfl
theorem r53_6_dr : drawA E C B 33 r53_6 s = if neat 33 s = true then drX r53_6 (runT E C B 33 r53_6 r53_6.toList 0 s) else none := draw_eq r53_6_st s
theorem r53_6_an (l : List (Nat × Tr)) : dynOk r53_6 l = (!writing l || dynPairs [[], [], [0, 1], [0, 1, 2], [], [], [4, 5], [4, 5, 6], [4, 5, 6, 7], [], [], [9, 10], [9, 10, 11], [9, 10, 11, 12], [0, 1, 2, 3, 4, 5, 6, 7, 8, 9, 10, 11, 12, 13], [0, 1, 2, 3, 4, 5, 6, 7, 8, 9, 10, 11, 12, 13, 14]] (touching l)) := dynOk_eq (by kernel_rfl) l
theorem s53_6_0 : stepT E C B 33 r53_6 o53_6_0 (φ, H) = some ((fput φ 17 (fget φ 1), H), ⟨false, [], []⟩) := stT_go rfl (goT_mv rfl rfl)
theorem s53_6_1 : stepT E C B 33 r53_6 o53_6_1 (φ, H) = some ((fput φ 18 (fget φ 5), H), ⟨false, [], []⟩) := stT_go rfl (goT_mv rfl rfl)
theorem s53_6_2 : stepT E C B 33 r53_6 o53_6_2 (φ, H) = stpT (some 19) φ H (just (aIndexAddr E.T 23 (fget φ 17) (fget φ 18))) := stT_go rfl (goT_R rfl rfl)
theorem s53_6_3 : stepT E C B 33 r53_6 o53_6_3 (φ, H) = stpT (some 20) φ H (just (aLoad E.T 3 (fget φ 19))) := stT_go rfl (goT_R rfl rfl)
theorem s53_6_4 : stepT E C B 33 r53_6 o53_6_4 (φ, H) = some ((fput φ 21 (fget φ 0), H), ⟨false, [], []⟩) := stT_go rfl (goT_mv rfl rfl)
theorem s53_6_5 : stepT E C B 33 r53_6 o53_6_5 (φ, H) = some ((fput φ 22 (fget φ 5), H), ⟨false, [], []⟩) := stT_go rfl (goT_mv rfl rfl)
theorem s53_6_6 : stepT E C B 33 r53_6 o53_6_6 (φ, H) = stpT (some 23) φ H (just (aIndexAddr E.T 25 (fget φ 21) (fget φ 22))) := stT_go rfl (goT_R rfl rfl)
theorem s53_6_7 : stepT E C B 33 r53_6 o53_6_7 (φ, H) = stpT (some 24) φ H (just (aFieldAddr E.T 82 (fget φ 23) 2)) := stT_go rfl (goT_R rfl rfl)
theorem s53_6_8 : stepT E C B 33 r53_6 o53_6_8 (φ, H) = stpT (some 25) φ H (just (aLoad E.T 3 (fget φ 24))) := stT_go rfl (goT_R rfl rfl)
theorem s53_6_9 : stepT E C B 33 r53_6 o53_6_9 (φ, H) = some ((fput φ 26 (fget φ 0), H), ⟨false, [], []⟩) := stT_go rfl (goT_mv rfl rfl)
theorem s53_6_10 : stepT E C B 33 r53_6 o53_6_10 (φ, H) = some ((fput φ 27 (fget φ 5), H), ⟨false, [], []⟩) := stT_go rfl (goT_mv rfl rfl)
theorem s53_6_11 : stepT E C B 33 r53_6 o53_6_11 (φ, H) = stpT (some 28) φ H (just (aIndexAddr E.T 25 (fget φ 26) (fget φ 27))) := stT_go rfl (goT_R rfl rfl)
theorem s53_6_12 : stepT E C B 33 r53_6 o53_6_12 (φ, H) = stpT (some 29) φ H (just (aFieldAddr E.T 82 (fget φ 28) 3)) := stT_go rfl (goT_R rfl rfl)
theorem s53_6_13 : stepT E C B 33 r53_6 o53_6_13 (φ, H) = stpT (some 30) φ H (just (aLoad E.T 3 (fget φ 29))) := stT_go rfl (goT_R rfl rfl)
theorem s53_6_14 : stepT E C B 33 r53_6 o53_6_14 (φ, H) = stpT (some 31) φ H (aCall C (fun j => B + j * 33 + 31) true 56 [(fget φ 20), (fget φ 25), (fget φ 30)]) := stT_go rfl (goT_R rfl rfl)
theorem s53_6_15 : stepT E C B 33 r53_6 o53_6_15 (φ, H) = stpT (some 32) φ H (justO (aUn .not (fget φ 31))) := stT_go rfl (goT_R rfl rfl)
noncomputable def c53_25 : Code := kR c53_23
noncomputable def c53_26 : Code := kT c53_25
noncomputable def c53_27 : Code := kL c53_26
noncomputable def r53_7 : Array Oper := kO c53_27
noncomputable def o53_7_0 : Oper := opN r53_7 0
theorem x53_27 : execA E C (fg 53) B 33 E0 N c53_27 s = regX (runA E C B 33 r53_7 r53_7.toList s) (fun s => gcM E0 [0, 1, 5, 32] (forget s.1 [0, 1, 5, 32], s.2)) := x_reg (ops := r53_7) (by rfl) (by rfl) s
theorem r53_7_l : r53_7.toList = [o53_7_0] := nrfl rfl
theorem s53_7_0 : stepA E C B 33 r53_7 o53_7_0 (φ, H) = some (fput φ 4 (.int .i64 1), H) := nrfl rfl
noncomputable def c53_28 : Code := kR c53_26
theorem x53_28 : execA E C (fg 53) B 33 E0 N c53_28 s = some (.ret, s) := x_ret (by rfl) s
theorem x53_26 : execA E C (fg 53) B 33 E0 N c53_26 s = seqX (execA E C (fg 53) B 33 E0 N c53_27 s) (execA E C (fg 53) B 33 E0 N c53_28) := x_seq (by rfl) s
noncomputable def c53_29 : Code := kE c53_25
theorem x53_29 : execA E C (fg 53) B 33 E0 N c53_29 s = some (.normal, s) := x_skip (by rfl) s
theorem x53_25 : execA E C (fg 53) B 33 E0 N c53_25 (φ, H) = condX (fget φ 32) (execA E C (fg 53) B 33 E0 N c53_26 (φ, H)) (execA E C (fg 53) B 33 E0 N c53_29 (φ, H)) := x_cond (by rfl) _
theorem x53_23 : execA E C (fg 53) B 33 E0 N c53_23 s = seqX (execA E C (fg 53) B 33 E0 N c53_24 s) (execA E C (fg 53) B 33 E0 N c53_25) := x_seq (by rfl) s
theorem x53_22 : execA E C (fg 53) B 33 E0 N c53_22 s = blockX 1 (fun s => (forget s.1 [32], s.2)) (execA E C (fg 53) B 33 E0 N c53_23 s) := x_block (by rfl) (by rfl) s
noncomputable def c53_30 : Code := kR c53_21
noncomputable def r53_5 : Array Oper := kO c53_30
noncomputable def o53_5_0 : Oper := opN r53_5 0
noncomputable def o53_5_1 : Oper := opN r53_5 1
noncomputable def o53_5_2 : Oper := opN r53_5 2
theorem x53_30 : execA E C (fg 53) B 33 E0 N c53_30 s = regX (runA E C B 33 r53_5 r53_5.toList s) (fun s => gcM E0 [15, 16] (forget s.1 [15, 16], s.2)) := x_reg (ops := r53_5) (by rfl) (by rfl) s
theorem r53_5_l : r53_5.toList = [o53_5_0, o53_5_1, o53_5_2] := nrfl rfl
theorem s53_5_0 : stepA E C B 33 r53_5 o53_5_0 (φ, H) = some (fput φ 15 (fget φ 5), H) := nrfl rfl
theorem s53_5_1 : stepA E C B 33 r53_5 o53_5_1 (φ, H) = stp (some 16) φ H (just (aBin E.T .add 3 (fget φ 15) (.int .i64 1))) := nrfl rfl
theorem s53_5_2 : stepA E C B 33 r53_5 o53_5_2 (φ, H) = some (fput φ 5 (fget φ 16), H) := nrfl rfl
theorem x53_21 : execA E C (fg 53) B 33 E0 N c53_21 s = seqX (execA E C (fg 53) B 33 E0 N c53_22 s) (execA E C (fg 53) B 33 E0 N c53_30) := x_seq (by rfl) s
theorem x53_15 : execA E C (fg 53) B 33 E0 N c53_15 s = seqX (execA E C (fg 53) B 33 E0 N c53_16 s) (execA E C (fg 53) B 33 E0 N c53_21) := x_seq (by rfl) s
-- a loop of f53: x53_14; body c53_15; slots [5, 1, 0]
theorem x53_14 : execA E C (fg 53) B 33 E0 N c53_14 s = iterA (execA E C (fg 53) B 33 E0 N c53_15) (headA E0) N s := x_loop (by rfl) s
theorem x53_13 : execA E C (fg 53) B 33 E0 N c53_13 s = blockX 0 (fun s => (forget s.1 [0, 1, 5, 14], s.2)) (execA E C (fg 53) B 33 E0 N c53_14 s) := x_block (by rfl) (by rfl) s
theorem x53_11 : execA E C (fg 53) B 33 E0 N c53_11 s = seqX (execA E C (fg 53) B 33 E0 N c53_12 s) (execA E C (fg 53) B 33 E0 N c53_13) := x_seq (by rfl) s
noncomputable def c53_31 : Code := kR c53_10
noncomputable def c53_32 : Code := kL c53_31
noncomputable def r53_8 : Array Oper := kO c53_32
noncomputable def o53_8_0 : Oper := opN r53_8 0
theorem x53_32 : execA E C (fg 53) B 33 E0 N c53_32 s = regX (runA E C B 33 r53_8 r53_8.toList s) (fun s => gcM E0 [] (forget s.1 [], s.2)) := x_reg (ops := r53_8) (by rfl) (by rfl) s
theorem r53_8_l : r53_8.toList = [o53_8_0] := nrfl rfl
theorem s53_8_0 : stepA E C B 33 r53_8 o53_8_0 (φ, H) = some (fput φ 4 (.int .i64 0), H) := nrfl rfl
noncomputable def c53_33 : Code := kR c53_31
theorem x53_33 : execA E C (fg 53) B 33 E0 N c53_33 s = some (.ret, s) := x_ret (by rfl) s
theorem x53_31 : execA E C (fg 53) B 33 E0 N c53_31 s = seqX (execA E C (fg 53) B 33 E0 N c53_32 s) (execA E C (fg 53) B 33 E0 N c53_33) := x_seq (by rfl) s
theorem x53_10 : execA E C (fg 53) B 33 E0 N c53_10 s = seqX (execA E C (fg 53) B 33 E0 N c53_11 s) (execA E C (fg 53) B 33 E0 N c53_31) := x_seq (by rfl) s
theorem x53_2 : execA E C (fg 53) B 33 E0 N c53_2 s = seqX (execA E C (fg 53) B 33 E0 N c53_3 s) (execA E C (fg 53) B 33 E0 N c53_10) := x_seq (by rfl) s
theorem x53_0 : execA E C (fg 53) B 33 E0 N c53_0 s = seqX (execA E C (fg 53) B 33 E0 N c53_1 s) (execA E C (fg 53) B 33 E0 N c53_2) := x_seq (by rfl) s
theorem fi_53 : fInfo E 53 = some ⟨33, #[.tmp 4], c53_0⟩ := nrfl rfl
theorem b_53 (args : List AV) : bodyA E C fg N 53 args H B = bodyX E [.tmp 4] (execA E C (fg 53) B 33 H N c53_0 (frame0 args 0 [], H)) := bodyA_eq fi_53 args H
/-! ### f16: novaculite/novaculiteref07.Moment -/
noncomputable def c16_0 : Code := kBody Proofs.Try.f16
noncomputable def c16_1 : Code := kL c16_0
noncomputable def r16_0 : Array Oper := kO c16_1
noncomputable def o16_0_0 : Oper := opN r16_0 0
noncomputable def o16_0_1 : Oper := opN r16_0 1
theorem x16_1 : execA E C (fg 16) B 28 E0 N c16_1 s = regX (runA E C B 28 r16_0 r16_0.toList s) (fun s => gcM E0 [8, 9] (forget s.1 [8, 9], s.2)) := x_reg (ops := r16_0) (by rfl) (by rfl) s
theorem r16_0_l : r16_0.toList = [o16_0_0, o16_0_1] := nrfl rfl
theorem s16_0_0 : stepA E C B 28 r16_0 o16_0_0 (φ, H) = some (fput φ 8 (.int .i64 0), H) := nrfl rfl
theorem s16_0_1 : stepA E C B 28 r16_0 o16_0_1 (φ, H) = some (fput φ 9 (.int .i64 0), H) := nrfl rfl
noncomputable def c16_2 : Code := kR c16_0
noncomputable def c16_3 : Code := kL c16_2
noncomputable def r16_1 : Array Oper := kO c16_3
noncomputable def o16_1_0 : Oper := opN r16_1 0
noncomputable def o16_1_1 : Oper := opN r16_1 1
noncomputable def o16_1_2 : Oper := opN r16_1 2
noncomputable def o16_1_3 : Oper := opN r16_1 3
noncomputable def o16_1_4 : Oper := opN r16_1 4
theorem x16_3 : execA E C (fg 16) B 28 E0 N c16_3 s = regX (runA E C B 28 r16_1 r16_1.toList s) (fun s => gcM E0 [11, 12, 13, 14] (forget s.1 [11, 12, 13, 14], s.2)) := x_reg (ops := r16_1) (by rfl) (by rfl) s
theorem r16_1_l : r16_1.toList = [o16_1_0, o16_1_1, o16_1_2, o16_1_3, o16_1_4] := nrfl rfl
theorem s16_1_0 : stepA E C B 28 r16_1 o16_1_0 (φ, H) = some (fput φ 11 (fget φ 0), H) := nrfl rfl
theorem s16_1_1 : stepA E C B 28 r16_1 o16_1_1 (φ, H) = some (fput φ 12 (fget φ 2), H) := nrfl rfl
theorem s16_1_2 : stepA E C B 28 r16_1 o16_1_2 (φ, H) = some (fput φ 13 (fget φ 3), H) := nrfl rfl
theorem s16_1_3 : stepA E C B 28 r16_1 o16_1_3 (φ, H) = stp (some 14) φ H (aCall C (fun j => B + j * 28 + 14) true 49 [(fget φ 11), (fget φ 12), (fget φ 13)]) := nrfl rfl
theorem s16_1_4 : stepA E C B 28 r16_1 o16_1_4 (φ, H) = some (fput φ 10 (fget φ 14), H) := nrfl rfl
noncomputable def c16_4 : Code := kR c16_2
noncomputable def c16_5 : Code := kL c16_4
noncomputable def c16_6 : Code := kL c16_5
noncomputable def r16_2 : Array Oper := kO c16_6
noncomputable def o16_2_0 : Oper := opN r16_2 0
noncomputable def o16_2_1 : Oper := opN r16_2 1
theorem x16_6 : execA E C (fg 16) B 28 E0 N c16_6 s = regX (runA E C B 28 r16_2 r16_2.toList s) (fun s => gcM E0 [15] (forget s.1 [15], s.2)) := x_reg (ops := r16_2) (by rfl) (by rfl) s
theorem r16_2_l : r16_2.toList = [o16_2_0, o16_2_1] := nrfl rfl
theorem s16_2_0 : stepA E C B 28 r16_2 o16_2_0 (φ, H) = some (fput φ 15 (fget φ 10), H) := nrfl rfl
theorem s16_2_1 : stepA E C B 28 r16_2 o16_2_1 (φ, H) = stp (some 16) φ H (just (aBin E.T .eql 27 (fget φ 15) (.int .i64 0))) := nrfl rfl
noncomputable def c16_7 : Code := kR c16_5
noncomputable def c16_8 : Code := kT c16_7
noncomputable def r16_3 : Array Oper := kO c16_8
noncomputable def o16_3_0 : Oper := opN r16_3 0
noncomputable def o16_3_1 : Oper := opN r16_3 1
noncomputable def o16_3_2 : Oper := opN r16_3 2
noncomputable def o16_3_3 : Oper := opN r16_3 3
theorem x16_8 : execA E C (fg 16) B 28 E0 N c16_8 s = regX (runA E C B 28 r16_3 r16_3.toList s) (fun s => gcM E0 [16, 17, 18, 19] (forget s.1 [16, 17, 18, 19], s.2)) := x_reg (ops := r16_3) (by rfl) (by rfl) s
theorem r16_3_l : r16_3.toList = [o16_3_0, o16_3_1, o16_3_2, o16_3_3] := nrfl rfl
theorem s16_3_0 : stepA E C B 28 r16_3 o16_3_0 (φ, H) = some (fput φ 17 (fget φ 0), H) := nrfl rfl
theorem s16_3_1 : stepA E C B 28 r16_3 o16_3_1 (φ, H) = some (fput φ 18 (fget φ 1), H) := nrfl rfl
theorem s16_3_2 : stepA E C B 28 r16_3 o16_3_2 (φ, H) = stp (some 19) φ H (aCall C (fun j => B + j * 28 + 19) true 53 [(fget φ 17), (fget φ 18)]) := nrfl rfl
theorem s16_3_3 : stepA E C B 28 r16_3 o16_3_3 (φ, H) = some (fput φ 10 (fget φ 19), H) := nrfl rfl
noncomputable def c16_9 : Code := kE c16_7
theorem x16_9 : execA E C (fg 16) B 28 E0 N c16_9 s = some (.normal, s) := x_skip (by rfl) s
theorem x16_7 : execA E C (fg 16) B 28 E0 N c16_7 (φ, H) = condX (fget φ 16) (execA E C (fg 16) B 28 E0 N c16_8 (φ, H)) (execA E C (fg 16) B 28 E0 N c16_9 (φ, H)) := x_cond (by rfl) _
theorem x16_5 : execA E C (fg 16) B 28 E0 N c16_5 s = seqX (execA E C (fg 16) B 28 E0 N c16_6 s) (execA E C (fg 16) B 28 E0 N c16_7) := x_seq (by rfl) s
noncomputable def c16_10 : Code := kR c16_4
noncomputable def c16_11 : Code := kL c16_10
noncomputable def c16_12 : Code := kL c16_11
noncomputable def r16_4 : Array Oper := kO c16_12
noncomputable def o16_4_0 : Oper := opN r16_4 0
noncomputable def o16_4_1 : Oper := opN r16_4 1
theorem x16_12 : execA E C (fg 16) B 28 E0 N c16_12 s = regX (runA E C B 28 r16_4 r16_4.toList s) (fun s => gcM E0 [16, 20] (forget s.1 [16, 20], s.2)) := x_reg (ops := r16_4) (by rfl) (by rfl) s
theorem r16_4_l : r16_4.toList = [o16_4_0, o16_4_1] := nrfl rfl
theorem s16_4_0 : stepA E C B 28 r16_4 o16_4_0 (φ, H) = some (fput φ 20 (fget φ 10), H) := nrfl rfl
theorem s16_4_1 : stepA E C B 28 r16_4 o16_4_1 (φ, H) = stp (some 21) φ H (just (aBin E.T .neq 27 (fget φ 20) (.int .i64 0))) := nrfl rfl
noncomputable def c16_13 : Code := kR c16_11
noncomputable def c16_14 : Code := kT c16_13
noncomputable def c16_15 : Code := kL c16_14
noncomputable def r16_5 : Array Oper := kO c16_15
noncomputable def o16_5_0 : Oper := opN r16_5 0
noncomputable def o16_5_1 : Oper := opN r16_5 1
noncomputable def o16_5_2 : Oper := opN r16_5 2
theorem x16_15 : execA E C (fg 16) B 28 E0 N c16_15 s = regX (runA E C B 28 r16_5 r16_5.toList s) (fun s => gcM E0 [0, 1, 2, 3, 10, 21, 22] (forget s.1 [0, 1, 2, 3, 10, 21, 22], s.2)) := x_reg (ops := r16_5) (by rfl) (by rfl) s
theorem r16_5_l : r16_5.toList = [o16_5_0, o16_5_1, o16_5_2] := nrfl rfl
theorem s16_5_0 : stepA E C B 28 r16_5 o16_5_0 (φ, H) = some (fput φ 22 (fget φ 10), H) := nrfl rfl
theorem s16_5_1 : stepA E C B 28 r16_5 o16_5_1 (φ, H) = some (fput φ 8 (.int .i64 0), H) := nrfl rfl
theorem s16_5_2 : stepA E C B 28 r16_5 o16_5_2 (φ, H) = some (fput φ 9 (fget φ 22), H) := nrfl rfl
noncomputable def c16_16 : Code := kR c16_14
theorem x16_16 : execA E C (fg 16) B 28 E0 N c16_16 s = some (.ret, s) := x_ret (by rfl) s
theorem x16_14 : execA E C (fg 16) B 28 E0 N c16_14 s = seqX (execA E C (fg 16) B 28 E0 N c16_15 s) (execA E C (fg 16) B 28 E0 N c16_16) := x_seq (by rfl) s
noncomputable def c16_17 : Code := kE c16_13
theorem x16_17 : execA E C (fg 16) B 28 E0 N c16_17 s = some (.normal, s) := x_skip (by rfl) s
theorem x16_13 : execA E C (fg 16) B 28 E0 N c16_13 (φ, H) = condX (fget φ 21) (execA E C (fg 16) B 28 E0 N c16_14 (φ, H)) (execA E C (fg 16) B 28 E0 N c16_17 (φ, H)) := x_cond (by rfl) _
theorem x16_11 : execA E C (fg 16) B 28 E0 N c16_11 s = seqX (execA E C (fg 16) B 28 E0 N c16_12 s) (execA E C (fg 16) B 28 E0 N c16_13) := x_seq (by rfl) s
noncomputable def c16_18 : Code := kR c16_10
noncomputable def c16_19 : Code := kL c16_18
noncomputable def r16_6 : Array Oper := kO c16_19
noncomputable def o16_6_0 : Oper := opN r16_6 0
noncomputable def o16_6_1 : Oper := opN r16_6 1
noncomputable def o16_6_2 : Oper := opN r16_6 2
noncomputable def o16_6_3 : Oper := opN r16_6 3
noncomputable def o16_6_4 : Oper := opN r16_6 4
noncomputable def o16_6_5 : Oper := opN r16_6 5
noncomputable def o16_6_6 : Oper := opN r16_6 6
theorem x16_19 : execA E C (fg 16) B 28 E0 N c16_19 s = regX (runA E C B 28 r16_6 r16_6.toList s) (fun s => gcM E0 [0, 1, 2, 3, 10, 21, 23, 24, 25, 26, 27] (forget s.1 [0, 1, 2, 3, 10, 21, 23, 24, 25, 26, 27], s.2)) := x_reg (ops := r16_6) (by rfl) (by rfl) s
theorem r16_6_l : r16_6.toList = [o16_6_0, o16_6_1, o16_6_2, o16_6_3, o16_6_4, o16_6_5, o16_6_6] := nrfl rfl
theorem s16_6_0 : stepA E C B 28 r16_6 o16_6_0 (φ, H) = some (fput φ 23 (fget φ 0), H) := nrfl rfl
theorem s16_6_1 : stepA E C B 28 r16_6 o16_6_1 (φ, H) = some (fput φ 24 (fget φ 1), H) := nrfl rfl
theorem s16_6_2 : stepA E C B 28 r16_6 o16_6_2 (φ, H) = some (fput φ 25 (fget φ 2), H) := nrfl rfl
theorem s16_6_3 : stepA E C B 28 r16_6 o16_6_3 (φ, H) = some (fput φ 26 (fget φ 3), H) := nrfl rfl
theorem s16_6_4 : stepA E C B 28 r16_6 o16_6_4 (φ, H) = stp (some 27) φ H (aCall C (fun j => B + j * 28 + 27) true 54 [(fget φ 23), (fget φ 24), (fget φ 25), (fget φ 26)]) := nrfl rfl
theorem s16_6_5 : stepA E C B 28 r16_6 o16_6_5 (φ, H) = some (fput φ 8 (fget φ 27), H) := nrfl rfl
theorem s16_6_6 : stepA E C B 28 r16_6 o16_6_6 (φ, H) = some (fput φ 9 (.int .i64 0), H) := nrfl rfl
noncomputable def c16_20 : Code := kR c16_18
theorem x16_20 : execA E C (fg 16) B 28 E0 N c16_20 s = some (.ret, s) := x_ret (by rfl) s
theorem x16_18 : execA E C (fg 16) B 28 E0 N c16_18 s = seqX (execA E C (fg 16) B 28 E0 N c16_19 s) (execA E C (fg 16) B 28 E0 N c16_20) := x_seq (by rfl) s
theorem x16_10 : execA E C (fg 16) B 28 E0 N c16_10 s = seqX (execA E C (fg 16) B 28 E0 N c16_11 s) (execA E C (fg 16) B 28 E0 N c16_18) := x_seq (by rfl) s
theorem x16_4 : execA E C (fg 16) B 28 E0 N c16_4 s = seqX (execA E C (fg 16) B 28 E0 N c16_5 s) (execA E C (fg 16) B 28 E0 N c16_10) := x_seq (by rfl) s
theorem x16_2 : execA E C (fg 16) B 28 E0 N c16_2 s = seqX (execA E C (fg 16) B 28 E0 N c16_3 s) (execA E C (fg 16) B 28 E0 N c16_4) := x_seq (by rfl) s
theorem x16_0 : execA E C (fg 16) B 28 E0 N c16_0 s = seqX (execA E C (fg 16) B 28 E0 N c16_1 s) (execA E C (fg 16) B 28 E0 N c16_2) := x_seq (by rfl) s
theorem fi_16 : fInfo E 16 = some ⟨28, #[.tmp 8, .tmp 9], c16_0⟩ := nrfl rfl
theorem b_16 (args : List AV) : bodyA E C fg N 16 args H B = bodyX E [.tmp 8, .tmp 9] (execA E C (fg 16) B 28 H N c16_0 (frame0 args 0 [], H)) := bodyA_eq fi_16 args H
/-! ### f20: novaculite/novaculiteref07.Proves -/
noncomputable def c20_0 : Code := kBody Proofs.Try.f20
noncomputable def c20_1 : Code := kL c20_0
noncomputable def r20_0 : Array Oper := kO c20_1
noncomputable def o20_0_0 : Oper := opN r20_0 0
theorem x20_1 : execA E C (fg 20) B 26 E0 N c20_1 s = regX (runA E C B 26 r20_0 r20_0.toList s) (fun s => gcM E0 [6] (forget s.1 [6], s.2)) := x_reg (ops := r20_0) (by rfl) (by rfl) s
theorem r20_0_l : r20_0.toList = [o20_0_0] := nrfl rfl
theorem s20_0_0 : stepA E C B 26 r20_0 o20_0_0 (φ, H) = some (fput φ 6 (.int .i64 0), H) := nrfl rfl
noncomputable def c20_2 : Code := kR c20_0
noncomputable def c20_3 : Code := kL c20_2
noncomputable def r20_1 : Array Oper := kO c20_3
noncomputable def o20_1_0 : Oper := opN r20_1 0
noncomputable def o20_1_1 : Oper := opN r20_1 1
noncomputable def o20_1_2 : Oper := opN r20_1 2
noncomputable def o20_1_3 : Oper := opN r20_1 3
theorem x20_3 : execA E C (fg 20) B 26 E0 N c20_3 s = regX (runA E C B 26 r20_1 r20_1.toList s) (fun s => gcM E0 [8, 9, 10] (forget s.1 [8, 9, 10], s.2)) := x_reg (ops := r20_1) (by rfl) (by rfl) s
theorem r20_1_l : r20_1.toList = [o20_1_0, o20_1_1, o20_1_2, o20_1_3] := nrfl rfl
theorem s20_1_0 : stepA E C B 26 r20_1 o20_1_0 (φ, H) = some (fput φ 8 (fget φ 0), H) := nrfl rfl
theorem s20_1_1 : stepA E C B 26 r20_1 o20_1_1 (φ, H) = some (fput φ 9 (fget φ 2), H) := nrfl rfl
theorem s20_1_2 : stepA E C B 26 r20_1 o20_1_2 (φ, H) = stp (some 10) φ H (aCall C (fun j => B + j * 26 + 10) true 58 [(fget φ 8), (fget φ 9)]) := nrfl rfl
theorem s20_1_3 : stepA E C B 26 r20_1 o20_1_3 (φ, H) = some (fput φ 7 (fget φ 10), H) := nrfl rfl
noncomputable def c20_4 : Code := kR c20_2
noncomputable def c20_5 : Code := kL c20_4
noncomputable def c20_6 : Code := kL c20_5
noncomputable def r20_2 : Array Oper := kO c20_6
noncomputable def o20_2_0 : Oper := opN r20_2 0
noncomputable def o20_2_1 : Oper := opN r20_2 1
theorem x20_6 : execA E C (fg 20) B 26 E0 N c20_6 s = regX (runA E C B 26 r20_2 r20_2.toList s) (fun s => gcM E0 [11] (forget s.1 [11], s.2)) := x_reg (ops := r20_2) (by rfl) (by rfl) s
theorem r20_2_l : r20_2.toList = [o20_2_0, o20_2_1] := nrfl rfl
theorem s20_2_0 : stepA E C B 26 r20_2 o20_2_0 (φ, H) = some (fput φ 11 (fget φ 7), H) := nrfl rfl
theorem s20_2_1 : stepA E C B 26 r20_2 o20_2_1 (φ, H) = stp (some 12) φ H (just (aBin E.T .eql 27 (fget φ 11) (.int .i64 0))) := nrfl rfl
noncomputable def c20_7 : Code := kR c20_5
noncomputable def c20_8 : Code := kT c20_7
noncomputable def r20_3 : Array Oper := kO c20_8
noncomputable def o20_3_0 : Oper := opN r20_3 0
noncomputable def o20_3_1 : Oper := opN r20_3 1
noncomputable def o20_3_2 : Oper := opN r20_3 2
noncomputable def o20_3_3 : Oper := opN r20_3 3
theorem x20_8 : execA E C (fg 20) B 26 E0 N c20_8 s = regX (runA E C B 26 r20_3 r20_3.toList s) (fun s => gcM E0 [12, 13, 14, 15] (forget s.1 [12, 13, 14, 15], s.2)) := x_reg (ops := r20_3) (by rfl) (by rfl) s
theorem r20_3_l : r20_3.toList = [o20_3_0, o20_3_1, o20_3_2, o20_3_3] := nrfl rfl
theorem s20_3_0 : stepA E C B 26 r20_3 o20_3_0 (φ, H) = some (fput φ 13 (fget φ 0), H) := nrfl rfl
theorem s20_3_1 : stepA E C B 26 r20_3 o20_3_1 (φ, H) = some (fput φ 14 (fget φ 1), H) := nrfl rfl
theorem s20_3_2 : stepA E C B 26 r20_3 o20_3_2 (φ, H) = stp (some 15) φ H (aCall C (fun j => B + j * 26 + 15) true 53 [(fget φ 13), (fget φ 14)]) := nrfl rfl
theorem s20_3_3 : stepA E C B 26 r20_3 o20_3_3 (φ, H) = some (fput φ 7 (fget φ 15), H) := nrfl rfl
noncomputable def c20_9 : Code := kE c20_7
theorem x20_9 : execA E C (fg 20) B 26 E0 N c20_9 s = some (.normal, s) := x_skip (by rfl) s
theorem x20_7 : execA E C (fg 20) B 26 E0 N c20_7 (φ, H) = condX (fget φ 12) (execA E C (fg 20) B 26 E0 N c20_8 (φ, H)) (execA E C (fg 20) B 26 E0 N c20_9 (φ, H)) := x_cond (by rfl) _
theorem x20_5 : execA E C (fg 20) B 26 E0 N c20_5 s = seqX (execA E C (fg 20) B 26 E0 N c20_6 s) (execA E C (fg 20) B 26 E0 N c20_7) := x_seq (by rfl) s
noncomputable def c20_10 : Code := kR c20_4
noncomputable def c20_11 : Code := kL c20_10
noncomputable def c20_12 : Code := kL c20_11
noncomputable def r20_4 : Array Oper := kO c20_12
noncomputable def o20_4_0 : Oper := opN r20_4 0
noncomputable def o20_4_1 : Oper := opN r20_4 1
noncomputable def o20_4_2 : Oper := opN r20_4 2
noncomputable def o20_4_3 : Oper := opN r20_4 3
noncomputable def o20_4_4 : Oper := opN r20_4 4
noncomputable def o20_4_5 : Oper := opN r20_4 5
noncomputable def o20_4_6 : Oper := opN r20_4 6
noncomputable def o20_4_7 : Oper := opN r20_4 7
noncomputable def o20_4_8 : Oper := opN r20_4 8
theorem x20_12 : execA E C (fg 20) B 26 E0 N c20_12 s = regX (runA E C B 26 r20_4 r20_4.toList s) (fun s => gcM E0 [0, 1, 2, 12, 16, 17, 18, 19, 20, 21, 22, 23] (forget s.1 [0, 1, 2, 12, 16, 17, 18, 19, 20, 21, 22, 23], s.2)) := x_reg (ops := r20_4) (by rfl) (by rfl) s
theorem r20_4_l : r20_4.toList = [o20_4_0, o20_4_1, o20_4_2, o20_4_3, o20_4_4, o20_4_5, o20_4_6, o20_4_7, o20_4_8] := nrfl rfl
theorem s20_4_0 : stepA E C B 26 r20_4 o20_4_0 (φ, H) = some (fput φ 16 (fget φ 7), H) := nrfl rfl
theorem s20_4_1 : stepA E C B 26 r20_4 o20_4_1 (φ, H) = stp (some 17) φ H (just (aBin E.T .eql 27 (fget φ 16) (.int .i64 0))) := nrfl rfl
theorem s20_4_2 : stepA E C B 26 r20_4 o20_4_2 (φ, H) = some (fput φ 18 (fget φ 17), H) := nrfl rfl
theorem s20_4_3 : stepA E C B 26 r20_4 o20_4_3 (φ, H) = gd φ 18 true (fun φ => some (fput φ 19 (.tup []), H)) (fun φ => some (fput φ 19 (fget φ 0), H)) := s_gd (j := 2) (oj := o20_4_2) rfl rfl rfl (fun _ => rfl) (fun _ => rfl)
theorem s20_4_4 : stepA E C B 26 r20_4 o20_4_4 (φ, H) = gd φ 18 true (fun φ => some (fput φ 20 (.tup []), H)) (fun φ => some (fput φ 20 (fget φ 1), H)) := s_gd (j := 2) (oj := o20_4_2) rfl rfl rfl (fun _ => rfl) (fun _ => rfl)
theorem s20_4_5 : stepA E C B 26 r20_4 o20_4_5 (φ, H) = gd φ 18 true (fun φ => some (fput φ 21 (.tup []), H)) (fun φ => some (fput φ 21 (fget φ 2), H)) := s_gd (j := 2) (oj := o20_4_2) rfl rfl rfl (fun _ => rfl) (fun _ => rfl)
theorem s20_4_6 : stepA E C B 26 r20_4 o20_4_6 (φ, H) = gd φ 18 true (fun φ => some (fput φ 22 (.tup []), H)) (fun φ => stp (some 22) φ H (aCall C (fun j => B + j * 26 + 22) true 59 [(fget φ 19), (fget φ 20), (fget φ 21)])) := s_gd (j := 2) (oj := o20_4_2) rfl rfl rfl (fun _ => rfl) (fun _ => rfl)
theorem s20_4_7 : stepA E C B 26 r20_4 o20_4_7 (φ, H) = gd φ 18 true (fun φ => some (fput φ 23 (.tup []), H)) (fun φ => stp (some 23) φ H (justO (aUn .not (fget φ 22)))) := s_gd (j := 2) (oj := o20_4_2) rfl rfl rfl (fun _ => rfl) (fun _ => rfl)
theorem s20_4_8 : stepA E C B 26 r20_4 o20_4_8 (φ, H) = stp (some 24) φ H (opPick (fget φ 18) (fget φ 23) (.bool false)) := nrfl rfl
noncomputable def c20_13 : Code := kR c20_11
noncomputable def c20_14 : Code := kT c20_13
noncomputable def r20_5 : Array Oper := kO c20_14
noncomputable def o20_5_0 : Oper := opN r20_5 0
theorem x20_14 : execA E C (fg 20) B 26 E0 N c20_14 s = regX (runA E C B 26 r20_5 r20_5.toList s) (fun s => gcM E0 [24] (forget s.1 [24], s.2)) := x_reg (ops := r20_5) (by rfl) (by rfl) s
theorem r20_5_l : r20_5.toList = [o20_5_0] := nrfl rfl
theorem s20_5_0 : stepA E C B 26 r20_5 o20_5_0 (φ, H) = some (fput φ 7 (.int .i64 14), H) := nrfl rfl
noncomputable def c20_15 : Code := kE c20_13
theorem x20_15 : execA E C (fg 20) B 26 E0 N c20_15 s = some (.normal, s) := x_skip (by rfl) s
theorem x20_13 : execA E C (fg 20) B 26 E0 N c20_13 (φ, H) = condX (fget φ 24) (execA E C (fg 20) B 26 E0 N c20_14 (φ, H)) (execA E C (fg 20) B 26 E0 N c20_15 (φ, H)) := x_cond (by rfl) _
theorem x20_11 : execA E C (fg 20) B 26 E0 N c20_11 s = seqX (execA E C (fg 20) B 26 E0 N c20_12 s) (execA E C (fg 20) B 26 E0 N c20_13) := x_seq (by rfl) s
noncomputable def c20_16 : Code := kR c20_10
noncomputable def c20_17 : Code := kL c20_16
noncomputable def r20_6 : Array Oper := kO c20_17
noncomputable def o20_6_0 : Oper := opN r20_6 0
noncomputable def o20_6_1 : Oper := opN r20_6 1
theorem x20_17 : execA E C (fg 20) B 26 E0 N c20_17 s = regX (runA E C B 26 r20_6 r20_6.toList s) (fun s => gcM E0 [7, 24, 25] (forget s.1 [7, 24, 25], s.2)) := x_reg (ops := r20_6) (by rfl) (by rfl) s
theorem r20_6_l : r20_6.toList = [o20_6_0, o20_6_1] := nrfl rfl
theorem s20_6_0 : stepA E C B 26 r20_6 o20_6_0 (φ, H) = some (fput φ 25 (fget φ 7), H) := nrfl rfl
theorem s20_6_1 : stepA E C B 26 r20_6 o20_6_1 (φ, H) = some (fput φ 6 (fget φ 25), H) := nrfl rfl
noncomputable def c20_18 : Code := kR c20_16
theorem x20_18 : execA E C (fg 20) B 26 E0 N c20_18 s = some (.ret, s) := x_ret (by rfl) s
theorem x20_16 : execA E C (fg 20) B 26 E0 N c20_16 s = seqX (execA E C (fg 20) B 26 E0 N c20_17 s) (execA E C (fg 20) B 26 E0 N c20_18) := x_seq (by rfl) s
theorem x20_10 : execA E C (fg 20) B 26 E0 N c20_10 s = seqX (execA E C (fg 20) B 26 E0 N c20_11 s) (execA E C (fg 20) B 26 E0 N c20_16) := x_seq (by rfl) s
theorem x20_4 : execA E C (fg 20) B 26 E0 N c20_4 s = seqX (execA E C (fg 20) B 26 E0 N c20_5 s) (execA E C (fg 20) B 26 E0 N c20_10) := x_seq (by rfl) s
theorem x20_2 : execA E C (fg 20) B 26 E0 N c20_2 s = seqX (execA E C (fg 20) B 26 E0 N c20_3 s) (execA E C (fg 20) B 26 E0 N c20_4) := x_seq (by rfl) s
theorem x20_0 : execA E C (fg 20) B 26 E0 N c20_0 s = seqX (execA E C (fg 20) B 26 E0 N c20_1 s) (execA E C (fg 20) B 26 E0 N c20_2) := x_seq (by rfl) s
theorem fi_20 : fInfo E 20 = some ⟨26, #[.tmp 6], c20_0⟩ := nrfl rfl
theorem b_20 (args : List AV) : bodyA E C fg N 20 args H B = bodyX E [.tmp 6] (execA E C (fg 20) B 26 H N c20_0 (frame0 args 0 [], H)) := bodyA_eq fi_20 args H
/-! ### f3: novaculite/novaculitelaw07.PropStands -/
noncomputable def c3_0 : Code := kBody Proofs.Try.f3
noncomputable def c3_1 : Code := kL c3_0
noncomputable def r3_0 : Array Oper := kO c3_1
noncomputable def o3_0_0 : Oper := opN r3_0 0
theorem x3_1 : execA E C (fg 3) B 141 E0 N c3_1 s = regX (runA E C B 141 r3_0 r3_0.toList s) (fun s => gcM E0 [8] (forget s.1 [8], s.2)) := x_reg (ops := r3_0) (by rfl) (by rfl) s
theorem r3_0_l : r3_0.toList = [o3_0_0] := nrfl rfl
theorem s3_0_0 : stepA E C B 141 r3_0 o3_0_0 (φ, H) = some (fput φ 8 (.bool false), H) := nrfl rfl
noncomputable def c3_2 : Code := kR c3_0
noncomputable def c3_3 : Code := kL c3_2
noncomputable def c3_4 : Code := kL c3_3
noncomputable def r3_1 : Array Oper := kO c3_4
noncomputable def o3_1_0 : Oper := opN r3_1 0
noncomputable def o3_1_1 : Oper := opN r3_1 1
noncomputable def o3_1_2 : Oper := opN r3_1 2
noncomputable def o3_1_3 : Oper := opN r3_1 3
noncomputable def o3_1_4 : Oper := opN r3_1 4
noncomputable def o3_1_5 : Oper := opN r3_1 5
noncomputable def o3_1_6 : Oper := opN r3_1 6
noncomputable def o3_1_7 : Oper := opN r3_1 7
theorem x3_4 : execA E C (fg 3) B 141 E0 N c3_4 s = regX (runA E C B 141 r3_1 r3_1.toList s) (fun s => gcM E0 [22, 23, 24, 25, 26, 27, 28] (forget s.1 [22, 23, 24, 25, 26, 27, 28], s.2)) := x_reg (ops := r3_1) (by rfl) (by rfl) s
theorem r3_1_l : r3_1.toList = [o3_1_0, o3_1_1, o3_1_2, o3_1_3, o3_1_4, o3_1_5, o3_1_6, o3_1_7] := nrfl rfl
theorem s3_1_0 : stepA E C B 141 r3_1 o3_1_0 (φ, H) = some (fput φ 22 (fget φ 0), H) := nrfl rfl
theorem s3_1_1 : stepA E C B 141 r3_1 o3_1_1 (φ, H) = stp (some 23) φ H (aBuiltin E.T (B + 23) .len #[22] [(fget φ 22)]) := nrfl rfl
theorem s3_1_2 : stepA E C B 141 r3_1 o3_1_2 (φ, H) = stp (some 24) φ H (just (aBin E.T .gtr 3 (fget φ 23) (.int .i64 40))) := nrfl rfl
theorem s3_1_3 : stepA E C B 141 r3_1 o3_1_3 (φ, H) = some (fput φ 25 (fget φ 24), H) := nrfl rfl
theorem s3_1_4 : stepA E C B 141 r3_1 o3_1_4 (φ, H) = gd φ 25 false (fun φ => some (fput φ 26 (.tup []), H)) (fun φ => some (fput φ 26 (fget φ 1), H)) := s_gd (j := 3) (oj := o3_1_3) rfl rfl rfl (fun _ => rfl) (fun _ => rfl)
theorem s3_1_5 : stepA E C B 141 r3_1 o3_1_5 (φ, H) = gd φ 25 false (fun φ => some (fput φ 27 (.tup []), H)) (fun φ => stp (some 27) φ H (aBuiltin E.T (B + 27) .len #[23] [(fget φ 26)])) := s_gd (j := 3) (oj := o3_1_3) rfl rfl rfl (fun _ => rfl) (fun _ => rfl)
theorem s3_1_6 : stepA E C B 141 r3_1 o3_1_6 (φ, H) = gd φ 25 false (fun φ => some (fput φ 28 (.tup []), H)) (fun φ => stp (some 28) φ H (just (aBin E.T .gtr 3 (fget φ 27) (.int .i64 40)))) := s_gd (j := 3) (oj := o3_1_3) rfl rfl rfl (fun _ => rfl) (fun _ => rfl)
theorem s3_1_7 : stepA E C B 141 r3_1 o3_1_7 (φ, H) = stp (some 29) φ H (opPick (fget φ 25) (.bool true) (fget φ 28)) := nrfl rfl
noncomputable def c3_5 : Code := kR c3_3
noncomputable def c3_6 : Code := kT c3_5
noncomputable def c3_7 : Code := kL c3_6
noncomputable def r3_2 : Array Oper := kO c3_7
noncomputable def o3_2_0 : Oper := opN r3_2 0
noncomputable def o3_2_1 : Oper := opN r3_2 1
theorem x3_7 : execA E C (fg 3) B 141 E0 N c3_7 s = regX (runA E C B 141 r3_2 r3_2.toList s) (fun s => gcM E0 [0, 1, 2, 3, 29, 30] (forget s.1 [0, 1, 2, 3, 29, 30], s.2)) := x_reg (ops := r3_2) (by rfl) (by rfl) s
theorem r3_2_l : r3_2.toList = [o3_2_0, o3_2_1] := nrfl rfl
theorem s3_2_0 : stepA E C B 141 r3_2 o3_2_0 (φ, H) = stp (some 30) φ H (aCall C (fun j => B + j * 141 + 30) true 6 []) := nrfl rfl
theorem s3_2_1 : stepA E C B 141 r3_2 o3_2_1 (φ, H) = some (fput φ 8 (fget φ 30), H) := nrfl rfl
noncomputable def c3_8 : Code := kR c3_6
theorem x3_8 : execA E C (fg 3) B 141 E0 N c3_8 s = some (.ret, s) := x_ret (by rfl) s
theorem x3_6 : execA E C (fg 3) B 141 E0 N c3_6 s = seqX (execA E C (fg 3) B 141 E0 N c3_7 s) (execA E C (fg 3) B 141 E0 N c3_8) := x_seq (by rfl) s
noncomputable def c3_9 : Code := kE c3_5
theorem x3_9 : execA E C (fg 3) B 141 E0 N c3_9 s = some (.normal, s) := x_skip (by rfl) s
theorem x3_5 : execA E C (fg 3) B 141 E0 N c3_5 (φ, H) = condX (fget φ 29) (execA E C (fg 3) B 141 E0 N c3_6 (φ, H)) (execA E C (fg 3) B 141 E0 N c3_9 (φ, H)) := x_cond (by rfl) _
theorem x3_3 : execA E C (fg 3) B 141 E0 N c3_3 s = seqX (execA E C (fg 3) B 141 E0 N c3_4 s) (execA E C (fg 3) B 141 E0 N c3_5) := x_seq (by rfl) s
noncomputable def c3_10 : Code := kR c3_2
noncomputable def c3_11 : Code := kL c3_10
noncomputable def r3_3 : Array Oper := kO c3_11
noncomputable def o3_3_0 : Oper := opN r3_3 0
noncomputable def o3_3_1 : Oper := opN r3_3 1
noncomputable def o3_3_2 : Oper := opN r3_3 2
theorem x3_11 : execA E C (fg 3) B 141 E0 N c3_11 s = regX (runA E C B 141 r3_3 r3_3.toList s) (fun s => gcM E0 [29, 31, 32] (forget s.1 [29, 31, 32], s.2)) := x_reg (ops := r3_3) (by rfl) (by rfl) s
theorem r3_3_l : r3_3.toList = [o3_3_0, o3_3_1, o3_3_2] := nrfl rfl
theorem s3_3_0 : stepA E C B 141 r3_3 o3_3_0 (φ, H) = some (fput φ 31 (fget φ 0), H) := nrfl rfl
theorem s3_3_1 : stepA E C B 141 r3_3 o3_3_1 (φ, H) = stp (some 32) φ H (aCall C (fun j => B + j * 141 + 32) true 7 [(fget φ 31)]) := nrfl rfl
theorem s3_3_2 : stepA E C B 141 r3_3 o3_3_2 (φ, H) = some (fput φ 9 (fget φ 32), H) := nrfl rfl
noncomputable def c3_12 : Code := kR c3_10
noncomputable def c3_13 : Code := kL c3_12
noncomputable def r3_4 : Array Oper := kO c3_13
noncomputable def o3_4_0 : Oper := opN r3_4 0
noncomputable def o3_4_1 : Oper := opN r3_4 1
noncomputable def o3_4_2 : Oper := opN r3_4 2
noncomputable def o3_4_3 : Oper := opN r3_4 3
noncomputable def o3_4_4 : Oper := opN r3_4 4
noncomputable def o3_4_5 : Oper := opN r3_4 5
noncomputable def o3_4_6 : Oper := opN r3_4 6
theorem x3_13 : execA E C (fg 3) B 141 E0 N c3_13 s = regX (runA E C B 141 r3_4 r3_4.toList s) (fun s => gcM E0 [33, 34, 35, 36, 37] (forget s.1 [33, 34, 35, 36, 37], s.2)) := x_reg (ops := r3_4) (by rfl) (by rfl) s
theorem r3_4_l : r3_4.toList = [o3_4_0, o3_4_1, o3_4_2, o3_4_3, o3_4_4, o3_4_5, o3_4_6] := nrfl rfl
theorem s3_4_0 : stepA E C B 141 r3_4 o3_4_0 (φ, H) = some (fput φ 34 (fget φ 0), H) := nrfl rfl
theorem s3_4_1 : stepA E C B 141 r3_4 o3_4_1 (φ, H) = stp (some 35) φ H (aCall C (fun j => B + j * 141 + 35) true 8 [(fget φ 34)]) := nrfl rfl
theorem s3_4_2 : stepA E C B 141 r3_4 o3_4_2 (φ, H) = some (fput φ 33 (fget φ 35), H) := nrfl rfl
theorem s3_4_3 : stepA E C B 141 r3_4 o3_4_3 (φ, H) = stp (some 36) φ H (opExtract (fget φ 33) 0) := nrfl rfl
theorem s3_4_4 : stepA E C B 141 r3_4 o3_4_4 (φ, H) = stp (some 37) φ H (opExtract (fget φ 33) 1) := nrfl rfl
theorem s3_4_5 : stepA E C B 141 r3_4 o3_4_5 (φ, H) = some (fput φ 10 (fget φ 36), H) := nrfl rfl
theorem s3_4_6 : stepA E C B 141 r3_4 o3_4_6 (φ, H) = some (fput φ 11 (fget φ 37), H) := nrfl rfl
noncomputable def c3_14 : Code := kR c3_12
noncomputable def c3_15 : Code := kL c3_14
noncomputable def r3_5 : Array Oper := kO c3_15
noncomputable def o3_5_0 : Oper := opN r3_5 0
noncomputable def o3_5_1 : Oper := opN r3_5 1
noncomputable def o3_5_2 : Oper := opN r3_5 2
noncomputable def o3_5_3 : Oper := opN r3_5 3
noncomputable def o3_5_4 : Oper := opN r3_5 4
noncomputable def o3_5_5 : Oper := opN r3_5 5
noncomputable def o3_5_6 : Oper := opN r3_5 6
theorem x3_15 : execA E C (fg 3) B 141 E0 N c3_15 s = regX (runA E C B 141 r3_5 r3_5.toList s) (fun s => gcM E0 [38, 39, 40, 41, 42] (forget s.1 [38, 39, 40, 41, 42], s.2)) := x_reg (ops := r3_5) (by rfl) (by rfl) s
theorem r3_5_l : r3_5.toList = [o3_5_0, o3_5_1, o3_5_2, o3_5_3, o3_5_4, o3_5_5, o3_5_6] := nrfl rfl
theorem s3_5_0 : stepA E C B 141 r3_5 o3_5_0 (φ, H) = some (fput φ 39 (fget φ 9), H) := nrfl rfl
theorem s3_5_1 : stepA E C B 141 r3_5 o3_5_1 (φ, H) = stp (some 40) φ H (aCall C (fun j => B + j * 141 + 40) true 9 [(fget φ 39)]) := nrfl rfl
theorem s3_5_2 : stepA E C B 141 r3_5 o3_5_2 (φ, H) = some (fput φ 38 (fget φ 40), H) := nrfl rfl
theorem s3_5_3 : stepA E C B 141 r3_5 o3_5_3 (φ, H) = stp (some 41) φ H (opExtract (fget φ 38) 0) := nrfl rfl
theorem s3_5_4 : stepA E C B 141 r3_5 o3_5_4 (φ, H) = stp (some 42) φ H (opExtract (fget φ 38) 1) := nrfl rfl
theorem s3_5_5 : stepA E C B 141 r3_5 o3_5_5 (φ, H) = some (fput φ 12 (fget φ 41), H) := nrfl rfl
theorem s3_5_6 : stepA E C B 141 r3_5 o3_5_6 (φ, H) = some (fput φ 13 (fget φ 42), H) := nrfl rfl
noncomputable def c3_16 : Code := kR c3_14
noncomputable def c3_17 : Code := kL c3_16
noncomputable def r3_6 : Array Oper := kO c3_17
noncomputable def o3_6_0 : Oper := opN r3_6 0
noncomputable def o3_6_1 : Oper := opN r3_6 1
noncomputable def o3_6_2 : Oper := opN r3_6 2
noncomputable def o3_6_3 : Oper := opN r3_6 3
noncomputable def o3_6_4 : Oper := opN r3_6 4
noncomputable def o3_6_5 : Oper := opN r3_6 5
noncomputable def o3_6_6 : Oper := opN r3_6 6
theorem x3_17 : execA E C (fg 3) B 141 E0 N c3_17 s = regX (runA E C B 141 r3_6 r3_6.toList s) (fun s => gcM E0 [43, 44, 45, 46, 47] (forget s.1 [43, 44, 45, 46, 47], s.2)) := x_reg (ops := r3_6) (by rfl) (by rfl) s
theorem r3_6_l : r3_6.toList = [o3_6_0, o3_6_1, o3_6_2, o3_6_3, o3_6_4, o3_6_5, o3_6_6] := nrfl rfl
theorem s3_6_0 : stepA E C B 141 r3_6 o3_6_0 (φ, H) = some (fput φ 44 (fget φ 0), H) := nrfl rfl
theorem s3_6_1 : stepA E C B 141 r3_6 o3_6_1 (φ, H) = stp (some 45) φ H (aCall C (fun j => B + j * 141 + 45) true 10 [(fget φ 44)]) := nrfl rfl
theorem s3_6_2 : stepA E C B 141 r3_6 o3_6_2 (φ, H) = some (fput φ 43 (fget φ 45), H) := nrfl rfl
theorem s3_6_3 : stepA E C B 141 r3_6 o3_6_3 (φ, H) = stp (some 46) φ H (opExtract (fget φ 43) 0) := nrfl rfl
theorem s3_6_4 : stepA E C B 141 r3_6 o3_6_4 (φ, H) = stp (some 47) φ H (opExtract (fget φ 43) 1) := nrfl rfl
theorem s3_6_5 : stepA E C B 141 r3_6 o3_6_5 (φ, H) = some (fput φ 14 (fget φ 46), H) := nrfl rfl
theorem s3_6_6 : stepA E C B 141 r3_6 o3_6_6 (φ, H) = some (fput φ 15 (fget φ 47), H) := nrfl rfl
noncomputable def c3_18 : Code := kR c3_16
noncomputable def c3_19 : Code := kL c3_18
noncomputable def r3_7 : Array Oper := kO c3_19
noncomputable def o3_7_0 : Oper := opN r3_7 0
noncomputable def o3_7_1 : Oper := opN r3_7 1
noncomputable def o3_7_2 : Oper := opN r3_7 2
noncomputable def o3_7_3 : Oper := opN r3_7 3
noncomputable def o3_7_4 : Oper := opN r3_7 4
noncomputable def o3_7_5 : Oper := opN r3_7 5
noncomputable def o3_7_6 : Oper := opN r3_7 6
theorem x3_19 : execA E C (fg 3) B 141 E0 N c3_19 s = regX (runA E C B 141 r3_7 r3_7.toList s) (fun s => gcM E0 [48, 49, 50, 51, 52] (forget s.1 [48, 49, 50, 51, 52], s.2)) := x_reg (ops := r3_7) (by rfl) (by rfl) s
theorem r3_7_l : r3_7.toList = [o3_7_0, o3_7_1, o3_7_2, o3_7_3, o3_7_4, o3_7_5, o3_7_6] := nrfl rfl
theorem s3_7_0 : stepA E C B 141 r3_7 o3_7_0 (φ, H) = some (fput φ 49 (fget φ 9), H) := nrfl rfl
theorem s3_7_1 : stepA E C B 141 r3_7 o3_7_1 (φ, H) = stp (some 50) φ H (aCall C (fun j => B + j * 141 + 50) true 11 [(fget φ 49)]) := nrfl rfl
theorem s3_7_2 : stepA E C B 141 r3_7 o3_7_2 (φ, H) = some (fput φ 48 (fget φ 50), H) := nrfl rfl
theorem s3_7_3 : stepA E C B 141 r3_7 o3_7_3 (φ, H) = stp (some 51) φ H (opExtract (fget φ 48) 0) := nrfl rfl
theorem s3_7_4 : stepA E C B 141 r3_7 o3_7_4 (φ, H) = stp (some 52) φ H (opExtract (fget φ 48) 1) := nrfl rfl
theorem s3_7_5 : stepA E C B 141 r3_7 o3_7_5 (φ, H) = some (fput φ 16 (fget φ 51), H) := nrfl rfl
theorem s3_7_6 : stepA E C B 141 r3_7 o3_7_6 (φ, H) = some (fput φ 17 (fget φ 52), H) := nrfl rfl
noncomputable def c3_20 : Code := kR c3_18
noncomputable def c3_21 : Code := kL c3_20
noncomputable def r3_8 : Array Oper := kO c3_21
noncomputable def o3_8_0 : Oper := opN r3_8 0
noncomputable def o3_8_1 : Oper := opN r3_8 1
noncomputable def o3_8_2 : Oper := opN r3_8 2
noncomputable def o3_8_3 : Oper := opN r3_8 3
noncomputable def o3_8_4 : Oper := opN r3_8 4
noncomputable def o3_8_5 : Oper := opN r3_8 5
noncomputable def o3_8_6 : Oper := opN r3_8 6
noncomputable def o3_8_7 : Oper := opN r3_8 7
noncomputable def o3_8_8 : Oper := opN r3_8 8
theorem x3_21 : execA E C (fg 3) B 141 E0 N c3_21 s = regX (runA E C B 141 r3_8 r3_8.toList s) (fun s => gcM E0 [53, 54, 55, 56, 57, 58, 59] (forget s.1 [53, 54, 55, 56, 57, 58, 59], s.2)) := x_reg (ops := r3_8) (by rfl) (by rfl) s
theorem r3_8_l : r3_8.toList = [o3_8_0, o3_8_1, o3_8_2, o3_8_3, o3_8_4, o3_8_5, o3_8_6, o3_8_7, o3_8_8] := nrfl rfl
theorem s3_8_0 : stepA E C B 141 r3_8 o3_8_0 (φ, H) = some (fput φ 54 (fget φ 0), H) := nrfl rfl
theorem s3_8_1 : stepA E C B 141 r3_8 o3_8_1 (φ, H) = some (fput φ 55 (fget φ 2), H) := nrfl rfl
theorem s3_8_2 : stepA E C B 141 r3_8 o3_8_2 (φ, H) = some (fput φ 56 (fget φ 3), H) := nrfl rfl
theorem s3_8_3 : stepA E C B 141 r3_8 o3_8_3 (φ, H) = stp (some 57) φ H (aCall C (fun j => B + j * 141 + 57) true 12 [(fget φ 54), (fget φ 55), (fget φ 56)]) := nrfl rfl
theorem s3_8_4 : stepA E C B 141 r3_8 o3_8_4 (φ, H) = some (fput φ 53 (fget φ 57), H) := nrfl rfl
theorem s3_8_5 : stepA E C B 141 r3_8 o3_8_5 (φ, H) = stp (some 58) φ H (opExtract (fget φ 53) 0) := nrfl rfl
theorem s3_8_6 : stepA E C B 141 r3_8 o3_8_6 (φ, H) = stp (some 59) φ H (opExtract (fget φ 53) 1) := nrfl rfl
theorem s3_8_7 : stepA E C B 141 r3_8 o3_8_7 (φ, H) = some (fput φ 18 (fget φ 58), H) := nrfl rfl
theorem s3_8_8 : stepA E C B 141 r3_8 o3_8_8 (φ, H) = some (fput φ 19 (fget φ 59), H) := nrfl rfl
noncomputable def c3_22 : Code := kR c3_20
noncomputable def c3_23 : Code := kL c3_22
noncomputable def r3_9 : Array Oper := kO c3_23
noncomputable def o3_9_0 : Oper := opN r3_9 0
noncomputable def o3_9_1 : Oper := opN r3_9 1
noncomputable def o3_9_2 : Oper := opN r3_9 2
noncomputable def o3_9_3 : Oper := opN r3_9 3
noncomputable def o3_9_4 : Oper := opN r3_9 4
noncomputable def o3_9_5 : Oper := opN r3_9 5
noncomputable def o3_9_6 : Oper := opN r3_9 6
noncomputable def o3_9_7 : Oper := opN r3_9 7
noncomputable def o3_9_8 : Oper := opN r3_9 8
theorem x3_23 : execA E C (fg 3) B 141 E0 N c3_23 s = regX (runA E C B 141 r3_9 r3_9.toList s) (fun s => gcM E0 [60, 61, 62, 63, 64, 65, 66] (forget s.1 [60, 61, 62, 63, 64, 65, 66], s.2)) := x_reg (ops := r3_9) (by rfl) (by rfl) s
theorem r3_9_l : r3_9.toList = [o3_9_0, o3_9_1, o3_9_2, o3_9_3, o3_9_4, o3_9_5, o3_9_6, o3_9_7, o3_9_8] := nrfl rfl
theorem s3_9_0 : stepA E C B 141 r3_9 o3_9_0 (φ, H) = some (fput φ 61 (fget φ 9), H) := nrfl rfl
theorem s3_9_1 : stepA E C B 141 r3_9 o3_9_1 (φ, H) = some (fput φ 62 (fget φ 2), H) := nrfl rfl
theorem s3_9_2 : stepA E C B 141 r3_9 o3_9_2 (φ, H) = some (fput φ 63 (fget φ 3), H) := nrfl rfl
theorem s3_9_3 : stepA E C B 141 r3_9 o3_9_3 (φ, H) = stp (some 64) φ H (aCall C (fun j => B + j * 141 + 64) true 13 [(fget φ 61), (fget φ 62), (fget φ 63)]) := nrfl rfl
theorem s3_9_4 : stepA E C B 141 r3_9 o3_9_4 (φ, H) = some (fput φ 60 (fget φ 64), H) := nrfl rfl
theorem s3_9_5 : stepA E C B 141 r3_9 o3_9_5 (φ, H) = stp (some 65) φ H (opExtract (fget φ 60) 0) := nrfl rfl
theorem s3_9_6 : stepA E C B 141 r3_9 o3_9_6 (φ, H) = stp (some 66) φ H (opExtract (fget φ 60) 1) := nrfl rfl
theorem s3_9_7 : stepA E C B 141 r3_9 o3_9_7 (φ, H) = some (fput φ 20 (fget φ 65), H) := nrfl rfl
theorem s3_9_8 : stepA E C B 141 r3_9 o3_9_8 (φ, H) = some (fput φ 21 (fget φ 66), H) := nrfl rfl
noncomputable def c3_24 : Code := kR c3_22
noncomputable def c3_25 : Code := kL c3_24
noncomputable def c3_26 : Code := kL c3_25
noncomputable def r3_10 : Array Oper := kO c3_26
noncomputable def o3_10_0 : Oper := opN r3_10 0
noncomputable def o3_10_1 : Oper := opN r3_10 1
noncomputable def o3_10_2 : Oper := opN r3_10 2
noncomputable def o3_10_3 : Oper := opN r3_10 3
noncomputable def o3_10_4 : Oper := opN r3_10 4
noncomputable def o3_10_5 : Oper := opN r3_10 5
noncomputable def o3_10_6 : Oper := opN r3_10 6
noncomputable def o3_10_7 : Oper := opN r3_10 7
noncomputable def o3_10_8 : Oper := opN r3_10 8
noncomputable def o3_10_9 : Oper := opN r3_10 9
noncomputable def o3_10_10 : Oper := opN r3_10 10
noncomputable def o3_10_11 : Oper := opN r3_10 11
noncomputable def o3_10_12 : Oper := opN r3_10 12
noncomputable def o3_10_13 : Oper := opN r3_10 13
noncomputable def o3_10_14 : Oper := opN r3_10 14
noncomputable def o3_10_15 : Oper := opN r3_10 15
noncomputable def o3_10_16 : Oper := opN r3_10 16
noncomputable def o3_10_17 : Oper := opN r3_10 17
noncomputable def o3_10_18 : Oper := opN r3_10 18
noncomputable def o3_10_19 : Oper := opN r3_10 19
noncomputable def o3_10_20 : Oper := opN r3_10 20
noncomputable def o3_10_21 : Oper := opN r3_10 21
noncomputable def o3_10_22 : Oper := opN r3_10 22
noncomputable def o3_10_23 : Oper := opN r3_10 23
noncomputable def o3_10_24 : Oper := opN r3_10 24
noncomputable def o3_10_25 : Oper := opN r3_10 25
noncomputable def o3_10_26 : Oper := opN r3_10 26
noncomputable def o3_10_27 : Oper := opN r3_10 27
noncomputable def o3_10_28 : Oper := opN r3_10 28
theorem x3_26 : execA E C (fg 3) B 141 E0 N c3_26 s = regX (runA E C B 141 r3_10 r3_10.toList s) (fun s => gcM E0 [10, 11, 12, 13, 14, 15, 16, 17, 18, 19, 20, 21, 67, 68, 69, 70, 71, 72, 73, 74, 75, 76, 77, 78, 79, 80, 81, 82, 83, 84, 85, 86, 87, 88, 89, 90, 91, 92, 93, 94] (forget s.1 [10, 11, 12, 13, 14, 15, 16, 17, 18, 19, 20, 21, 67, 68, 69, 70, 71, 72, 73, 74, 75, 76, 77, 78, 79, 80, 81, 82, 83, 84, 85, 86, 87, 88, 89, 90, 91, 92, 93, 94], s.2)) := x_reg (ops := r3_10) (by rfl) (by rfl) s
theorem r3_10_l : r3_10.toList = [o3_10_0, o3_10_1, o3_10_2, o3_10_3, o3_10_4, o3_10_5, o3_10_6, o3_10_7, o3_10_8, o3_10_9, o3_10_10, o3_10_11, o3_10_12, o3_10_13, o3_10_14, o3_10_15, o3_10_16, o3_10_17, o3_10_18, o3_10_19, o3_10_20, o3_10_21, o3_10_22, o3_10_23, o3_10_24, o3_10_25, o3_10_26, o3_10_27, o3_10_28] := nrfl rfl
theorem s3_10_0 : stepA E C B 141 r3_10 o3_10_0 (φ, H) = some (fput φ 67 (fget φ 10), H) := nrfl rfl
theorem s3_10_1 : stepA E C B 141 r3_10 o3_10_1 (φ, H) = some (fput φ 68 (fget φ 12), H) := nrfl rfl
theorem s3_10_2 : stepA E C B 141 r3_10 o3_10_2 (φ, H) = stp (some 69) φ H (just (aBin E.T .neq 4 (fget φ 67) (fget φ 68))) := nrfl rfl
theorem s3_10_3 : stepA E C B 141 r3_10 o3_10_3 (φ, H) = some (fput φ 70 (fget φ 69), H) := nrfl rfl
theorem s3_10_4 : stepA E C B 141 r3_10 o3_10_4 (φ, H) = gd φ 70 false (fun φ => some (fput φ 71 (.tup []), H)) (fun φ => some (fput φ 71 (fget φ 11), H)) := s_gd (j := 3) (oj := o3_10_3) rfl rfl rfl (fun _ => rfl) (fun _ => rfl)
theorem s3_10_5 : stepA E C B 141 r3_10 o3_10_5 (φ, H) = gd φ 70 false (fun φ => some (fput φ 72 (.tup []), H)) (fun φ => some (fput φ 72 (fget φ 13), H)) := s_gd (j := 3) (oj := o3_10_3) rfl rfl rfl (fun _ => rfl) (fun _ => rfl)
theorem s3_10_6 : stepA E C B 141 r3_10 o3_10_6 (φ, H) = gd φ 70 false (fun φ => some (fput φ 73 (.tup []), H)) (fun φ => stp (some 73) φ H (just (aBin E.T .neq 27 (fget φ 71) (fget φ 72)))) := s_gd (j := 3) (oj := o3_10_3) rfl rfl rfl (fun _ => rfl) (fun _ => rfl)
theorem s3_10_7 : stepA E C B 141 r3_10 o3_10_7 (φ, H) = stp (some 74) φ H (opPick (fget φ 70) (.bool true) (fget φ 73)) := nrfl rfl
theorem s3_10_8 : stepA E C B 141 r3_10 o3_10_8 (φ, H) = some (fput φ 75 (fget φ 74), H) := nrfl rfl
theorem s3_10_9 : stepA E C B 141 r3_10 o3_10_9 (φ, H) = gd φ 75 false (fun φ => some (fput φ 76 (.tup []), H)) (fun φ => some (fput φ 76 (fget φ 14), H)) := s_gd (j := 8) (oj := o3_10_8) rfl rfl rfl (fun _ => rfl) (fun _ => rfl)
theorem s3_10_10 : stepA E C B 141 r3_10 o3_10_10 (φ, H) = gd φ 75 false (fun φ => some (fput φ 77 (.tup []), H)) (fun φ => some (fput φ 77 (fget φ 16), H)) := s_gd (j := 8) (oj := o3_10_8) rfl rfl rfl (fun _ => rfl) (fun _ => rfl)
theorem s3_10_11 : stepA E C B 141 r3_10 o3_10_11 (φ, H) = gd φ 75 false (fun φ => some (fput φ 78 (.tup []), H)) (fun φ => stp (some 78) φ H (just (aBin E.T .neq 3 (fget φ 76) (fget φ 77)))) := s_gd (j := 8) (oj := o3_10_8) rfl rfl rfl (fun _ => rfl) (fun _ => rfl)
theorem s3_10_12 : stepA E C B 141 r3_10 o3_10_12 (φ, H) = stp (some 79) φ H (opPick (fget φ 75) (.bool true) (fget φ 78)) := nrfl rfl
theorem s3_10_13 : stepA E C B 141 r3_10 o3_10_13 (φ, H) = some (fput φ 80 (fget φ 79), H) := nrfl rfl
theorem s3_10_14 : stepA E C B 141 r3_10 o3_10_14 (φ, H) = gd φ 80 false (fun φ => some (fput φ 81 (.tup []), H)) (fun φ => some (fput φ 81 (fget φ 15), H)) := s_gd (j := 13) (oj := o3_10_13) rfl rfl rfl (fun _ => rfl) (fun _ => rfl)
theorem s3_10_15 : stepA E C B 141 r3_10 o3_10_15 (φ, H) = gd φ 80 false (fun φ => some (fput φ 82 (.tup []), H)) (fun φ => some (fput φ 82 (fget φ 17), H)) := s_gd (j := 13) (oj := o3_10_13) rfl rfl rfl (fun _ => rfl) (fun _ => rfl)
theorem s3_10_16 : stepA E C B 141 r3_10 o3_10_16 (φ, H) = gd φ 80 false (fun φ => some (fput φ 83 (.tup []), H)) (fun φ => stp (some 83) φ H (just (aBin E.T .neq 27 (fget φ 81) (fget φ 82)))) := s_gd (j := 13) (oj := o3_10_13) rfl rfl rfl (fun _ => rfl) (fun _ => rfl)
theorem s3_10_17 : stepA E C B 141 r3_10 o3_10_17 (φ, H) = stp (some 84) φ H (opPick (fget φ 80) (.bool true) (fget φ 83)) := nrfl rfl
theorem s3_10_18 : stepA E C B 141 r3_10 o3_10_18 (φ, H) = some (fput φ 85 (fget φ 84), H) := nrfl rfl
theorem s3_10_19 : stepA E C B 141 r3_10 o3_10_19 (φ, H) = gd φ 85 false (fun φ => some (fput φ 86 (.tup []), H)) (fun φ => some (fput φ 86 (fget φ 18), H)) := s_gd (j := 18) (oj := o3_10_18) rfl rfl rfl (fun _ => rfl) (fun _ => rfl)
theorem s3_10_20 : stepA E C B 141 r3_10 o3_10_20 (φ, H) = gd φ 85 false (fun φ => some (fput φ 87 (.tup []), H)) (fun φ => some (fput φ 87 (fget φ 20), H)) := s_gd (j := 18) (oj := o3_10_18) rfl rfl rfl (fun _ => rfl) (fun _ => rfl)
theorem s3_10_21 : stepA E C B 141 r3_10 o3_10_21 (φ, H) = gd φ 85 false (fun φ => some (fput φ 88 (.tup []), H)) (fun φ => stp (some 88) φ H (aCall C (fun j => B + j * 141 + 88) true 14 [(fget φ 86), (fget φ 87)])) := s_gd (j := 18) (oj := o3_10_18) rfl rfl rfl (fun _ => rfl) (fun _ => rfl)
theorem s3_10_22 : stepA E C B 141 r3_10 o3_10_22 (φ, H) = gd φ 85 false (fun φ => some (fput φ 89 (.tup []), H)) (fun φ => stp (some 89) φ H (justO (aUn .not (fget φ 88)))) := s_gd (j := 18) (oj := o3_10_18) rfl rfl rfl (fun _ => rfl) (fun _ => rfl)
theorem s3_10_23 : stepA E C B 141 r3_10 o3_10_23 (φ, H) = stp (some 90) φ H (opPick (fget φ 85) (.bool true) (fget φ 89)) := nrfl rfl
theorem s3_10_24 : stepA E C B 141 r3_10 o3_10_24 (φ, H) = some (fput φ 91 (fget φ 90), H) := nrfl rfl
theorem s3_10_25 : stepA E C B 141 r3_10 o3_10_25 (φ, H) = gd φ 91 false (fun φ => some (fput φ 92 (.tup []), H)) (fun φ => some (fput φ 92 (fget φ 19), H)) := s_gd (j := 24) (oj := o3_10_24) rfl rfl rfl (fun _ => rfl) (fun _ => rfl)
theorem s3_10_26 : stepA E C B 141 r3_10 o3_10_26 (φ, H) = gd φ 91 false (fun φ => some (fput φ 93 (.tup []), H)) (fun φ => some (fput φ 93 (fget φ 21), H)) := s_gd (j := 24) (oj := o3_10_24) rfl rfl rfl (fun _ => rfl) (fun _ => rfl)
theorem s3_10_27 : stepA E C B 141 r3_10 o3_10_27 (φ, H) = gd φ 91 false (fun φ => some (fput φ 94 (.tup []), H)) (fun φ => stp (some 94) φ H (just (aBin E.T .neq 27 (fget φ 92) (fget φ 93)))) := s_gd (j := 24) (oj := o3_10_24) rfl rfl rfl (fun _ => rfl) (fun _ => rfl)
theorem s3_10_28 : stepA E C B 141 r3_10 o3_10_28 (φ, H) = stp (some 95) φ H (opPick (fget φ 91) (.bool true) (fget φ 94)) := nrfl rfl
noncomputable def c3_27 : Code := kR c3_25
noncomputable def c3_28 : Code := kT c3_27
noncomputable def c3_29 : Code := kL c3_28
noncomputable def r3_11 : Array Oper := kO c3_29
noncomputable def o3_11_0 : Oper := opN r3_11 0
theorem x3_29 : execA E C (fg 3) B 141 E0 N c3_29 s = regX (runA E C B 141 r3_11 r3_11.toList s) (fun s => gcM E0 [0, 1, 2, 3, 9, 95] (forget s.1 [0, 1, 2, 3, 9, 95], s.2)) := x_reg (ops := r3_11) (by rfl) (by rfl) s
theorem r3_11_l : r3_11.toList = [o3_11_0] := nrfl rfl
theorem s3_11_0 : stepA E C B 141 r3_11 o3_11_0 (φ, H) = some (fput φ 8 (.bool false), H) := nrfl rfl
noncomputable def c3_30 : Code := kR c3_28
theorem x3_30 : execA E C (fg 3) B 141 E0 N c3_30 s = some (.ret, s) := x_ret (by rfl) s
theorem x3_28 : execA E C (fg 3) B 141 E0 N c3_28 s = seqX (execA E C (fg 3) B 141 E0 N c3_29 s) (execA E C (fg 3) B 141 E0 N c3_30) := x_seq (by rfl) s
noncomputable def c3_31 : Code := kE c3_27
theorem x3_31 : execA E C (fg 3) B 141 E0 N c3_31 s = some (.normal, s) := x_skip (by rfl) s
theorem x3_27 : execA E C (fg 3) B 141 E0 N c3_27 (φ, H) = condX (fget φ 95) (execA E C (fg 3) B 141 E0 N c3_28 (φ, H)) (execA E C (fg 3) B 141 E0 N c3_31 (φ, H)) := x_cond (by rfl) _
theorem x3_25 : execA E C (fg 3) B 141 E0 N c3_25 s = seqX (execA E C (fg 3) B 141 E0 N c3_26 s) (execA E C (fg 3) B 141 E0 N c3_27) := x_seq (by rfl) s
noncomputable def c3_32 : Code := kR c3_24
noncomputable def c3_33 : Code := kL c3_32
noncomputable def r3_12 : Array Oper := kO c3_33
noncomputable def o3_12_0 : Oper := opN r3_12 0
noncomputable def o3_12_1 : Oper := opN r3_12 1
noncomputable def o3_12_2 : Oper := opN r3_12 2
noncomputable def o3_12_3 : Oper := opN r3_12 3
noncomputable def o3_12_4 : Oper := opN r3_12 4
noncomputable def o3_12_5 : Oper := opN r3_12 5
noncomputable def o3_12_6 : Oper := opN r3_12 6
noncomputable def o3_12_7 : Oper := opN r3_12 7
noncomputable def o3_12_8 : Oper := opN r3_12 8
noncomputable def o3_12_9 : Oper := opN r3_12 9
theorem x3_33 : execA E C (fg 3) B 141 E0 N c3_33 s = regX (runA E C B 141 r3_12 r3_12.toList s) (fun s => gcM E0 [95, 96, 97, 98, 99, 100, 101, 102, 103] (forget s.1 [95, 96, 97, 98, 99, 100, 101, 102, 103], s.2)) := x_reg (ops := r3_12) (by rfl) (by rfl) s
theorem r3_12_l : r3_12.toList = [o3_12_0, o3_12_1, o3_12_2, o3_12_3, o3_12_4, o3_12_5, o3_12_6, o3_12_7, o3_12_8, o3_12_9] := nrfl rfl
theorem s3_12_0 : stepA E C B 141 r3_12 o3_12_0 (φ, H) = some (fput φ 97 (fget φ 0), H) := nrfl rfl
theorem s3_12_1 : stepA E C B 141 r3_12 o3_12_1 (φ, H) = some (fput φ 98 (fget φ 1), H) := nrfl rfl
theorem s3_12_2 : stepA E C B 141 r3_12 o3_12_2 (φ, H) = some (fput φ 99 (fget φ 2), H) := nrfl rfl
theorem s3_12_3 : stepA E C B 141 r3_12 o3_12_3 (φ, H) = some (fput φ 100 (fget φ 3), H) := nrfl rfl
theorem s3_12_4 : stepA E C B 141 r3_12 o3_12_4 (φ, H) = stp (some 101) φ H (aCall C (fun j => B + j * 141 + 101) true 15 [(fget φ 97), (fget φ 98), (fget φ 99), (fget φ 100)]) := nrfl rfl
theorem s3_12_5 : stepA E C B 141 r3_12 o3_12_5 (φ, H) = some (fput φ 96 (fget φ 101), H) := nrfl rfl
theorem s3_12_6 : stepA E C B 141 r3_12 o3_12_6 (φ, H) = stp (some 102) φ H (opExtract (fget φ 96) 0) := nrfl rfl
theorem s3_12_7 : stepA E C B 141 r3_12 o3_12_7 (φ, H) = stp (some 103) φ H (opExtract (fget φ 96) 1) := nrfl rfl
theorem s3_12_8 : stepA E C B 141 r3_12 o3_12_8 (φ, H) = some (fput φ 14 (fget φ 102), H) := nrfl rfl
theorem s3_12_9 : stepA E C B 141 r3_12 o3_12_9 (φ, H) = some (fput φ 15 (fget φ 103), H) := nrfl rfl
noncomputable def c3_34 : Code := kR c3_32
noncomputable def c3_35 : Code := kL c3_34
noncomputable def r3_13 : Array Oper := kO c3_35
noncomputable def o3_13_0 : Oper := opN r3_13 0
noncomputable def o3_13_1 : Oper := opN r3_13 1
noncomputable def o3_13_2 : Oper := opN r3_13 2
noncomputable def o3_13_3 : Oper := opN r3_13 3
noncomputable def o3_13_4 : Oper := opN r3_13 4
noncomputable def o3_13_5 : Oper := opN r3_13 5
noncomputable def o3_13_6 : Oper := opN r3_13 6
noncomputable def o3_13_7 : Oper := opN r3_13 7
noncomputable def o3_13_8 : Oper := opN r3_13 8
noncomputable def o3_13_9 : Oper := opN r3_13 9
theorem x3_35 : execA E C (fg 3) B 141 E0 N c3_35 s = regX (runA E C B 141 r3_13 r3_13.toList s) (fun s => gcM E0 [3, 104, 105, 106, 107, 108, 109, 110, 111] (forget s.1 [3, 104, 105, 106, 107, 108, 109, 110, 111], s.2)) := x_reg (ops := r3_13) (by rfl) (by rfl) s
theorem r3_13_l : r3_13.toList = [o3_13_0, o3_13_1, o3_13_2, o3_13_3, o3_13_4, o3_13_5, o3_13_6, o3_13_7, o3_13_8, o3_13_9] := nrfl rfl
theorem s3_13_0 : stepA E C B 141 r3_13 o3_13_0 (φ, H) = some (fput φ 105 (fget φ 9), H) := nrfl rfl
theorem s3_13_1 : stepA E C B 141 r3_13 o3_13_1 (φ, H) = some (fput φ 106 (fget φ 1), H) := nrfl rfl
theorem s3_13_2 : stepA E C B 141 r3_13 o3_13_2 (φ, H) = some (fput φ 107 (fget φ 2), H) := nrfl rfl
theorem s3_13_3 : stepA E C B 141 r3_13 o3_13_3 (φ, H) = some (fput φ 108 (fget φ 3), H) := nrfl rfl
theorem s3_13_4 : stepA E C B 141 r3_13 o3_13_4 (φ, H) = stp (some 109) φ H (aCall C (fun j => B + j * 141 + 109) true 16 [(fget φ 105), (fget φ 106), (fget φ 107), (fget φ 108)]) := nrfl rfl
theorem s3_13_5 : stepA E C B 141 r3_13 o3_13_5 (φ, H) = some (fput φ 104 (fget φ 109), H) := nrfl rfl
theorem s3_13_6 : stepA E C B 141 r3_13 o3_13_6 (φ, H) = stp (some 110) φ H (opExtract (fget φ 104) 0) := nrfl rfl
theorem s3_13_7 : stepA E C B 141 r3_13 o3_13_7 (φ, H) = stp (some 111) φ H (opExtract (fget φ 104) 1) := nrfl rfl
theorem s3_13_8 : stepA E C B 141 r3_13 o3_13_8 (φ, H) = some (fput φ 16 (fget φ 110), H) := nrfl rfl
theorem s3_13_9 : stepA E C B 141 r3_13 o3_13_9 (φ, H) = some (fput φ 17 (fget φ 111), H) := nrfl rfl
noncomputable def c3_36 : Code := kR c3_34
noncomputable def c3_37 : Code := kL c3_36
noncomputable def r3_14 : Array Oper := kO c3_37
noncomputable def o3_14_0 : Oper := opN r3_14 0
noncomputable def o3_14_1 : Oper := opN r3_14 1
noncomputable def o3_14_2 : Oper := opN r3_14 2
noncomputable def o3_14_3 : Oper := opN r3_14 3
noncomputable def o3_14_4 : Oper := opN r3_14 4
noncomputable def o3_14_5 : Oper := opN r3_14 5
noncomputable def o3_14_6 : Oper := opN r3_14 6
noncomputable def o3_14_7 : Oper := opN r3_14 7
noncomputable def o3_14_8 : Oper := opN r3_14 8
noncomputable def o3_14_9 : Oper := opN r3_14 9
noncomputable def o3_14_10 : Oper := opN r3_14 10
noncomputable def o3_14_11 : Oper := opN r3_14 11
noncomputable def o3_14_12 : Oper := opN r3_14 12
noncomputable def o3_14_13 : Oper := opN r3_14 13
noncomputable def o3_14_14 : Oper := opN r3_14 14
noncomputable def o3_14_15 : Oper := opN r3_14 15
noncomputable def o3_14_16 : Oper := opN r3_14 16
noncomputable def o3_14_17 : Oper := opN r3_14 17
noncomputable def o3_14_18 : Oper := opN r3_14 18
noncomputable def o3_14_19 : Oper := opN r3_14 19
noncomputable def o3_14_20 : Oper := opN r3_14 20
noncomputable def o3_14_21 : Oper := opN r3_14 21
noncomputable def o3_14_22 : Oper := opN r3_14 22
noncomputable def o3_14_23 : Oper := opN r3_14 23
noncomputable def o3_14_24 : Oper := opN r3_14 24
noncomputable def o3_14_25 : Oper := opN r3_14 25
noncomputable def o3_14_26 : Oper := opN r3_14 26
noncomputable def o3_14_27 : Oper := opN r3_14 27
noncomputable def o3_14_28 : Oper := opN r3_14 28
noncomputable def o3_14_29 : Oper := opN r3_14 29
theorem x3_37 : execA E C (fg 3) B 141 E0 N c3_37 s = regX (runA E C B 141 r3_14 r3_14.toList s) (fun s => gcM E0 [0, 1, 2, 9, 14, 15, 16, 17, 112, 113, 114, 115, 116, 117, 118, 119, 120, 121, 122, 123, 124, 125, 126, 127, 128, 129, 130, 131, 132, 133, 134, 135, 136, 137, 138, 139, 140] (forget s.1 [0, 1, 2, 9, 14, 15, 16, 17, 112, 113, 114, 115, 116, 117, 118, 119, 120, 121, 122, 123, 124, 125, 126, 127, 128, 129, 130, 131, 132, 133, 134, 135, 136, 137, 138, 139, 140], s.2)) := x_reg (ops := r3_14) (by rfl) (by rfl) s
theorem r3_14_l : r3_14.toList = [o3_14_0, o3_14_1, o3_14_2, o3_14_3, o3_14_4, o3_14_5, o3_14_6, o3_14_7, o3_14_8, o3_14_9, o3_14_10, o3_14_11, o3_14_12, o3_14_13, o3_14_14, o3_14_15, o3_14_16, o3_14_17, o3_14_18, o3_14_19, o3_14_20, o3_14_21, o3_14_22, o3_14_23, o3_14_24, o3_14_25, o3_14_26, o3_14_27, o3_14_28, o3_14_29] := nrfl rfl
theorem s3_14_0 : stepA E C B 141 r3_14 o3_14_0 (φ, H) = some (fput φ 112 (fget φ 14), H) := nrfl rfl
theorem s3_14_1 : stepA E C B 141 r3_14 o3_14_1 (φ, H) = some (fput φ 113 (fget φ 16), H) := nrfl rfl
theorem s3_14_2 : stepA E C B 141 r3_14 o3_14_2 (φ, H) = stp (some 114) φ H (just (aBin E.T .eql 3 (fget φ 112) (fget φ 113))) := nrfl rfl
theorem s3_14_3 : stepA E C B 141 r3_14 o3_14_3 (φ, H) = some (fput φ 115 (fget φ 114), H) := nrfl rfl
theorem s3_14_4 : stepA E C B 141 r3_14 o3_14_4 (φ, H) = gd φ 115 true (fun φ => some (fput φ 116 (.tup []), H)) (fun φ => some (fput φ 116 (fget φ 15), H)) := s_gd (j := 3) (oj := o3_14_3) rfl rfl rfl (fun _ => rfl) (fun _ => rfl)
theorem s3_14_5 : stepA E C B 141 r3_14 o3_14_5 (φ, H) = gd φ 115 true (fun φ => some (fput φ 117 (.tup []), H)) (fun φ => some (fput φ 117 (fget φ 17), H)) := s_gd (j := 3) (oj := o3_14_3) rfl rfl rfl (fun _ => rfl) (fun _ => rfl)
theorem s3_14_6 : stepA E C B 141 r3_14 o3_14_6 (φ, H) = gd φ 115 true (fun φ => some (fput φ 118 (.tup []), H)) (fun φ => stp (some 118) φ H (just (aBin E.T .eql 27 (fget φ 116) (fget φ 117)))) := s_gd (j := 3) (oj := o3_14_3) rfl rfl rfl (fun _ => rfl) (fun _ => rfl)
theorem s3_14_7 : stepA E C B 141 r3_14 o3_14_7 (φ, H) = stp (some 119) φ H (opPick (fget φ 115) (fget φ 118) (.bool false)) := nrfl rfl
theorem s3_14_8 : stepA E C B 141 r3_14 o3_14_8 (φ, H) = some (fput φ 120 (fget φ 119), H) := nrfl rfl
theorem s3_14_9 : stepA E C B 141 r3_14 o3_14_9 (φ, H) = gd φ 120 true (fun φ => some (fput φ 121 (.tup []), H)) (fun φ => some (fput φ 121 (fget φ 0), H)) := s_gd (j := 8) (oj := o3_14_8) rfl rfl rfl (fun _ => rfl) (fun _ => rfl)
theorem s3_14_10 : stepA E C B 141 r3_14 o3_14_10 (φ, H) = gd φ 120 true (fun φ => some (fput φ 122 (.tup []), H)) (fun φ => stp (some 122) φ H (aCall C (fun j => B + j * 141 + 122) true 17 [(fget φ 121)])) := s_gd (j := 8) (oj := o3_14_8) rfl rfl rfl (fun _ => rfl) (fun _ => rfl)
theorem s3_14_11 : stepA E C B 141 r3_14 o3_14_11 (φ, H) = gd φ 120 true (fun φ => some (fput φ 123 (.tup []), H)) (fun φ => some (fput φ 123 (fget φ 9), H)) := s_gd (j := 8) (oj := o3_14_8) rfl rfl rfl (fun _ => rfl) (fun _ => rfl)
theorem s3_14_12 : stepA E C B 141 r3_14 o3_14_12 (φ, H) = gd φ 120 true (fun φ => some (fput φ 124 (.tup []), H)) (fun φ => stp (some 124) φ H (aCall C (fun j => B + j * 141 + 124) true 18 [(fget φ 123)])) := s_gd (j := 8) (oj := o3_14_8) rfl rfl rfl (fun _ => rfl) (fun _ => rfl)
theorem s3_14_13 : stepA E C B 141 r3_14 o3_14_13 (φ, H) = gd φ 120 true (fun φ => some (fput φ 125 (.tup []), H)) (fun φ => stp (some 125) φ H (just (aBin E.T .eql 27 (fget φ 122) (fget φ 124)))) := s_gd (j := 8) (oj := o3_14_8) rfl rfl rfl (fun _ => rfl) (fun _ => rfl)
theorem s3_14_14 : stepA E C B 141 r3_14 o3_14_14 (φ, H) = stp (some 126) φ H (opPick (fget φ 120) (fget φ 125) (.bool false)) := nrfl rfl
theorem s3_14_15 : stepA E C B 141 r3_14 o3_14_15 (φ, H) = some (fput φ 127 (fget φ 126), H) := nrfl rfl
theorem s3_14_16 : stepA E C B 141 r3_14 o3_14_16 (φ, H) = gd φ 127 true (fun φ => some (fput φ 128 (.tup []), H)) (fun φ => some (fput φ 128 (fget φ 0), H)) := s_gd (j := 15) (oj := o3_14_15) rfl rfl rfl (fun _ => rfl) (fun _ => rfl)
theorem s3_14_17 : stepA E C B 141 r3_14 o3_14_17 (φ, H) = gd φ 127 true (fun φ => some (fput φ 129 (.tup []), H)) (fun φ => some (fput φ 129 (fget φ 1), H)) := s_gd (j := 15) (oj := o3_14_15) rfl rfl rfl (fun _ => rfl) (fun _ => rfl)
theorem s3_14_18 : stepA E C B 141 r3_14 o3_14_18 (φ, H) = gd φ 127 true (fun φ => some (fput φ 130 (.tup []), H)) (fun φ => some (fput φ 130 (fget φ 2), H)) := s_gd (j := 15) (oj := o3_14_15) rfl rfl rfl (fun _ => rfl) (fun _ => rfl)
theorem s3_14_19 : stepA E C B 141 r3_14 o3_14_19 (φ, H) = gd φ 127 true (fun φ => some (fput φ 131 (.tup []), H)) (fun φ => stp (some 131) φ H (aCall C (fun j => B + j * 141 + 131) true 19 [(fget φ 128), (fget φ 129), (fget φ 130)])) := s_gd (j := 15) (oj := o3_14_15) rfl rfl rfl (fun _ => rfl) (fun _ => rfl)
theorem s3_14_20 : stepA E C B 141 r3_14 o3_14_20 (φ, H) = gd φ 127 true (fun φ => some (fput φ 132 (.tup []), H)) (fun φ => some (fput φ 132 (fget φ 9), H)) := s_gd (j := 15) (oj := o3_14_15) rfl rfl rfl (fun _ => rfl) (fun _ => rfl)
theorem s3_14_21 : stepA E C B 141 r3_14 o3_14_21 (φ, H) = gd φ 127 true (fun φ => some (fput φ 133 (.tup []), H)) (fun φ => some (fput φ 133 (fget φ 1), H)) := s_gd (j := 15) (oj := o3_14_15) rfl rfl rfl (fun _ => rfl) (fun _ => rfl)
theorem s3_14_22 : stepA E C B 141 r3_14 o3_14_22 (φ, H) = gd φ 127 true (fun φ => some (fput φ 134 (.tup []), H)) (fun φ => some (fput φ 134 (fget φ 2), H)) := s_gd (j := 15) (oj := o3_14_15) rfl rfl rfl (fun _ => rfl) (fun _ => rfl)
theorem s3_14_23 : stepA E C B 141 r3_14 o3_14_23 (φ, H) = gd φ 127 true (fun φ => some (fput φ 135 (.tup []), H)) (fun φ => stp (some 135) φ H (aCall C (fun j => B + j * 141 + 135) true 20 [(fget φ 132), (fget φ 133), (fget φ 134)])) := s_gd (j := 15) (oj := o3_14_15) rfl rfl rfl (fun _ => rfl) (fun _ => rfl)
theorem s3_14_24 : stepA E C B 141 r3_14 o3_14_24 (φ, H) = gd φ 127 true (fun φ => some (fput φ 136 (.tup []), H)) (fun φ => stp (some 136) φ H (just (aBin E.T .eql 27 (fget φ 131) (fget φ 135)))) := s_gd (j := 15) (oj := o3_14_15) rfl rfl rfl (fun _ => rfl) (fun _ => rfl)
theorem s3_14_25 : stepA E C B 141 r3_14 o3_14_25 (φ, H) = stp (some 137) φ H (opPick (fget φ 127) (fget φ 136) (.bool false)) := nrfl rfl
theorem s3_14_26 : stepA E C B 141 r3_14 o3_14_26 (φ, H) = some (fput φ 138 (fget φ 137), H) := nrfl rfl
theorem s3_14_27 : stepA E C B 141 r3_14 o3_14_27 (φ, H) = gd φ 138 true (fun φ => some (fput φ 139 (.tup []), H)) (fun φ => stp (some 139) φ H (aCall C (fun j => B + j * 141 + 139) true 6 [])) := s_gd (j := 26) (oj := o3_14_26) rfl rfl rfl (fun _ => rfl) (fun _ => rfl)
theorem s3_14_28 : stepA E C B 141 r3_14 o3_14_28 (φ, H) = stp (some 140) φ H (opPick (fget φ 138) (fget φ 139) (.bool false)) := nrfl rfl
theorem s3_14_29 : stepA E C B 141 r3_14 o3_14_29 (φ, H) = some (fput φ 8 (fget φ 140), H) := nrfl rfl
noncomputable def c3_38 : Code := kR c3_36
theorem x3_38 : execA E C (fg 3) B 141 E0 N c3_38 s = some (.ret, s) := x_ret (by rfl) s
theorem x3_36 : execA E C (fg 3) B 141 E0 N c3_36 s = seqX (execA E C (fg 3) B 141 E0 N c3_37 s) (execA E C (fg 3) B 141 E0 N c3_38) := x_seq (by rfl) s
theorem x3_34 : execA E C (fg 3) B 141 E0 N c3_34 s = seqX (execA E C (fg 3) B 141 E0 N c3_35 s) (execA E C (fg 3) B 141 E0 N c3_36) := x_seq (by rfl) s
theorem x3_32 : execA E C (fg 3) B 141 E0 N c3_32 s = seqX (execA E C (fg 3) B 141 E0 N c3_33 s) (execA E C (fg 3) B 141 E0 N c3_34) := x_seq (by rfl) s
theorem x3_24 : execA E C (fg 3) B 141 E0 N c3_24 s = seqX (execA E C (fg 3) B 141 E0 N c3_25 s) (execA E C (fg 3) B 141 E0 N c3_32) := x_seq (by rfl) s
theorem x3_22 : execA E C (fg 3) B 141 E0 N c3_22 s = seqX (execA E C (fg 3) B 141 E0 N c3_23 s) (execA E C (fg 3) B 141 E0 N c3_24) := x_seq (by rfl) s
theorem x3_20 : execA E C (fg 3) B 141 E0 N c3_20 s = seqX (execA E C (fg 3) B 141 E0 N c3_21 s) (execA E C (fg 3) B 141 E0 N c3_22) := x_seq (by rfl) s
theorem x3_18 : execA E C (fg 3) B 141 E0 N c3_18 s = seqX (execA E C (fg 3) B 141 E0 N c3_19 s) (execA E C (fg 3) B 141 E0 N c3_20) := x_seq (by rfl) s
theorem x3_16 : execA E C (fg 3) B 141 E0 N c3_16 s = seqX (execA E C (fg 3) B 141 E0 N c3_17 s) (execA E C (fg 3) B 141 E0 N c3_18) := x_seq (by rfl) s
theorem x3_14 : execA E C (fg 3) B 141 E0 N c3_14 s = seqX (execA E C (fg 3) B 141 E0 N c3_15 s) (execA E C (fg 3) B 141 E0 N c3_16) := x_seq (by rfl) s
theorem x3_12 : execA E C (fg 3) B 141 E0 N c3_12 s = seqX (execA E C (fg 3) B 141 E0 N c3_13 s) (execA E C (fg 3) B 141 E0 N c3_14) := x_seq (by rfl) s
theorem x3_10 : execA E C (fg 3) B 141 E0 N c3_10 s = seqX (execA E C (fg 3) B 141 E0 N c3_11 s) (execA E C (fg 3) B 141 E0 N c3_12) := x_seq (by rfl) s
theorem x3_2 : execA E C (fg 3) B 141 E0 N c3_2 s = seqX (execA E C (fg 3) B 141 E0 N c3_3 s) (execA E C (fg 3) B 141 E0 N c3_10) := x_seq (by rfl) s
theorem x3_0 : execA E C (fg 3) B 141 E0 N c3_0 s = seqX (execA E C (fg 3) B 141 E0 N c3_1 s) (execA E C (fg 3) B 141 E0 N c3_2) := x_seq (by rfl) s
theorem fi_3 : fInfo E 3 = some ⟨141, #[.tmp 8], c3_0⟩ := nrfl rfl
theorem b_3 (args : List AV) : bodyA E C fg N 3 args H B = bodyX E [.tmp 8] (execA E C (fg 3) B 141 H N c3_0 (frame0 args 0 [], H)) := bodyA_eq fi_3 args H
end Go.AM.Yteellnlcligpfaa
