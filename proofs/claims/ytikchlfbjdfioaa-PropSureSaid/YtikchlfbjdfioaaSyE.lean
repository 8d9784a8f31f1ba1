/- Of each function the parts of its text and an equation for each of them: printed by sym.py (own work). -/
import Derived.Test.YtikchlfbjdfioaaAmSy
import Derived.Test.YtikchlfbjdfioaaEnv
import Derived.KernelRfl
import Derived.Test.YtikchlfbjdfioaaSyD

namespace Go.AM.Ytikchlfbjdfioaa
open Go Go.AM
set_option maxRecDepth 100000
variable {C : Callee} {B N : Nat} {E0 : AHeap} (φ : AFr) (H : AHeap) (s : St)

/-! ### f3: novaculite/novaculitelaw07.PropSure -/
noncomputable def c3_0 : Code := kBody Proofs.Try.f3
noncomputable def c3_1 : Code := kL c3_0
noncomputable def r3_0 : Array Oper := kO c3_1
noncomputable def o3_0_0 : Oper := opN r3_0 0
noncomputable def o3_0_1 : Oper := opN r3_0 1
noncomputable def o3_0_2 : Oper := opN r3_0 2
theorem x3_1 : execA E C (fg 3) B 249 E0 N c3_1 s = regX (runA E C B 249 r3_0 r3_0.toList s) (fun s => gcM E0 [0, 1, 4] (forget s.1 [0, 1, 4], s.2)) := x_reg (ops := r3_0) (by rfl) (by rfl) s
theorem r3_0_l : r3_0.toList = [o3_0_0, o3_0_1, o3_0_2] := nrfl rfl
theorem s3_0_0 : stepA E C B 249 r3_0 o3_0_0 (φ, H) = stp (some 2) φ H (opBox (B + 2) (acells (fget φ 0))) := nrfl rfl
theorem s3_0_1 : stepA E C B 249 r3_0 o3_0_1 (φ, H) = stp (some 3) φ H (opBox (B + 3) (acells (fget φ 1))) := nrfl rfl
theorem s3_0_2 : stepA E C B 249 r3_0 o3_0_2 (φ, H) = some (fput φ 4 (.bool false), H) := nrfl rfl
noncomputable def c3_2 : Code := kR c3_0
noncomputable def c3_3 : Code := kL c3_2
noncomputable def r3_1 : Array Oper := kO c3_3
noncomputable def o3_1_0 : Oper := opN r3_1 0
noncomputable def o3_1_1 : Oper := opN r3_1 1
noncomputable def o3_1_2 : Oper := opN r3_1 2
noncomputable def o3_1_3 : Oper := opN r3_1 3
theorem x3_3 : execA E C (fg 3) B 249 E0 N c3_3 s = regX (runA E C B 249 r3_1 r3_1.toList s) (fun s => gcM E0 [2, 30, 31] (forget s.1 [2, 30, 31], s.2)) := x_reg (ops := r3_1) (by rfl) (by rfl) s
theorem r3_1_l : r3_1.toList = [o3_1_0, o3_1_1, o3_1_2, o3_1_3] := nrfl rfl
theorem s3_1_0 : stepA E C B 249 r3_1 o3_1_0 (φ, H) = stp (some 30) φ H (just (aLoad E.T 25 (fget φ 2))) := nrfl rfl
theorem s3_1_1 : stepA E C B 249 r3_1 o3_1_1 (φ, H) = stp (some 31) φ H (aCall C (fun j => B + j * 249 + 31) true 7 [(fget φ 30), (.int .i64 5)]) := nrfl rfl
theorem s3_1_2 : stepA E C B 249 r3_1 o3_1_2 (φ, H) = stp (some 5) φ H (opBox (B + 5) (zeroCells E.T 27)) := nrfl rfl
theorem s3_1_3 : stepA E C B 249 r3_1 o3_1_3 (φ, H) = stp none φ H (opStore E.T 27 (fget φ 5) (fget φ 31)) := nrfl rfl
noncomputable def c3_4 : Code := kR c3_2
noncomputable def c3_5 : Code := kL c3_4
noncomputable def r3_2 : Array Oper := kO c3_5
noncomputable def o3_2_0 : Oper := opN r3_2 0
noncomputable def o3_2_1 : Oper := opN r3_2 1
noncomputable def o3_2_2 : Oper := opN r3_2 2
theorem x3_5 : execA E C (fg 3) B 249 E0 N c3_5 s = regX (runA E C B 249 r3_2 r3_2.toList s) (fun s => gcM E0 [32, 33] (forget s.1 [32, 33], s.2)) := x_reg (ops := r3_2) (by rfl) (by rfl) s
theorem r3_2_l : r3_2.toList = [o3_2_0, o3_2_1, o3_2_2] := nrfl rfl
theorem s3_2_0 : stepA E C B 249 r3_2 o3_2_0 (φ, H) = stp (some 32) φ H (just (aLoad E.T 27 (fget φ 5))) := nrfl rfl
theorem s3_2_1 : stepA E C B 249 r3_2 o3_2_1 (φ, H) = stp (some 33) φ H (aCall C (fun j => B + j * 249 + 33) true 8 [(fget φ 32)]) := nrfl rfl
theorem s3_2_2 : stepA E C B 249 r3_2 o3_2_2 (φ, H) = some (fput φ 6 (fget φ 33), H) := nrfl rfl
noncomputable def c3_6 : Code := kR c3_4
noncomputable def c3_7 : Code := kL c3_6
noncomputable def r3_3 : Array Oper := kO c3_7
noncomputable def o3_3_0 : Oper := opN r3_3 0
noncomputable def o3_3_1 : Oper := opN r3_3 1
noncomputable def o3_3_2 : Oper := opN r3_3 2
noncomputable def o3_3_3 : Oper := opN r3_3 3
noncomputable def o3_3_4 : Oper := opN r3_3 4
noncomputable def o3_3_5 : Oper := opN r3_3 5
noncomputable def o3_3_6 : Oper := opN r3_3 6
theorem x3_7 : execA E C (fg 3) B 249 E0 N c3_7 s = regX (runA E C B 249 r3_3 r3_3.toList s) (fun s => gcM E0 [34, 35, 36, 37, 38] (forget s.1 [34, 35, 36, 37, 38], s.2)) := x_reg (ops := r3_3) (by rfl) (by rfl) s
theorem r3_3_l : r3_3.toList = [o3_3_0, o3_3_1, o3_3_2, o3_3_3, o3_3_4, o3_3_5, o3_3_6] := nrfl rfl
theorem s3_3_0 : stepA E C B 249 r3_3 o3_3_0 (φ, H) = stp (some 35) φ H (just (aLoad E.T 27 (fget φ 5))) := nrfl rfl
theorem s3_3_1 : stepA E C B 249 r3_3 o3_3_1 (φ, H) = stp (some 36) φ H (aCall C (fun j => B + j * 249 + 36) true 9 [(fget φ 35)]) := nrfl rfl
theorem s3_3_2 : stepA E C B 249 r3_3 o3_3_2 (φ, H) = some (fput φ 34 (fget φ 36), H) := nrfl rfl
theorem s3_3_3 : stepA E C B 249 r3_3 o3_3_3 (φ, H) = stp (some 37) φ H (opExtract (fget φ 34) 0) := nrfl rfl
theorem s3_3_4 : stepA E C B 249 r3_3 o3_3_4 (φ, H) = stp (some 38) φ H (opExtract (fget φ 34) 1) := nrfl rfl
theorem s3_3_5 : stepA E C B 249 r3_3 o3_3_5 (φ, H) = some (fput φ 7 (fget φ 37), H) := nrfl rfl
theorem s3_3_6 : stepA E C B 249 r3_3 o3_3_6 (φ, H) = some (fput φ 8 (fget φ 38), H) := nrfl rfl
noncomputable def c3_8 : Code := kR c3_6
noncomputable def c3_9 : Code := kL c3_8
noncomputable def r3_4 : Array Oper := kO c3_9
noncomputable def o3_4_0 : Oper := opN r3_4 0
noncomputable def o3_4_1 : Oper := opN r3_4 1
noncomputable def o3_4_2 : Oper := opN r3_4 2
noncomputable def o3_4_3 : Oper := opN r3_4 3
noncomputable def o3_4_4 : Oper := opN r3_4 4
noncomputable def o3_4_5 : Oper := opN r3_4 5
noncomputable def o3_4_6 : Oper := opN r3_4 6
theorem x3_9 : execA E C (fg 3) B 249 E0 N c3_9 s = regX (runA E C B 249 r3_4 r3_4.toList s) (fun s => gcM E0 [39, 40, 41, 42, 43] (forget s.1 [39, 40, 41, 42, 43], s.2)) := x_reg (ops := r3_4) (by rfl) (by rfl) s
theorem r3_4_l : r3_4.toList = [o3_4_0, o3_4_1, o3_4_2, o3_4_3, o3_4_4, o3_4_5, o3_4_6] := nrfl rfl
theorem s3_4_0 : stepA E C B 249 r3_4 o3_4_0 (φ, H) = stp (some 40) φ H (just (aLoad E.T 27 (fget φ 5))) := nrfl rfl
theorem s3_4_1 : stepA E C B 249 r3_4 o3_4_1 (φ, H) = stp (some 41) φ H (aCall C (fun j => B + j * 249 + 41) true 10 [(fget φ 40)]) := nrfl rfl
theorem s3_4_2 : stepA E C B 249 r3_4 o3_4_2 (φ, H) = some (fput φ 39 (fget φ 41), H) := nrfl rfl
theorem s3_4_3 : stepA E C B 249 r3_4 o3_4_3 (φ, H) = stp (some 42) φ H (opExtract (fget φ 39) 0) := nrfl rfl
theorem s3_4_4 : stepA E C B 249 r3_4 o3_4_4 (φ, H) = stp (some 43) φ H (opExtract (fget φ 39) 1) := nrfl rfl
theorem s3_4_5 : stepA E C B 249 r3_4 o3_4_5 (φ, H) = some (fput φ 9 (fget φ 42), H) := nrfl rfl
theorem s3_4_6 : stepA E C B 249 r3_4 o3_4_6 (φ, H) = some (fput φ 10 (fget φ 43), H) := nrfl rfl
noncomputable def c3_10 : Code := kR c3_8
noncomputable def c3_11 : Code := kL c3_10
noncomputable def c3_12 : Code := kL c3_11
noncomputable def r3_5 : Array Oper := kO c3_12
noncomputable def o3_5_0 : Oper := opN r3_5 0
noncomputable def o3_5_1 : Oper := opN r3_5 1
noncomputable def o3_5_2 : Oper := opN r3_5 2
noncomputable def o3_5_3 : Oper := opN r3_5 3
noncomputable def o3_5_4 : Oper := opN r3_5 4
noncomputable def o3_5_5 : Oper := opN r3_5 5
noncomputable def o3_5_6 : Oper := opN r3_5 6
noncomputable def o3_5_7 : Oper := opN r3_5 7
noncomputable def o3_5_8 : Oper := opN r3_5 8
noncomputable def o3_5_9 : Oper := opN r3_5 9
noncomputable def o3_5_10 : Oper := opN r3_5 10
noncomputable def o3_5_11 : Oper := opN r3_5 11
noncomputable def o3_5_12 : Oper := opN r3_5 12
noncomputable def o3_5_13 : Oper := opN r3_5 13
noncomputable def o3_5_14 : Oper := opN r3_5 14
noncomputable def o3_5_15 : Oper := opN r3_5 15
noncomputable def o3_5_16 : Oper := opN r3_5 16
noncomputable def o3_5_17 : Oper := opN r3_5 17
noncomputable def o3_5_18 : Oper := opN r3_5 18
noncomputable def o3_5_19 : Oper := opN r3_5 19
noncomputable def o3_5_20 : Oper := opN r3_5 20
noncomputable def o3_5_21 : Oper := opN r3_5 21
noncomputable def o3_5_22 : Oper := opN r3_5 22
noncomputable def o3_5_23 : Oper := opN r3_5 23
noncomputable def o3_5_24 : Oper := opN r3_5 24
noncomputable def o3_5_25 : Oper := opN r3_5 25
noncomputable def o3_5_26 : Oper := opN r3_5 26
noncomputable def o3_5_27 : Oper := opN r3_5 27
noncomputable def o3_5_28 : Oper := opN r3_5 28
noncomputable def o3_5_29 : Oper := opN r3_5 29
noncomputable def o3_5_30 : Oper := opN r3_5 30
noncomputable def o3_5_31 : Oper := opN r3_5 31
noncomputable def o3_5_32 : Oper := opN r3_5 32
noncomputable def o3_5_33 : Oper := opN r3_5 33
noncomputable def o3_5_34 : Oper := opN r3_5 34
noncomputable def o3_5_35 : Oper := opN r3_5 35
noncomputable def o3_5_36 : Oper := opN r3_5 36
noncomputable def o3_5_37 : Oper := opN r3_5 37
theorem x3_12 : execA E C (fg 3) B 249 E0 N c3_12 s = regX (runA E C B 249 r3_5 r3_5.toList s) (fun s => gcM E0 [7, 8, 9, 10, 44, 45, 46, 47, 48, 49, 50, 51, 52, 53, 54, 55, 56, 57, 58, 59, 60, 61, 62, 63, 64, 65, 66, 67, 68, 69, 70, 71, 72, 73, 74, 75, 76, 77, 78, 79, 80] (forget s.1 [7, 8, 9, 10, 44, 45, 46, 47, 48, 49, 50, 51, 52, 53, 54, 55, 56, 57, 58, 59, 60, 61, 62, 63, 64, 65, 66, 67, 68, 69, 70, 71, 72, 73, 74, 75, 76, 77, 78, 79, 80], s.2)) := x_reg (ops := r3_5) (by rfl) (by rfl) s
theorem r3_5_l : r3_5.toList = [o3_5_0, o3_5_1, o3_5_2, o3_5_3, o3_5_4, o3_5_5, o3_5_6, o3_5_7, o3_5_8, o3_5_9, o3_5_10, o3_5_11, o3_5_12, o3_5_13, o3_5_14, o3_5_15, o3_5_16, o3_5_17, o3_5_18, o3_5_19, o3_5_20, o3_5_21, o3_5_22, o3_5_23, o3_5_24, o3_5_25, o3_5_26, o3_5_27, o3_5_28, o3_5_29, o3_5_30, o3_5_31, o3_5_32, o3_5_33, o3_5_34, o3_5_35, o3_5_36, o3_5_37] := nrfl rfl
theorem s3_5_0 : stepA E C B 249 r3_5 o3_5_0 (φ, H) = stp (some 44) φ H (just (aLoad E.T 27 (fget φ 5))) := nrfl rfl
theorem s3_5_1 : stepA E C B 249 r3_5 o3_5_1 (φ, H) = stp (some 45) φ H (aCall C (fun j => B + j * 249 + 45) true 11 [(fget φ 44)]) := nrfl rfl
theorem s3_5_2 : stepA E C B 249 r3_5 o3_5_2 (φ, H) = stp (some 46) φ H (just (aBin E.T .neq 30 (fget φ 45) (.int .i64 0))) := nrfl rfl
theorem s3_5_3 : stepA E C B 249 r3_5 o3_5_3 (φ, H) = some (fput φ 47 (fget φ 46), H) := nrfl rfl
theorem s3_5_4 : stepA E C B 249 r3_5 o3_5_4 (φ, H) = gd φ 47 false (fun φ => some (fput φ 48 (.tup []), H)) (fun φ => some (fput φ 48 (fget φ 8), H)) := s_gd (j := 3) (oj := o3_5_3) rfl rfl rfl (fun _ => rfl) (fun _ => rfl)
theorem s3_5_5 : stepA E C B 249 r3_5 o3_5_5 (φ, H) = gd φ 47 false (fun φ => some (fput φ 49 (.tup []), H)) (fun φ => stp (some 49) φ H (just (aBin E.T .neq 30 (fget φ 48) (.int .i64 0)))) := s_gd (j := 3) (oj := o3_5_3) rfl rfl rfl (fun _ => rfl) (fun _ => rfl)
theorem s3_5_6 : stepA E C B 249 r3_5 o3_5_6 (φ, H) = stp (some 50) φ H (opPick (fget φ 47) (.bool true) (fget φ 49)) := nrfl rfl
theorem s3_5_7 : stepA E C B 249 r3_5 o3_5_7 (φ, H) = some (fput φ 51 (fget φ 50), H) := nrfl rfl
theorem s3_5_8 : stepA E C B 249 r3_5 o3_5_8 (φ, H) = gd φ 51 false (fun φ => some (fput φ 52 (.tup []), H)) (fun φ => some (fput φ 52 (fget φ 7), H)) := s_gd (j := 7) (oj := o3_5_7) rfl rfl rfl (fun _ => rfl) (fun _ => rfl)
theorem s3_5_9 : stepA E C B 249 r3_5 o3_5_9 (φ, H) = gd φ 51 false (fun φ => some (fput φ 53 (.tup []), H)) (fun φ => some (fput φ 53 (fget φ 6), H)) := s_gd (j := 7) (oj := o3_5_7) rfl rfl rfl (fun _ => rfl) (fun _ => rfl)
theorem s3_5_10 : stepA E C B 249 r3_5 o3_5_10 (φ, H) = gd φ 51 false (fun φ => some (fput φ 54 (.tup []), H)) (fun φ => stp (some 54) φ H (just (aBin E.T .lss 3 (fget φ 53) (.int .i64 0)))) := s_gd (j := 7) (oj := o3_5_7) rfl rfl rfl (fun _ => rfl) (fun _ => rfl)
theorem s3_5_11 : stepA E C B 249 r3_5 o3_5_11 (φ, H) = gd φ 51 false (fun φ => some (fput φ 55 (.tup []), H)) (fun φ => stp (some 55) φ H (just (aBin E.T .neq 4 (fget φ 52) (fget φ 54)))) := s_gd (j := 7) (oj := o3_5_7) rfl rfl rfl (fun _ => rfl) (fun _ => rfl)
theorem s3_5_12 : stepA E C B 249 r3_5 o3_5_12 (φ, H) = stp (some 56) φ H (opPick (fget φ 51) (.bool true) (fget φ 55)) := nrfl rfl
theorem s3_5_13 : stepA E C B 249 r3_5 o3_5_13 (φ, H) = some (fput φ 57 (fget φ 56), H) := nrfl rfl
theorem s3_5_14 : stepA E C B 249 r3_5 o3_5_14 (φ, H) = gd φ 57 false (fun φ => some (fput φ 58 (.tup []), H)) (fun φ => some (fput φ 58 (fget φ 6), H)) := s_gd (j := 13) (oj := o3_5_13) rfl rfl rfl (fun _ => rfl) (fun _ => rfl)
theorem s3_5_15 : stepA E C B 249 r3_5 o3_5_15 (φ, H) = gd φ 57 false (fun φ => some (fput φ 59 (.tup []), H)) (fun φ => stp (some 59) φ H (just (aBin E.T .lss 3 (fget φ 58) (.int .i64 0)))) := s_gd (j := 13) (oj := o3_5_13) rfl rfl rfl (fun _ => rfl) (fun _ => rfl)
theorem s3_5_16 : stepA E C B 249 r3_5 o3_5_16 (φ, H) = gd φ 57 false (fun φ => some (fput φ 60 (.tup []), H)) (fun φ => some (fput φ 60 (fget φ 59), H)) := s_gd (j := 13) (oj := o3_5_13) rfl rfl rfl (fun _ => rfl) (fun _ => rfl)
theorem s3_5_17 : stepA E C B 249 r3_5 o3_5_17 (φ, H) = gd φ 60 true (fun φ => some (fput φ 61 (.tup []), H)) (fun φ => some (fput φ 61 (fget φ 10), H)) := s_gd (j := 16) (oj := o3_5_16) rfl rfl rfl (fun _ => rfl) (fun _ => rfl)
theorem s3_5_18 : stepA E C B 249 r3_5 o3_5_18 (φ, H) = gd φ 60 true (fun φ => some (fput φ 62 (.tup []), H)) (fun φ => stp (some 62) φ H (just (aBin E.T .neq 30 (fget φ 61) (.int .i64 13)))) := s_gd (j := 16) (oj := o3_5_16) rfl rfl rfl (fun _ => rfl) (fun _ => rfl)
theorem s3_5_19 : stepA E C B 249 r3_5 o3_5_19 (φ, H) = gd φ 60 true (fun φ => some (fput φ 63 (.tup []), H)) (fun φ => some (fput φ 63 (fget φ 62), H)) := s_gd (j := 16) (oj := o3_5_16) rfl rfl rfl (fun _ => rfl) (fun _ => rfl)
theorem s3_5_20 : stepA E C B 249 r3_5 o3_5_20 (φ, H) = gd φ 63 false (fun φ => some (fput φ 64 (.tup []), H)) (fun φ => some (fput φ 64 (fget φ 9), H)) := s_gd (j := 19) (oj := o3_5_19) rfl rfl rfl (fun _ => rfl) (fun _ => rfl)
theorem s3_5_21 : stepA E C B 249 r3_5 o3_5_21 (φ, H) = gd φ 63 false (fun φ => some (fput φ 65 (.tup []), H)) (fun φ => stp (some 65) φ H (just (aBin E.T .neq 3 (fget φ 64) (.int .i64 0)))) := s_gd (j := 19) (oj := o3_5_19) rfl rfl rfl (fun _ => rfl) (fun _ => rfl)
theorem s3_5_22 : stepA E C B 249 r3_5 o3_5_22 (φ, H) = gd φ 60 true (fun φ => some (fput φ 66 (.tup []), H)) (fun φ => stp (some 66) φ H (opPick (fget φ 63) (.bool true) (fget φ 65))) := s_gd (j := 16) (oj := o3_5_16) rfl rfl rfl (fun _ => rfl) (fun _ => rfl)
theorem s3_5_23 : stepA E C B 249 r3_5 o3_5_23 (φ, H) = gd φ 57 false (fun φ => some (fput φ 67 (.tup []), H)) (fun φ => stp (some 67) φ H (opPick (fget φ 60) (fget φ 66) (.bool false))) := s_gd (j := 13) (oj := o3_5_13) rfl rfl rfl (fun _ => rfl) (fun _ => rfl)
theorem s3_5_24 : stepA E C B 249 r3_5 o3_5_24 (φ, H) = stp (some 68) φ H (opPick (fget φ 57) (.bool true) (fget φ 67)) := nrfl rfl
theorem s3_5_25 : stepA E C B 249 r3_5 o3_5_25 (φ, H) = some (fput φ 69 (fget φ 68), H) := nrfl rfl
theorem s3_5_26 : stepA E C B 249 r3_5 o3_5_26 (φ, H) = gd φ 69 false (fun φ => some (fput φ 70 (.tup []), H)) (fun φ => some (fput φ 70 (fget φ 6), H)) := s_gd (j := 25) (oj := o3_5_25) rfl rfl rfl (fun _ => rfl) (fun _ => rfl)
theorem s3_5_27 : stepA E C B 249 r3_5 o3_5_27 (φ, H) = gd φ 69 false (fun φ => some (fput φ 71 (.tup []), H)) (fun φ => stp (some 71) φ H (just (aBin E.T .geq 3 (fget φ 70) (.int .i64 0)))) := s_gd (j := 25) (oj := o3_5_25) rfl rfl rfl (fun _ => rfl) (fun _ => rfl)
theorem s3_5_28 : stepA E C B 249 r3_5 o3_5_28 (φ, H) = gd φ 69 false (fun φ => some (fput φ 72 (.tup []), H)) (fun φ => some (fput φ 72 (fget φ 71), H)) := s_gd (j := 25) (oj := o3_5_25) rfl rfl rfl (fun _ => rfl) (fun _ => rfl)
theorem s3_5_29 : stepA E C B 249 r3_5 o3_5_29 (φ, H) = gd φ 72 true (fun φ => some (fput φ 73 (.tup []), H)) (fun φ => some (fput φ 73 (fget φ 10), H)) := s_gd (j := 28) (oj := o3_5_28) rfl rfl rfl (fun _ => rfl) (fun _ => rfl)
theorem s3_5_30 : stepA E C B 249 r3_5 o3_5_30 (φ, H) = gd φ 72 true (fun φ => some (fput φ 74 (.tup []), H)) (fun φ => stp (some 74) φ H (just (aBin E.T .neq 30 (fget φ 73) (.int .i64 0)))) := s_gd (j := 28) (oj := o3_5_28) rfl rfl rfl (fun _ => rfl) (fun _ => rfl)
theorem s3_5_31 : stepA E C B 249 r3_5 o3_5_31 (φ, H) = gd φ 72 true (fun φ => some (fput φ 75 (.tup []), H)) (fun φ => some (fput φ 75 (fget φ 74), H)) := s_gd (j := 28) (oj := o3_5_28) rfl rfl rfl (fun _ => rfl) (fun _ => rfl)
theorem s3_5_32 : stepA E C B 249 r3_5 o3_5_32 (φ, H) = gd φ 75 false (fun φ => some (fput φ 76 (.tup []), H)) (fun φ => some (fput φ 76 (fget φ 9), H)) := s_gd (j := 31) (oj := o3_5_31) rfl rfl rfl (fun _ => rfl) (fun _ => rfl)
theorem s3_5_33 : stepA E C B 249 r3_5 o3_5_33 (φ, H) = gd φ 75 false (fun φ => some (fput φ 77 (.tup []), H)) (fun φ => some (fput φ 77 (fget φ 6), H)) := s_gd (j := 31) (oj := o3_5_31) rfl rfl rfl (fun _ => rfl) (fun _ => rfl)
theorem s3_5_34 : stepA E C B 249 r3_5 o3_5_34 (φ, H) = gd φ 75 false (fun φ => some (fput φ 78 (.tup []), H)) (fun φ => stp (some 78) φ H (just (aBin E.T .neq 3 (fget φ 76) (fget φ 77)))) := s_gd (j := 31) (oj := o3_5_31) rfl rfl rfl (fun _ => rfl) (fun _ => rfl)
theorem s3_5_35 : stepA E C B 249 r3_5 o3_5_35 (φ, H) = gd φ 72 true (fun φ => some (fput φ 79 (.tup []), H)) (fun φ => stp (some 79) φ H (opPick (fget φ 75) (.bool true) (fget φ 78))) := s_gd (j := 28) (oj := o3_5_28) rfl rfl rfl (fun _ => rfl) (fun _ => rfl)
theorem s3_5_36 : stepA E C B 249 r3_5 o3_5_36 (φ, H) = gd φ 69 false (fun φ => some (fput φ 80 (.tup []), H)) (fun φ => stp (some 80) φ H (opPick (fget φ 72) (fget φ 79) (.bool false))) := s_gd (j := 25) (oj := o3_5_25) rfl rfl rfl (fun _ => rfl) (fun _ => rfl)
theorem s3_5_37 : stepA E C B 249 r3_5 o3_5_37 (φ, H) = stp (some 81) φ H (opPick (fget φ 69) (.bool true) (fget φ 80)) := nrfl rfl
noncomputable def c3_13 : Code := kR c3_11
noncomputable def c3_14 : Code := kT c3_13
noncomputable def c3_15 : Code := kL c3_14
noncomputable def r3_6 : Array Oper := kO c3_15
noncomputable def o3_6_0 : Oper := opN r3_6 0
theorem x3_15 : execA E C (fg 3) B 249 E0 N c3_15 s = regX (runA E C B 249 r3_6 r3_6.toList s) (fun s => gcM E0 [3, 5, 6, 81] (forget s.1 [3, 5, 6, 81], s.2)) := x_reg (ops := r3_6) (by rfl) (by rfl) s
theorem r3_6_l : r3_6.toList = [o3_6_0] := nrfl rfl
theorem s3_6_0 : stepA E C B 249 r3_6 o3_6_0 (φ, H) = some (fput φ 4 (.bool false), H) := nrfl rfl
noncomputable def c3_16 : Code := kR c3_14
theorem x3_16 : execA E C (fg 3) B 249 E0 N c3_16 s = some (.ret, s) := x_ret (by rfl) s
theorem x3_14 : execA E C (fg 3) B 249 E0 N c3_14 s = seqX (execA E C (fg 3) B 249 E0 N c3_15 s) (execA E C (fg 3) B 249 E0 N c3_16) := x_seq (by rfl) s
noncomputable def c3_17 : Code := kE c3_13
theorem x3_17 : execA E C (fg 3) B 249 E0 N c3_17 s = some (.normal, s) := x_skip (by rfl) s
theorem x3_13 : execA E C (fg 3) B 249 E0 N c3_13 (φ, H) = condX (fget φ 81) (execA E C (fg 3) B 249 E0 N c3_14 (φ, H)) (execA E C (fg 3) B 249 E0 N c3_17 (φ, H)) := x_cond (by rfl) _
theorem x3_11 : execA E C (fg 3) B 249 E0 N c3_11 s = seqX (execA E C (fg 3) B 249 E0 N c3_12 s) (execA E C (fg 3) B 249 E0 N c3_13) := x_seq (by rfl) s
noncomputable def c3_18 : Code := kR c3_10
noncomputable def c3_19 : Code := kL c3_18
noncomputable def r3_7 : Array Oper := kO c3_19
noncomputable def o3_7_0 : Oper := opN r3_7 0
noncomputable def o3_7_1 : Oper := opN r3_7 1
noncomputable def o3_7_2 : Oper := opN r3_7 2
noncomputable def o3_7_3 : Oper := opN r3_7 3
theorem x3_19 : execA E C (fg 3) B 249 E0 N c3_19 s = regX (runA E C B 249 r3_7 r3_7.toList s) (fun s => gcM E0 [3, 81, 82, 83, 84] (forget s.1 [3, 81, 82, 83, 84], s.2)) := x_reg (ops := r3_7) (by rfl) (by rfl) s
theorem r3_7_l : r3_7.toList = [o3_7_0, o3_7_1, o3_7_2, o3_7_3] := nrfl rfl
theorem s3_7_0 : stepA E C B 249 r3_7 o3_7_0 (φ, H) = stp (some 82) φ H (just (aLoad E.T 27 (fget φ 5))) := nrfl rfl
theorem s3_7_1 : stepA E C B 249 r3_7 o3_7_1 (φ, H) = stp (some 83) φ H (just (aLoad E.T 26 (fget φ 3))) := nrfl rfl
theorem s3_7_2 : stepA E C B 249 r3_7 o3_7_2 (φ, H) = stp (some 84) φ H (aCall C (fun j => B + j * 249 + 84) true 12 [(fget φ 82), (fget φ 83)]) := nrfl rfl
theorem s3_7_3 : stepA E C B 249 r3_7 o3_7_3 (φ, H) = some (fput φ 11 (fget φ 84), H) := nrfl rfl
noncomputable def c3_20 : Code := kR c3_18
noncomputable def c3_21 : Code := kL c3_20
noncomputable def c3_22 : Code := kL c3_21
noncomputable def r3_8 : Array Oper := kO c3_22
noncomputable def o3_8_0 : Oper := opN r3_8 0
noncomputable def o3_8_1 : Oper := opN r3_8 1
noncomputable def o3_8_2 : Oper := opN r3_8 2
theorem x3_22 : execA E C (fg 3) B 249 E0 N c3_22 s = regX (runA E C B 249 r3_8 r3_8.toList s) (fun s => gcM E0 [85] (forget s.1 [85], s.2)) := x_reg (ops := r3_8) (by rfl) (by rfl) s
theorem r3_8_l : r3_8.toList = [o3_8_0, o3_8_1, o3_8_2] := nrfl rfl
theorem s3_8_0 : stepA E C B 249 r3_8 o3_8_0 (φ, H) = stp (some 85) φ H (just (aLoad E.T 27 (fget φ 5))) := nrfl rfl
theorem s3_8_1 : stepA E C B 249 r3_8 o3_8_1 (φ, H) = stp (some 86) φ H (aBuiltin E.T (B + 86) .len #[27] [(fget φ 85)]) := nrfl rfl
theorem s3_8_2 : stepA E C B 249 r3_8 o3_8_2 (φ, H) = some (fput φ 87 (.int .i64 0), H) := nrfl rfl
noncomputable def c3_23 : Code := kR c3_21
noncomputable def c3_24 : Code := kB c3_23
noncomputable def c3_25 : Code := kB c3_24
noncomputable def c3_26 : Code := kL c3_25
noncomputable def r3_9 : Array Oper := kO c3_26
noncomputable def o3_9_0 : Oper := opN r3_9 0
theorem x3_26 : execA E C (fg 3) B 249 E0 N c3_26 s = regX (runA E C B 249 r3_9 r3_9.toList s) (fun s => gcM E0 [] (forget s.1 [], s.2)) := x_reg (ops := r3_9) (by rfl) (by rfl) s
theorem r3_9_l : r3_9.toList = [o3_9_0] := nrfl rfl
theorem s3_9_0 : stepA E C B 249 r3_9 o3_9_0 (φ, H) = stp (some 88) φ H (just (aBin E.T .lss 3 (fget φ 87) (fget φ 86))) := nrfl rfl
noncomputable def c3_27 : Code := kR c3_25
noncomputable def c3_28 : Code := kL c3_27
noncomputable def c3_29 : Code := kT c3_28
theorem x3_29 : execA E C (fg 3) B 249 E0 N c3_29 s = some (.normal, s) := x_skip (by rfl) s
noncomputable def c3_30 : Code := kE c3_28
theorem x3_30 : execA E C (fg 3) B 249 E0 N c3_30 s = some (.exit 0, s) := x_exit (by rfl) s
theorem x3_28 : execA E C (fg 3) B 249 E0 N c3_28 (φ, H) = condX (fget φ 88) (execA E C (fg 3) B 249 E0 N c3_29 (φ, H)) (execA E C (fg 3) B 249 E0 N c3_30 (φ, H)) := x_cond (by rfl) _
noncomputable def c3_31 : Code := kR c3_27
noncomputable def c3_32 : Code := kL c3_31
noncomputable def c3_33 : Code := kB c3_32
noncomputable def c3_34 : Code := kL c3_33
noncomputable def r3_10 : Array Oper := kO c3_34
noncomputable def o3_10_0 : Oper := opN r3_10 0
noncomputable def o3_10_1 : Oper := opN r3_10 1
noncomputable def o3_10_2 : Oper := opN r3_10 2
theorem x3_34 : execA E C (fg 3) B 249 E0 N c3_34 s = regX (runA E C B 249 r3_10 r3_10.toList s) (fun s => gcM E0 [88, 89] (forget s.1 [88, 89], s.2)) := x_reg (ops := r3_10) (by rfl) (by rfl) s
theorem r3_10_l : r3_10.toList = [o3_10_0, o3_10_1, o3_10_2] := nrfl rfl
theorem s3_10_0 : stepA E C B 249 r3_10 o3_10_0 (φ, H) = some (fput φ 89 (fget φ 87), H) := nrfl rfl
theorem s3_10_1 : stepA E C B 249 r3_10 o3_10_1 (φ, H) = stp (some 12) φ H (opBox (B + 12) (zeroCells E.T 3)) := nrfl rfl
theorem s3_10_2 : stepA E C B 249 r3_10 o3_10_2 (φ, H) = stp none φ H (opStore E.T 3 (fget φ 12) (fget φ 89)) := nrfl rfl
noncomputable def c3_35 : Code := kR c3_33
noncomputable def c3_36 : Code := kL c3_35
noncomputable def r3_11 : Array Oper := kO c3_36
noncomputable def o3_11_0 : Oper := opN r3_11 0
noncomputable def o3_11_1 : Oper := opN r3_11 1
noncomputable def o3_11_2 : Oper := opN r3_11 2
noncomputable def o3_11_3 : Oper := opN r3_11 3
noncomputable def o3_11_4 : Oper := opN r3_11 4
noncomputable def o3_11_5 : Oper := opN r3_11 5
noncomputable def o3_11_6 : Oper := opN r3_11 6
noncomputable def o3_11_7 : Oper := opN r3_11 7
noncomputable def o3_11_8 : Oper := opN r3_11 8
theorem x3_36 : execA E C (fg 3) B 249 E0 N c3_36 s = regX (runA E C B 249 r3_11 r3_11.toList s) (fun s => gcM E0 [90, 91, 92, 93, 94, 95, 96] (forget s.1 [90, 91, 92, 93, 94, 95, 96], s.2)) := x_reg (ops := r3_11) (by rfl) (by rfl) s
theorem r3_11_l : r3_11.toList = [o3_11_0, o3_11_1, o3_11_2, o3_11_3, o3_11_4, o3_11_5, o3_11_6, o3_11_7, o3_11_8] := nrfl rfl
theorem s3_11_0 : stepA E C B 249 r3_11 o3_11_0 (φ, H) = stp (some 91) φ H (just (aLoad E.T 27 (fget φ 5))) := nrfl rfl
theorem s3_11_1 : stepA E C B 249 r3_11 o3_11_1 (φ, H) = some (fput φ 92 (fget φ 11), H) := nrfl rfl
theorem s3_11_2 : stepA E C B 249 r3_11 o3_11_2 (φ, H) = stp (some 93) φ H (just (aLoad E.T 3 (fget φ 12))) := nrfl rfl
theorem s3_11_3 : stepA E C B 249 r3_11 o3_11_3 (φ, H) = stp (some 94) φ H (aCall C (fun j => B + j * 249 + 94) true 13 [(fget φ 91), (fget φ 92), (fget φ 93)]) := nrfl rfl
theorem s3_11_4 : stepA E C B 249 r3_11 o3_11_4 (φ, H) = some (fput φ 90 (fget φ 94), H) := nrfl rfl
theorem s3_11_5 : stepA E C B 249 r3_11 o3_11_5 (φ, H) = stp (some 95) φ H (opExtract (fget φ 90) 0) := nrfl rfl
theorem s3_11_6 : stepA E C B 249 r3_11 o3_11_6 (φ, H) = stp (some 96) φ H (opExtract (fget φ 90) 1) := nrfl rfl
theorem s3_11_7 : stepA E C B 249 r3_11 o3_11_7 (φ, H) = some (fput φ 13 (fget φ 95), H) := nrfl rfl
theorem s3_11_8 : stepA E C B 249 r3_11 o3_11_8 (φ, H) = some (fput φ 14 (fget φ 96), H) := nrfl rfl
noncomputable def c3_37 : Code := kR c3_35
noncomputable def c3_38 : Code := kL c3_37
noncomputable def r3_12 : Array Oper := kO c3_38
noncomputable def o3_12_0 : Oper := opN r3_12 0
noncomputable def o3_12_1 : Oper := opN r3_12 1
noncomputable def o3_12_2 : Oper := opN r3_12 2
noncomputable def o3_12_3 : Oper := opN r3_12 3
noncomputable def o3_12_4 : Oper := opN r3_12 4
noncomputable def o3_12_5 : Oper := opN r3_12 5
noncomputable def o3_12_6 : Oper := opN r3_12 6
noncomputable def o3_12_7 : Oper := opN r3_12 7
theorem x3_38 : execA E C (fg 3) B 249 E0 N c3_38 s = regX (runA E C B 249 r3_12 r3_12.toList s) (fun s => gcM E0 [97, 98, 99, 100, 101, 102] (forget s.1 [97, 98, 99, 100, 101, 102], s.2)) := x_reg (ops := r3_12) (by rfl) (by rfl) s
theorem r3_12_l : r3_12.toList = [o3_12_0, o3_12_1, o3_12_2, o3_12_3, o3_12_4, o3_12_5, o3_12_6, o3_12_7] := nrfl rfl
theorem s3_12_0 : stepA E C B 249 r3_12 o3_12_0 (φ, H) = stp (some 98) φ H (just (aLoad E.T 27 (fget φ 5))) := nrfl rfl
theorem s3_12_1 : stepA E C B 249 r3_12 o3_12_1 (φ, H) = stp (some 99) φ H (just (aLoad E.T 3 (fget φ 12))) := nrfl rfl
theorem s3_12_2 : stepA E C B 249 r3_12 o3_12_2 (φ, H) = stp (some 100) φ H (aCall C (fun j => B + j * 249 + 100) true 14 [(fget φ 98), (fget φ 99), (.int .i64 1)]) := nrfl rfl
theorem s3_12_3 : stepA E C B 249 r3_12 o3_12_3 (φ, H) = some (fput φ 97 (fget φ 100), H) := nrfl rfl
theorem s3_12_4 : stepA E C B 249 r3_12 o3_12_4 (φ, H) = stp (some 101) φ H (opExtract (fget φ 97) 0) := nrfl rfl
theorem s3_12_5 : stepA E C B 249 r3_12 o3_12_5 (φ, H) = stp (some 102) φ H (opExtract (fget φ 97) 1) := nrfl rfl
theorem s3_12_6 : stepA E C B 249 r3_12 o3_12_6 (φ, H) = some (fput φ 15 (fget φ 101), H) := nrfl rfl
theorem s3_12_7 : stepA E C B 249 r3_12 o3_12_7 (φ, H) = some (fput φ 16 (fget φ 102), H) := nrfl rfl
noncomputable def c3_39 : Code := kR c3_37
noncomputable def c3_40 : Code := kL c3_39
noncomputable def r3_13 : Array Oper := kO c3_40
noncomputable def o3_13_0 : Oper := opN r3_13 0
noncomputable def o3_13_1 : Oper := opN r3_13 1
noncomputable def o3_13_2 : Oper := opN r3_13 2
noncomputable def o3_13_3 : Oper := opN r3_13 3
noncomputable def o3_13_4 : Oper := opN r3_13 4
noncomputable def o3_13_5 : Oper := opN r3_13 5
noncomputable def o3_13_6 : Oper := opN r3_13 6
noncomputable def o3_13_7 : Oper := opN r3_13 7
noncomputable def o3_13_8 : Oper := opN r3_13 8
theorem x3_40 : execA E C (fg 3) B 249 E0 N c3_40 s = regX (runA E C B 249 r3_13 r3_13.toList s) (fun s => gcM E0 [103, 104, 105, 106, 107, 108, 109] (forget s.1 [103, 104, 105, 106, 107, 108, 109], s.2)) := x_reg (ops := r3_13) (by rfl) (by rfl) s
theorem r3_13_l : r3_13.toList = [o3_13_0, o3_13_1, o3_13_2, o3_13_3, o3_13_4, o3_13_5, o3_13_6, o3_13_7, o3_13_8] := nrfl rfl
theorem s3_13_0 : stepA E C B 249 r3_13 o3_13_0 (φ, H) = stp (some 104) φ H (just (aLoad E.T 27 (fget φ 5))) := nrfl rfl
theorem s3_13_1 : stepA E C B 249 r3_13 o3_13_1 (φ, H) = some (fput φ 105 (fget φ 11), H) := nrfl rfl
theorem s3_13_2 : stepA E C B 249 r3_13 o3_13_2 (φ, H) = stp (some 106) φ H (just (aLoad E.T 3 (fget φ 12))) := nrfl rfl
theorem s3_13_3 : stepA E C B 249 r3_13 o3_13_3 (φ, H) = stp (some 107) φ H (aCall C (fun j => B + j * 249 + 107) true 15 [(fget φ 104), (fget φ 105), (fget φ 106), (.int .i64 1)]) := nrfl rfl
theorem s3_13_4 : stepA E C B 249 r3_13 o3_13_4 (φ, H) = some (fput φ 103 (fget φ 107), H) := nrfl rfl
theorem s3_13_5 : stepA E C B 249 r3_13 o3_13_5 (φ, H) = stp (some 108) φ H (opExtract (fget φ 103) 0) := nrfl rfl
theorem s3_13_6 : stepA E C B 249 r3_13 o3_13_6 (φ, H) = stp (some 109) φ H (opExtract (fget φ 103) 1) := nrfl rfl
theorem s3_13_7 : stepA E C B 249 r3_13 o3_13_7 (φ, H) = some (fput φ 17 (fget φ 108), H) := nrfl rfl
theorem s3_13_8 : stepA E C B 249 r3_13 o3_13_8 (φ, H) = some (fput φ 18 (fget φ 109), H) := nrfl rfl
noncomputable def c3_41 : Code := kR c3_39
noncomputable def c3_42 : Code := kL c3_41
noncomputable def c3_43 : Code := kL c3_42
noncomputable def r3_14 : Array Oper := kO c3_43
noncomputable def o3_14_0 : Oper := opN r3_14 0
noncomputable def o3_14_1 : Oper := opN r3_14 1
noncomputable def o3_14_2 : Oper := opN r3_14 2
noncomputable def o3_14_3 : Oper := opN r3_14 3
noncomputable def o3_14_4 : Oper := opN r3_14 4
noncomputable def o3_14_5 : Oper := opN r3_14 5
noncomputable def o3_14_6 : Oper := opN r3_14 6
noncomputable def o3_14_7 : Oper := opN r3_14 7
noncomputable def o3_14_8 : Oper := opN r3_14 8
noncomputable def o3_14_9 : Oper := opN r3_14 9
noncomputable def o3_14_10 : Oper := opN r3_14 10
noncomputable def o3_14_11 : Oper := opN r3_14 11
noncomputable def o3_14_12 : Oper := opN r3_14 12
noncomputable def o3_14_13 : Oper := opN r3_14 13
noncomputable def o3_14_14 : Oper := opN r3_14 14
noncomputable def o3_14_15 : Oper := opN r3_14 15
noncomputable def o3_14_16 : Oper := opN r3_14 16
noncomputable def o3_14_17 : Oper := opN r3_14 17
noncomputable def o3_14_18 : Oper := opN r3_14 18
noncomputable def o3_14_19 : Oper := opN r3_14 19
noncomputable def o3_14_20 : Oper := opN r3_14 20
noncomputable def o3_14_21 : Oper := opN r3_14 21
noncomputable def o3_14_22 : Oper := opN r3_14 22
noncomputable def o3_14_23 : Oper := opN r3_14 23
noncomputable def o3_14_24 : Oper := opN r3_14 24
noncomputable def o3_14_25 : Oper := opN r3_14 25
noncomputable def o3_14_26 : Oper := opN r3_14 26
noncomputable def o3_14_27 : Oper := opN r3_14 27
noncomputable def o3_14_28 : Oper := opN r3_14 28
noncomputable def o3_14_29 : Oper := opN r3_14 29
noncomputable def o3_14_30 : Oper := opN r3_14 30
noncomputable def o3_14_31 : Oper := opN r3_14 31
noncomputable def o3_14_32 : Oper := opN r3_14 32
noncomputable def o3_14_33 : Oper := opN r3_14 33
theorem x3_43 : execA E C (fg 3) B 249 E0 N c3_43 s = regX (runA E C B 249 r3_14 r3_14.toList s) (fun s => gcM E0 [16, 17, 18, 110, 111, 112, 113, 114, 115, 116, 117, 118, 119, 120, 121, 122, 123, 124, 125, 126, 127, 128, 129, 130, 131, 132, 133, 134, 135, 136, 137, 138, 139, 140, 141, 142] (forget s.1 [16, 17, 18, 110, 111, 112, 113, 114, 115, 116, 117, 118, 119, 120, 121, 122, 123, 124, 125, 126, 127, 128, 129, 130, 131, 132, 133, 134, 135, 136, 137, 138, 139, 140, 141, 142], s.2)) := x_reg (ops := r3_14) (by rfl) (by rfl) s
theorem r3_14_l : r3_14.toList = [o3_14_0, o3_14_1, o3_14_2, o3_14_3, o3_14_4, o3_14_5, o3_14_6, o3_14_7, o3_14_8, o3_14_9, o3_14_10, o3_14_11, o3_14_12, o3_14_13, o3_14_14, o3_14_15, o3_14_16, o3_14_17, o3_14_18, o3_14_19, o3_14_20, o3_14_21, o3_14_22, o3_14_23, o3_14_24, o3_14_25, o3_14_26, o3_14_27, o3_14_28, o3_14_29, o3_14_30, o3_14_31, o3_14_32, o3_14_33] := nrfl rfl
theorem s3_14_0 : stepA E C B 249 r3_14 o3_14_0 (φ, H) = some (fput φ 110 (fget φ 16), H) := nrfl rfl
theorem s3_14_1 : stepA E C B 249 r3_14 o3_14_1 (φ, H) = stp (some 111) φ H (just (aBin E.T .neq 30 (fget φ 110) (.int .i64 0))) := nrfl rfl
theorem s3_14_2 : stepA E C B 249 r3_14 o3_14_2 (φ, H) = some (fput φ 112 (fget φ 111), H) := nrfl rfl
theorem s3_14_3 : stepA E C B 249 r3_14 o3_14_3 (φ, H) = gd φ 112 false (fun φ => some (fput φ 113 (.tup []), H)) (fun φ => some (fput φ 113 (fget φ 18), H)) := s_gd (j := 2) (oj := o3_14_2) rfl rfl rfl (fun _ => rfl) (fun _ => rfl)
theorem s3_14_4 : stepA E C B 249 r3_14 o3_14_4 (φ, H) = gd φ 112 false (fun φ => some (fput φ 114 (.tup []), H)) (fun φ => stp (some 114) φ H (just (aBin E.T .neq 30 (fget φ 113) (.int .i64 0)))) := s_gd (j := 2) (oj := o3_14_2) rfl rfl rfl (fun _ => rfl) (fun _ => rfl)
theorem s3_14_5 : stepA E C B 249 r3_14 o3_14_5 (φ, H) = stp (some 115) φ H (opPick (fget φ 112) (.bool true) (fget φ 114)) := nrfl rfl
theorem s3_14_6 : stepA E C B 249 r3_14 o3_14_6 (φ, H) = some (fput φ 116 (fget φ 115), H) := nrfl rfl
theorem s3_14_7 : stepA E C B 249 r3_14 o3_14_7 (φ, H) = gd φ 116 false (fun φ => some (fput φ 117 (.tup []), H)) (fun φ => some (fput φ 117 (fget φ 15), H)) := s_gd (j := 6) (oj := o3_14_6) rfl rfl rfl (fun _ => rfl) (fun _ => rfl)
theorem s3_14_8 : stepA E C B 249 r3_14 o3_14_8 (φ, H) = gd φ 116 false (fun φ => some (fput φ 118 (.tup []), H)) (fun φ => stp (some 118) φ H (aBuiltin E.T (B + 118) .len #[36] [(fget φ 117)])) := s_gd (j := 6) (oj := o3_14_6) rfl rfl rfl (fun _ => rfl) (fun _ => rfl)
theorem s3_14_9 : stepA E C B 249 r3_14 o3_14_9 (φ, H) = gd φ 116 false (fun φ => some (fput φ 119 (.tup []), H)) (fun φ => stp (some 119) φ H (just (aLoad E.T 27 (fget φ 5)))) := s_gd (j := 6) (oj := o3_14_6) rfl rfl rfl (fun _ => rfl) (fun _ => rfl)
theorem s3_14_10 : stepA E C B 249 r3_14 o3_14_10 (φ, H) = gd φ 116 false (fun φ => some (fput φ 120 (.tup []), H)) (fun φ => stp (some 120) φ H (aBuiltin E.T (B + 120) .len #[27] [(fget φ 119)])) := s_gd (j := 6) (oj := o3_14_6) rfl rfl rfl (fun _ => rfl) (fun _ => rfl)
theorem s3_14_11 : stepA E C B 249 r3_14 o3_14_11 (φ, H) = gd φ 116 false (fun φ => some (fput φ 121 (.tup []), H)) (fun φ => stp (some 121) φ H (just (aBin E.T .neq 3 (fget φ 118) (fget φ 120)))) := s_gd (j := 6) (oj := o3_14_6) rfl rfl rfl (fun _ => rfl) (fun _ => rfl)
theorem s3_14_12 : stepA E C B 249 r3_14 o3_14_12 (φ, H) = stp (some 122) φ H (opPick (fget φ 116) (.bool true) (fget φ 121)) := nrfl rfl
theorem s3_14_13 : stepA E C B 249 r3_14 o3_14_13 (φ, H) = some (fput φ 123 (fget φ 122), H) := nrfl rfl
theorem s3_14_14 : stepA E C B 249 r3_14 o3_14_14 (φ, H) = gd φ 123 false (fun φ => some (fput φ 124 (.tup []), H)) (fun φ => some (fput φ 124 (fget φ 17), H)) := s_gd (j := 13) (oj := o3_14_13) rfl rfl rfl (fun _ => rfl) (fun _ => rfl)
theorem s3_14_15 : stepA E C B 249 r3_14 o3_14_15 (φ, H) = gd φ 123 false (fun φ => some (fput φ 125 (.tup []), H)) (fun φ => some (fput φ 125 (fget φ 13), H)) := s_gd (j := 13) (oj := o3_14_13) rfl rfl rfl (fun _ => rfl) (fun _ => rfl)
theorem s3_14_16 : stepA E C B 249 r3_14 o3_14_16 (φ, H) = gd φ 123 false (fun φ => some (fput φ 126 (.tup []), H)) (fun φ => stp (some 126) φ H (just (aBin E.T .neq 3 (fget φ 124) (fget φ 125)))) := s_gd (j := 13) (oj := o3_14_13) rfl rfl rfl (fun _ => rfl) (fun _ => rfl)
theorem s3_14_17 : stepA E C B 249 r3_14 o3_14_17 (φ, H) = stp (some 127) φ H (opPick (fget φ 123) (.bool true) (fget φ 126)) := nrfl rfl
theorem s3_14_18 : stepA E C B 249 r3_14 o3_14_18 (φ, H) = some (fput φ 128 (fget φ 127), H) := nrfl rfl
theorem s3_14_19 : stepA E C B 249 r3_14 o3_14_19 (φ, H) = gd φ 128 false (fun φ => some (fput φ 129 (.tup []), H)) (fun φ => some (fput φ 129 (fget φ 6), H)) := s_gd (j := 18) (oj := o3_14_18) rfl rfl rfl (fun _ => rfl) (fun _ => rfl)
theorem s3_14_20 : stepA E C B 249 r3_14 o3_14_20 (φ, H) = gd φ 128 false (fun φ => some (fput φ 130 (.tup []), H)) (fun φ => stp (some 130) φ H (just (aBin E.T .lss 3 (fget φ 129) (.int .i64 0)))) := s_gd (j := 18) (oj := o3_14_18) rfl rfl rfl (fun _ => rfl) (fun _ => rfl)
theorem s3_14_21 : stepA E C B 249 r3_14 o3_14_21 (φ, H) = gd φ 128 false (fun φ => some (fput φ 131 (.tup []), H)) (fun φ => some (fput φ 131 (fget φ 130), H)) := s_gd (j := 18) (oj := o3_14_18) rfl rfl rfl (fun _ => rfl) (fun _ => rfl)
theorem s3_14_22 : stepA E C B 249 r3_14 o3_14_22 (φ, H) = gd φ 131 true (fun φ => some (fput φ 132 (.tup []), H)) (fun φ => some (fput φ 132 (fget φ 13), H)) := s_gd (j := 21) (oj := o3_14_21) rfl rfl rfl (fun _ => rfl) (fun _ => rfl)
theorem s3_14_23 : stepA E C B 249 r3_14 o3_14_23 (φ, H) = gd φ 131 true (fun φ => some (fput φ 133 (.tup []), H)) (fun φ => stp (some 133) φ H (just (aBin E.T .gtr 3 (fget φ 132) (.int .i64 0)))) := s_gd (j := 21) (oj := o3_14_21) rfl rfl rfl (fun _ => rfl) (fun _ => rfl)
theorem s3_14_24 : stepA E C B 249 r3_14 o3_14_24 (φ, H) = gd φ 128 false (fun φ => some (fput φ 134 (.tup []), H)) (fun φ => stp (some 134) φ H (opPick (fget φ 131) (fget φ 133) (.bool false))) := s_gd (j := 18) (oj := o3_14_18) rfl rfl rfl (fun _ => rfl) (fun _ => rfl)
theorem s3_14_25 : stepA E C B 249 r3_14 o3_14_25 (φ, H) = stp (some 135) φ H (opPick (fget φ 128) (.bool true) (fget φ 134)) := nrfl rfl
theorem s3_14_26 : stepA E C B 249 r3_14 o3_14_26 (φ, H) = some (fput φ 136 (fget φ 135), H) := nrfl rfl
theorem s3_14_27 : stepA E C B 249 r3_14 o3_14_27 (φ, H) = gd φ 136 false (fun φ => some (fput φ 137 (.tup []), H)) (fun φ => some (fput φ 137 (fget φ 6), H)) := s_gd (j := 26) (oj := o3_14_26) rfl rfl rfl (fun _ => rfl) (fun _ => rfl)
theorem s3_14_28 : stepA E C B 249 r3_14 o3_14_28 (φ, H) = gd φ 136 false (fun φ => some (fput φ 138 (.tup []), H)) (fun φ => stp (some 138) φ H (just (aBin E.T .lss 3 (fget φ 137) (.int .i64 0)))) := s_gd (j := 26) (oj := o3_14_26) rfl rfl rfl (fun _ => rfl) (fun _ => rfl)
theorem s3_14_29 : stepA E C B 249 r3_14 o3_14_29 (φ, H) = gd φ 136 false (fun φ => some (fput φ 139 (.tup []), H)) (fun φ => some (fput φ 139 (fget φ 138), H)) := s_gd (j := 26) (oj := o3_14_26) rfl rfl rfl (fun _ => rfl) (fun _ => rfl)
theorem s3_14_30 : stepA E C B 249 r3_14 o3_14_30 (φ, H) = gd φ 139 true (fun φ => some (fput φ 140 (.tup []), H)) (fun φ => some (fput φ 140 (fget φ 14), H)) := s_gd (j := 29) (oj := o3_14_29) rfl rfl rfl (fun _ => rfl) (fun _ => rfl)
theorem s3_14_31 : stepA E C B 249 r3_14 o3_14_31 (φ, H) = gd φ 139 true (fun φ => some (fput φ 141 (.tup []), H)) (fun φ => stp (some 141) φ H (just (aBin E.T .gtr 3 (fget φ 140) (.int .i64 0)))) := s_gd (j := 29) (oj := o3_14_29) rfl rfl rfl (fun _ => rfl) (fun _ => rfl)
theorem s3_14_32 : stepA E C B 249 r3_14 o3_14_32 (φ, H) = gd φ 136 false (fun φ => some (fput φ 142 (.tup []), H)) (fun φ => stp (some 142) φ H (opPick (fget φ 139) (fget φ 141) (.bool false))) := s_gd (j := 26) (oj := o3_14_26) rfl rfl rfl (fun _ => rfl) (fun _ => rfl)
theorem s3_14_33 : stepA E C B 249 r3_14 o3_14_33 (φ, H) = stp (some 143) φ H (opPick (fget φ 136) (.bool true) (fget φ 142)) := nrfl rfl
noncomputable def c3_44 : Code := kR c3_42
noncomputable def c3_45 : Code := kT c3_44
noncomputable def c3_46 : Code := kL c3_45
noncomputable def r3_15 : Array Oper := kO c3_46
noncomputable def o3_15_0 : Oper := opN r3_15 0
theorem x3_46 : execA E C (fg 3) B 249 E0 N c3_46 s = regX (runA E C B 249 r3_15 r3_15.toList s) (fun s => gcM E0 [5, 6, 11, 12, 13, 14, 15, 86, 87, 143] (forget s.1 [5, 6, 11, 12, 13, 14, 15, 86, 87, 143], s.2)) := x_reg (ops := r3_15) (by rfl) (by rfl) s
theorem r3_15_l : r3_15.toList = [o3_15_0] := nrfl rfl
theorem s3_15_0 : stepA E C B 249 r3_15 o3_15_0 (φ, H) = some (fput φ 4 (.bool false), H) := nrfl rfl
noncomputable def c3_47 : Code := kR c3_45
theorem x3_47 : execA E C (fg 3) B 249 E0 N c3_47 s = some (.ret, s) := x_ret (by rfl) s
theorem x3_45 : execA E C (fg 3) B 249 E0 N c3_45 s = seqX (execA E C (fg 3) B 249 E0 N c3_46 s) (execA E C (fg 3) B 249 E0 N c3_47) := x_seq (by rfl) s
noncomputable def c3_48 : Code := kE c3_44
theorem x3_48 : execA E C (fg 3) B 249 E0 N c3_48 s = some (.normal, s) := x_skip (by rfl) s
theorem x3_44 : execA E C (fg 3) B 249 E0 N c3_44 (φ, H) = condX (fget φ 143) (execA E C (fg 3) B 249 E0 N c3_45 (φ, H)) (execA E C (fg 3) B 249 E0 N c3_48 (φ, H)) := x_cond (by rfl) _
theorem x3_42 : execA E C (fg 3) B 249 E0 N c3_42 s = seqX (execA E C (fg 3) B 249 E0 N c3_43 s) (execA E C (fg 3) B 249 E0 N c3_44) := x_seq (by rfl) s
noncomputable def c3_49 : Code := kR c3_41
noncomputable def c3_50 : Code := kL c3_49
noncomputable def c3_51 : Code := kL c3_50
noncomputable def r3_16 : Array Oper := kO c3_51
noncomputable def o3_16_0 : Oper := opN r3_16 0
noncomputable def o3_16_1 : Oper := opN r3_16 1
noncomputable def o3_16_2 : Oper := opN r3_16 2
theorem x3_51 : execA E C (fg 3) B 249 E0 N c3_51 s = regX (runA E C B 249 r3_16 r3_16.toList s) (fun s => gcM E0 [143] (forget s.1 [143], s.2)) := x_reg (ops := r3_16) (by rfl) (by rfl) s
theorem r3_16_l : r3_16.toList = [o3_16_0, o3_16_1, o3_16_2] := nrfl rfl
theorem s3_16_0 : stepA E C B 249 r3_16 o3_16_0 (φ, H) = some (fput φ 144 (fget φ 15), H) := nrfl rfl
theorem s3_16_1 : stepA E C B 249 r3_16 o3_16_1 (φ, H) = stp (some 145) φ H (aBuiltin E.T (B + 145) .len #[36] [(fget φ 144)]) := nrfl rfl
theorem s3_16_2 : stepA E C B 249 r3_16 o3_16_2 (φ, H) = some (fput φ 146 (.int .i64 0), H) := nrfl rfl
noncomputable def c3_52 : Code := kR c3_50
noncomputable def c3_53 : Code := kB c3_52
noncomputable def c3_54 : Code := kB c3_53
noncomputable def c3_55 : Code := kL c3_54
noncomputable def r3_17 : Array Oper := kO c3_55
noncomputable def o3_17_0 : Oper := opN r3_17 0
theorem x3_55 : execA E C (fg 3) B 249 E0 N c3_55 s = regX (runA E C B 249 r3_17 r3_17.toList s) (fun s => gcM E0 [] (forget s.1 [], s.2)) := x_reg (ops := r3_17) (by rfl) (by rfl) s
theorem r3_17_l : r3_17.toList = [o3_17_0] := nrfl rfl
theorem s3_17_0 : stepA E C B 249 r3_17 o3_17_0 (φ, H) = stp (some 147) φ H (just (aBin E.T .lss 3 (fget φ 146) (fget φ 145))) := nrfl rfl
noncomputable def c3_56 : Code := kR c3_54
noncomputable def c3_57 : Code := kL c3_56
noncomputable def c3_58 : Code := kT c3_57
theorem x3_58 : execA E C (fg 3) B 249 E0 N c3_58 s = some (.normal, s) := x_skip (by rfl) s
noncomputable def c3_59 : Code := kE c3_57
theorem x3_59 : execA E C (fg 3) B 249 E0 N c3_59 s = some (.exit 2, s) := x_exit (by rfl) s
theorem x3_57 : execA E C (fg 3) B 249 E0 N c3_57 (φ, H) = condX (fget φ 147) (execA E C (fg 3) B 249 E0 N c3_58 (φ, H)) (execA E C (fg 3) B 249 E0 N c3_59 (φ, H)) := x_cond (by rfl) _
noncomputable def c3_60 : Code := kR c3_56
noncomputable def c3_61 : Code := kL c3_60
noncomputable def c3_62 : Code := kB c3_61
noncomputable def c3_63 : Code := kL c3_62
noncomputable def r3_18 : Array Oper := kO c3_63
noncomputable def o3_18_0 : Oper := opN r3_18 0
noncomputable def o3_18_1 : Oper := opN r3_18 1
noncomputable def o3_18_2 : Oper := opN r3_18 2
noncomputable def o3_18_3 : Oper := opN r3_18 3
noncomputable def o3_18_4 : Oper := opN r3_18 4
theorem x3_63 : execA E C (fg 3) B 249 E0 N c3_63 s = regX (runA E C B 249 r3_18 r3_18.toList s) (fun s => gcM E0 [147, 148, 149, 150] (forget s.1 [147, 148, 149, 150], s.2)) := x_reg (ops := r3_18) (by rfl) (by rfl) s
theorem r3_18_l : r3_18.toList = [o3_18_0, o3_18_1, o3_18_2, o3_18_3, o3_18_4] := nrfl rfl
theorem s3_18_0 : stepA E C B 249 r3_18 o3_18_0 (φ, H) = some (fput φ 148 (fget φ 146), H) := nrfl rfl
theorem s3_18_1 : stepA E C B 249 r3_18 o3_18_1 (φ, H) = stp (some 149) φ H (just (aIndexAddr E.T 36 (fget φ 144) (fget φ 146))) := nrfl rfl
theorem s3_18_2 : stepA E C B 249 r3_18 o3_18_2 (φ, H) = stp (some 150) φ H (just (aLoad E.T 3 (fget φ 149))) := nrfl rfl
theorem s3_18_3 : stepA E C B 249 r3_18 o3_18_3 (φ, H) = some (fput φ 19 (fget φ 148), H) := nrfl rfl
theorem s3_18_4 : stepA E C B 249 r3_18 o3_18_4 (φ, H) = some (fput φ 20 (fget φ 150), H) := nrfl rfl
noncomputable def c3_64 : Code := kR c3_62
noncomputable def c3_65 : Code := kL c3_64
noncomputable def r3_19 : Array Oper := kO c3_65
noncomputable def o3_19_0 : Oper := opN r3_19 0
noncomputable def o3_19_1 : Oper := opN r3_19 1
noncomputable def o3_19_2 : Oper := opN r3_19 2
noncomputable def o3_19_3 : Oper := opN r3_19 3
noncomputable def o3_19_4 : Oper := opN r3_19 4
noncomputable def o3_19_5 : Oper := opN r3_19 5
noncomputable def o3_19_6 : Oper := opN r3_19 6
noncomputable def o3_19_7 : Oper := opN r3_19 7
noncomputable def o3_19_8 : Oper := opN r3_19 8
noncomputable def o3_19_9 : Oper := opN r3_19 9
noncomputable def o3_19_10 : Oper := opN r3_19 10
noncomputable def o3_19_11 : Oper := opN r3_19 11
noncomputable def o3_19_12 : Oper := opN r3_19 12
noncomputable def o3_19_13 : Oper := opN r3_19 13
noncomputable def o3_19_14 : Oper := opN r3_19 14
noncomputable def o3_19_15 : Oper := opN r3_19 15
theorem x3_65 : execA E C (fg 3) B 249 E0 N c3_65 s = regX (runA E C B 249 r3_19 r3_19.toList s) (fun s => gcM E0 [19, 20, 151, 152, 153, 154, 155, 156, 157, 158, 159, 160, 161, 162, 163, 164, 165] (forget s.1 [19, 20, 151, 152, 153, 154, 155, 156, 157, 158, 159, 160, 161, 162, 163, 164, 165], s.2)) := x_reg (ops := r3_19) (by rfl) (by rfl) s
theorem r3_19_l : r3_19.toList = [o3_19_0, o3_19_1, o3_19_2, o3_19_3, o3_19_4, o3_19_5, o3_19_6, o3_19_7, o3_19_8, o3_19_9, o3_19_10, o3_19_11, o3_19_12, o3_19_13, o3_19_14, o3_19_15] := nrfl rfl
theorem s3_19_0 : stepA E C B 249 r3_19 o3_19_0 (φ, H) = some (fput φ 151 (fget φ 20), H) := nrfl rfl
theorem s3_19_1 : stepA E C B 249 r3_19 o3_19_1 (φ, H) = stp (some 152) φ H (just (aLoad E.T 27 (fget φ 5))) := nrfl rfl
theorem s3_19_2 : stepA E C B 249 r3_19 o3_19_2 (φ, H) = some (fput φ 153 (fget φ 19), H) := nrfl rfl
theorem s3_19_3 : stepA E C B 249 r3_19 o3_19_3 (φ, H) = stp (some 154) φ H (just (aIndexAddr E.T 27 (fget φ 152) (fget φ 153))) := nrfl rfl
theorem s3_19_4 : stepA E C B 249 r3_19 o3_19_4 (φ, H) = stp (some 155) φ H (just (aFieldAddr E.T 44 (fget φ 154) 2)) := nrfl rfl
theorem s3_19_5 : stepA E C B 249 r3_19 o3_19_5 (φ, H) = stp (some 156) φ H (just (aLoad E.T 3 (fget φ 155))) := nrfl rfl
theorem s3_19_6 : stepA E C B 249 r3_19 o3_19_6 (φ, H) = stp (some 157) φ H (just (aBin E.T .neq 3 (fget φ 151) (fget φ 156))) := nrfl rfl
theorem s3_19_7 : stepA E C B 249 r3_19 o3_19_7 (φ, H) = some (fput φ 158 (fget φ 157), H) := nrfl rfl
theorem s3_19_8 : stepA E C B 249 r3_19 o3_19_8 (φ, H) = gd φ 158 true (fun φ => some (fput φ 159 (.tup []), H)) (fun φ => some (fput φ 159 (fget φ 20), H)) := s_gd (j := 7) (oj := o3_19_7) rfl rfl rfl (fun _ => rfl) (fun _ => rfl)
theorem s3_19_9 : stepA E C B 249 r3_19 o3_19_9 (φ, H) = gd φ 158 true (fun φ => some (fput φ 160 (.tup []), H)) (fun φ => stp (some 160) φ H (just (aLoad E.T 27 (fget φ 5)))) := s_gd (j := 7) (oj := o3_19_7) rfl rfl rfl (fun _ => rfl) (fun _ => rfl)
theorem s3_19_10 : stepA E C B 249 r3_19 o3_19_10 (φ, H) = gd φ 158 true (fun φ => some (fput φ 161 (.tup []), H)) (fun φ => some (fput φ 161 (fget φ 19), H)) := s_gd (j := 7) (oj := o3_19_7) rfl rfl rfl (fun _ => rfl) (fun _ => rfl)
theorem s3_19_11 : stepA E C B 249 r3_19 o3_19_11 (φ, H) = gd φ 158 true (fun φ => some (fput φ 162 (.tup []), H)) (fun φ => stp (some 162) φ H (just (aIndexAddr E.T 27 (fget φ 160) (fget φ 161)))) := s_gd (j := 7) (oj := o3_19_7) rfl rfl rfl (fun _ => rfl) (fun _ => rfl)
theorem s3_19_12 : stepA E C B 249 r3_19 o3_19_12 (φ, H) = gd φ 158 true (fun φ => some (fput φ 163 (.tup []), H)) (fun φ => stp (some 163) φ H (just (aFieldAddr E.T 44 (fget φ 162) 3))) := s_gd (j := 7) (oj := o3_19_7) rfl rfl rfl (fun _ => rfl) (fun _ => rfl)
theorem s3_19_13 : stepA E C B 249 r3_19 o3_19_13 (φ, H) = gd φ 158 true (fun φ => some (fput φ 164 (.tup []), H)) (fun φ => stp (some 164) φ H (just (aLoad E.T 3 (fget φ 163)))) := s_gd (j := 7) (oj := o3_19_7) rfl rfl rfl (fun _ => rfl) (fun _ => rfl)
theorem s3_19_14 : stepA E C B 249 r3_19 o3_19_14 (φ, H) = gd φ 158 true (fun φ => some (fput φ 165 (.tup []), H)) (fun φ => stp (some 165) φ H (just (aBin E.T .neq 3 (fget φ 159) (fget φ 164)))) := s_gd (j := 7) (oj := o3_19_7) rfl rfl rfl (fun _ => rfl) (fun _ => rfl)
theorem s3_19_15 : stepA E C B 249 r3_19 o3_19_15 (φ, H) = stp (some 166) φ H (opPick (fget φ 158) (fget φ 165) (.bool false)) := nrfl rfl
noncomputable def c3_66 : Code := kR c3_64
noncomputable def c3_67 : Code := kT c3_66
noncomputable def c3_68 : Code := kL c3_67
noncomputable def r3_20 : Array Oper := kO c3_68
noncomputable def o3_20_0 : Oper := opN r3_20 0
theorem x3_68 : execA E C (fg 3) B 249 E0 N c3_68 s = regX (runA E C B 249 r3_20 r3_20.toList s) (fun s => gcM E0 [5, 6, 11, 12, 13, 14, 15, 86, 87, 144, 145, 146, 166] (forget s.1 [5, 6, 11, 12, 13, 14, 15, 86, 87, 144, 145, 146, 166], s.2)) := x_reg (ops := r3_20) (by rfl) (by rfl) s
theorem r3_20_l : r3_20.toList = [o3_20_0] := nrfl rfl
theorem s3_20_0 : stepA E C B 249 r3_20 o3_20_0 (φ, H) = some (fput φ 4 (.bool false), H) := nrfl rfl
noncomputable def c3_69 : Code := kR c3_67
theorem x3_69 : execA E C (fg 3) B 249 E0 N c3_69 s = some (.ret, s) := x_ret (by rfl) s
theorem x3_67 : execA E C (fg 3) B 249 E0 N c3_67 s = seqX (execA E C (fg 3) B 249 E0 N c3_68 s) (execA E C (fg 3) B 249 E0 N c3_69) := x_seq (by rfl) s
noncomputable def c3_70 : Code := kE c3_66
theorem x3_70 : execA E C (fg 3) B 249 E0 N c3_70 s = some (.normal, s) := x_skip (by rfl) s
theorem x3_66 : execA E C (fg 3) B 249 E0 N c3_66 (φ, H) = condX (fget φ 166) (execA E C (fg 3) B 249 E0 N c3_67 (φ, H)) (execA E C (fg 3) B 249 E0 N c3_70 (φ, H)) := x_cond (by rfl) _
theorem x3_64 : execA E C (fg 3) B 249 E0 N c3_64 s = seqX (execA E C (fg 3) B 249 E0 N c3_65 s) (execA E C (fg 3) B 249 E0 N c3_66) := x_seq (by rfl) s
theorem x3_62 : execA E C (fg 3) B 249 E0 N c3_62 s = seqX (execA E C (fg 3) B 249 E0 N c3_63 s) (execA E C (fg 3) B 249 E0 N c3_64) := x_seq (by rfl) s
theorem x3_61 : execA E C (fg 3) B 249 E0 N c3_61 s = blockX 3 (fun s => (forget s.1 [166], s.2)) (execA E C (fg 3) B 249 E0 N c3_62 s) := x_block (by rfl) (by rfl) s
noncomputable def c3_71 : Code := kR c3_60
noncomputable def r3_21 : Array Oper := kO c3_71
noncomputable def o3_21_0 : Oper := opN r3_21 0
noncomputable def o3_21_1 : Oper := opN r3_21 1
theorem x3_71 : execA E C (fg 3) B 249 E0 N c3_71 s = regX (runA E C B 249 r3_21 r3_21.toList s) (fun s => gcM E0 [167] (forget s.1 [167], s.2)) := x_reg (ops := r3_21) (by rfl) (by rfl) s
theorem r3_21_l : r3_21.toList = [o3_21_0, o3_21_1] := nrfl rfl
theorem s3_21_0 : stepA E C B 249 r3_21 o3_21_0 (φ, H) = stp (some 167) φ H (just (aBin E.T .add 3 (fget φ 146) (.int .i64 1))) := nrfl rfl
theorem s3_21_1 : stepA E C B 249 r3_21 o3_21_1 (φ, H) = some (fput φ 146 (fget φ 167), H) := nrfl rfl
theorem x3_60 : execA E C (fg 3) B 249 E0 N c3_60 s = seqX (execA E C (fg 3) B 249 E0 N c3_61 s) (execA E C (fg 3) B 249 E0 N c3_71) := x_seq (by rfl) s
theorem x3_56 : execA E C (fg 3) B 249 E0 N c3_56 s = seqX (execA E C (fg 3) B 249 E0 N c3_57 s) (execA E C (fg 3) B 249 E0 N c3_60) := x_seq (by rfl) s
theorem x3_54 : execA E C (fg 3) B 249 E0 N c3_54 s = seqX (execA E C (fg 3) B 249 E0 N c3_55 s) (execA E C (fg 3) B 249 E0 N c3_56) := x_seq (by rfl) s
-- a loop of f3: x3_53; body c3_54; slots [146, 145, 144, 87, 86, 15, 14, 13, 12, 11, 6, 5]
theorem x3_53 : execA E C (fg 3) B 249 E0 N c3_53 s = iterA (execA E C (fg 3) B 249 E0 N c3_54) (headA E0) N s := x_loop (by rfl) s
theorem x3_52 : execA E C (fg 3) B 249 E0 N c3_52 s = blockX 2 (fun s => (forget s.1 [144, 145, 146, 147], s.2)) (execA E C (fg 3) B 249 E0 N c3_53 s) := x_block (by rfl) (by rfl) s
theorem x3_50 : execA E C (fg 3) B 249 E0 N c3_50 s = seqX (execA E C (fg 3) B 249 E0 N c3_51 s) (execA E C (fg 3) B 249 E0 N c3_52) := x_seq (by rfl) s
noncomputable def c3_72 : Code := kR c3_49
noncomputable def c3_73 : Code := kL c3_72
noncomputable def r3_22 : Array Oper := kO c3_73
noncomputable def o3_22_0 : Oper := opN r3_22 0
noncomputable def o3_22_1 : Oper := opN r3_22 1
noncomputable def o3_22_2 : Oper := opN r3_22 2
noncomputable def o3_22_3 : Oper := opN r3_22 3
noncomputable def o3_22_4 : Oper := opN r3_22 4
noncomputable def o3_22_5 : Oper := opN r3_22 5
noncomputable def o3_22_6 : Oper := opN r3_22 6
noncomputable def o3_22_7 : Oper := opN r3_22 7
noncomputable def o3_22_8 : Oper := opN r3_22 8
noncomputable def o3_22_9 : Oper := opN r3_22 9
theorem x3_73 : execA E C (fg 3) B 249 E0 N c3_73 s = regX (runA E C B 249 r3_22 r3_22.toList s) (fun s => gcM E0 [15, 22, 168, 169, 170, 171, 172, 173, 174] (forget s.1 [15, 22, 168, 169, 170, 171, 172, 173, 174], s.2)) := x_reg (ops := r3_22) (by rfl) (by rfl) s
theorem r3_22_l : r3_22.toList = [o3_22_0, o3_22_1, o3_22_2, o3_22_3, o3_22_4, o3_22_5, o3_22_6, o3_22_7, o3_22_8, o3_22_9] := nrfl rfl
theorem s3_22_0 : stepA E C B 249 r3_22 o3_22_0 (φ, H) = stp (some 169) φ H (just (aLoad E.T 27 (fget φ 5))) := nrfl rfl
theorem s3_22_1 : stepA E C B 249 r3_22 o3_22_1 (φ, H) = some (fput φ 170 (fget φ 15), H) := nrfl rfl
theorem s3_22_2 : stepA E C B 249 r3_22 o3_22_2 (φ, H) = stp (some 171) φ H (just (aLoad E.T 3 (fget φ 12))) := nrfl rfl
theorem s3_22_3 : stepA E C B 249 r3_22 o3_22_3 (φ, H) = stp (some 172) φ H (aCall C (fun j => B + j * 249 + 172) true 13 [(fget φ 169), (fget φ 170), (fget φ 171)]) := nrfl rfl
theorem s3_22_4 : stepA E C B 249 r3_22 o3_22_4 (φ, H) = some (fput φ 168 (fget φ 172), H) := nrfl rfl
theorem s3_22_5 : stepA E C B 249 r3_22 o3_22_5 (φ, H) = stp (some 173) φ H (opExtract (fget φ 168) 0) := nrfl rfl
theorem s3_22_6 : stepA E C B 249 r3_22 o3_22_6 (φ, H) = stp (some 174) φ H (opExtract (fget φ 168) 1) := nrfl rfl
theorem s3_22_7 : stepA E C B 249 r3_22 o3_22_7 (φ, H) = stp (some 21) φ H (opBox (B + 21) (zeroCells E.T 3)) := nrfl rfl
theorem s3_22_8 : stepA E C B 249 r3_22 o3_22_8 (φ, H) = stp none φ H (opStore E.T 3 (fget φ 21) (fget φ 173)) := nrfl rfl
theorem s3_22_9 : stepA E C B 249 r3_22 o3_22_9 (φ, H) = some (fput φ 22 (fget φ 174), H) := nrfl rfl
noncomputable def c3_74 : Code := kR c3_72
noncomputable def c3_75 : Code := kL c3_74
noncomputable def r3_23 : Array Oper := kO c3_75
noncomputable def o3_23_0 : Oper := opN r3_23 0
noncomputable def o3_23_1 : Oper := opN r3_23 1
noncomputable def o3_23_2 : Oper := opN r3_23 2
theorem x3_75 : execA E C (fg 3) B 249 E0 N c3_75 s = regX (runA E C B 249 r3_23 r3_23.toList s) (fun s => gcM E0 [175, 176, 177] (forget s.1 [175, 176, 177], s.2)) := x_reg (ops := r3_23) (by rfl) (by rfl) s
theorem r3_23_l : r3_23.toList = [o3_23_0, o3_23_1, o3_23_2] := nrfl rfl
theorem s3_23_0 : stepA E C B 249 r3_23 o3_23_0 (φ, H) = stp (some 175) φ H (just (aLoad E.T 27 (fget φ 5))) := nrfl rfl
theorem s3_23_1 : stepA E C B 249 r3_23 o3_23_1 (φ, H) = stp (some 176) φ H (.pure (.clo 17 [(fget φ 5), (fget φ 12), (fget φ 21)], [])) := nrfl rfl
theorem s3_23_2 : stepA E C B 249 r3_23 o3_23_2 (φ, H) = mutX (some 177) φ (C 16 [(fget φ 175), (fget φ 176)] H (B + 249 * 8)) := nrfl rfl
noncomputable def c3_76 : Code := kR c3_74
noncomputable def c3_77 : Code := kL c3_76
noncomputable def c3_78 : Code := kL c3_77
noncomputable def r3_24 : Array Oper := kO c3_78
noncomputable def o3_24_0 : Oper := opN r3_24 0
noncomputable def o3_24_1 : Oper := opN r3_24 1
noncomputable def o3_24_2 : Oper := opN r3_24 2
noncomputable def o3_24_3 : Oper := opN r3_24 3
noncomputable def o3_24_4 : Oper := opN r3_24 4
noncomputable def o3_24_5 : Oper := opN r3_24 5
noncomputable def o3_24_6 : Oper := opN r3_24 6
theorem x3_78 : execA E C (fg 3) B 249 E0 N c3_78 s = regX (runA E C B 249 r3_24 r3_24.toList s) (fun s => gcM E0 [21, 178, 179, 180, 181, 182, 183] (forget s.1 [21, 178, 179, 180, 181, 182, 183], s.2)) := x_reg (ops := r3_24) (by rfl) (by rfl) s
theorem r3_24_l : r3_24.toList = [o3_24_0, o3_24_1, o3_24_2, o3_24_3, o3_24_4, o3_24_5, o3_24_6] := nrfl rfl
theorem s3_24_0 : stepA E C B 249 r3_24 o3_24_0 (φ, H) = stp (some 178) φ H (just (aLoad E.T 3 (fget φ 21))) := nrfl rfl
theorem s3_24_1 : stepA E C B 249 r3_24 o3_24_1 (φ, H) = stp (some 179) φ H (just (aBin E.T .geq 3 (fget φ 178) (.int .i64 1099511627776))) := nrfl rfl
theorem s3_24_2 : stepA E C B 249 r3_24 o3_24_2 (φ, H) = some (fput φ 180 (fget φ 179), H) := nrfl rfl
theorem s3_24_3 : stepA E C B 249 r3_24 o3_24_3 (φ, H) = gd φ 180 false (fun φ => some (fput φ 181 (.tup []), H)) (fun φ => some (fput φ 181 (fget φ 13), H)) := s_gd (j := 2) (oj := o3_24_2) rfl rfl rfl (fun _ => rfl) (fun _ => rfl)
theorem s3_24_4 : stepA E C B 249 r3_24 o3_24_4 (φ, H) = gd φ 180 false (fun φ => some (fput φ 182 (.tup []), H)) (fun φ => stp (some 182) φ H (just (aLoad E.T 3 (fget φ 21)))) := s_gd (j := 2) (oj := o3_24_2) rfl rfl rfl (fun _ => rfl) (fun _ => rfl)
theorem s3_24_5 : stepA E C B 249 r3_24 o3_24_5 (φ, H) = gd φ 180 false (fun φ => some (fput φ 183 (.tup []), H)) (fun φ => stp (some 183) φ H (just (aBin E.T .gtr 3 (fget φ 181) (fget φ 182)))) := s_gd (j := 2) (oj := o3_24_2) rfl rfl rfl (fun _ => rfl) (fun _ => rfl)
theorem s3_24_6 : stepA E C B 249 r3_24 o3_24_6 (φ, H) = stp (some 184) φ H (opPick (fget φ 180) (.bool true) (fget φ 183)) := nrfl rfl
noncomputable def c3_79 : Code := kR c3_77
noncomputable def c3_80 : Code := kT c3_79
noncomputable def c3_81 : Code := kL c3_80
noncomputable def r3_25 : Array Oper := kO c3_81
noncomputable def o3_25_0 : Oper := opN r3_25 0
theorem x3_81 : execA E C (fg 3) B 249 E0 N c3_81 s = regX (runA E C B 249 r3_25 r3_25.toList s) (fun s => gcM E0 [5, 6, 11, 12, 13, 14, 86, 87, 184] (forget s.1 [5, 6, 11, 12, 13, 14, 86, 87, 184], s.2)) := x_reg (ops := r3_25) (by rfl) (by rfl) s
theorem r3_25_l : r3_25.toList = [o3_25_0] := nrfl rfl
theorem s3_25_0 : stepA E C B 249 r3_25 o3_25_0 (φ, H) = some (fput φ 4 (.bool false), H) := nrfl rfl
noncomputable def c3_82 : Code := kR c3_80
theorem x3_82 : execA E C (fg 3) B 249 E0 N c3_82 s = some (.ret, s) := x_ret (by rfl) s
theorem x3_80 : execA E C (fg 3) B 249 E0 N c3_80 s = seqX (execA E C (fg 3) B 249 E0 N c3_81 s) (execA E C (fg 3) B 249 E0 N c3_82) := x_seq (by rfl) s
noncomputable def c3_83 : Code := kE c3_79
theorem x3_83 : execA E C (fg 3) B 249 E0 N c3_83 s = some (.normal, s) := x_skip (by rfl) s
theorem x3_79 : execA E C (fg 3) B 249 E0 N c3_79 (φ, H) = condX (fget φ 184) (execA E C (fg 3) B 249 E0 N c3_80 (φ, H)) (execA E C (fg 3) B 249 E0 N c3_83 (φ, H)) := x_cond (by rfl) _
theorem x3_77 : execA E C (fg 3) B 249 E0 N c3_77 s = seqX (execA E C (fg 3) B 249 E0 N c3_78 s) (execA E C (fg 3) B 249 E0 N c3_79) := x_seq (by rfl) s
noncomputable def c3_84 : Code := kR c3_76
noncomputable def c3_85 : Code := kL c3_84
noncomputable def c3_86 : Code := kL c3_85
noncomputable def r3_26 : Array Oper := kO c3_86
noncomputable def o3_26_0 : Oper := opN r3_26 0
noncomputable def o3_26_1 : Oper := opN r3_26 1
theorem x3_86 : execA E C (fg 3) B 249 E0 N c3_86 s = regX (runA E C B 249 r3_26 r3_26.toList s) (fun s => gcM E0 [184, 185] (forget s.1 [184, 185], s.2)) := x_reg (ops := r3_26) (by rfl) (by rfl) s
theorem r3_26_l : r3_26.toList = [o3_26_0, o3_26_1] := nrfl rfl
theorem s3_26_0 : stepA E C B 249 r3_26 o3_26_0 (φ, H) = stp (some 185) φ H (just (aLoad E.T 3 (fget φ 12))) := nrfl rfl
theorem s3_26_1 : stepA E C B 249 r3_26 o3_26_1 (φ, H) = stp (some 186) φ H (just (aBin E.T .gtr 3 (fget φ 185) (.int .i64 0))) := nrfl rfl
noncomputable def c3_87 : Code := kR c3_85
noncomputable def c3_88 : Code := kT c3_87
noncomputable def c3_89 : Code := kL c3_88
noncomputable def r3_27 : Array Oper := kO c3_89
noncomputable def o3_27_0 : Oper := opN r3_27 0
noncomputable def o3_27_1 : Oper := opN r3_27 1
noncomputable def o3_27_2 : Oper := opN r3_27 2
noncomputable def o3_27_3 : Oper := opN r3_27 3
noncomputable def o3_27_4 : Oper := opN r3_27 4
noncomputable def o3_27_5 : Oper := opN r3_27 5
noncomputable def o3_27_6 : Oper := opN r3_27 6
noncomputable def o3_27_7 : Oper := opN r3_27 7
theorem x3_89 : execA E C (fg 3) B 249 E0 N c3_89 s = regX (runA E C B 249 r3_27 r3_27.toList s) (fun s => gcM E0 [186, 187, 188, 189, 190, 191, 192] (forget s.1 [186, 187, 188, 189, 190, 191, 192], s.2)) := x_reg (ops := r3_27) (by rfl) (by rfl) s
theorem r3_27_l : r3_27.toList = [o3_27_0, o3_27_1, o3_27_2, o3_27_3, o3_27_4, o3_27_5, o3_27_6, o3_27_7] := nrfl rfl
theorem s3_27_0 : stepA E C B 249 r3_27 o3_27_0 (φ, H) = stp (some 188) φ H (just (aLoad E.T 27 (fget φ 5))) := nrfl rfl
theorem s3_27_1 : stepA E C B 249 r3_27 o3_27_1 (φ, H) = stp (some 189) φ H (just (aLoad E.T 3 (fget φ 12))) := nrfl rfl
theorem s3_27_2 : stepA E C B 249 r3_27 o3_27_2 (φ, H) = stp (some 190) φ H (aCall C (fun j => B + j * 249 + 190) true 14 [(fget φ 188), (fget φ 189), (.int .i64 (-1))]) := nrfl rfl
theorem s3_27_3 : stepA E C B 249 r3_27 o3_27_3 (φ, H) = some (fput φ 187 (fget φ 190), H) := nrfl rfl
theorem s3_27_4 : stepA E C B 249 r3_27 o3_27_4 (φ, H) = stp (some 191) φ H (opExtract (fget φ 187) 0) := nrfl rfl
theorem s3_27_5 : stepA E C B 249 r3_27 o3_27_5 (φ, H) = stp (some 192) φ H (opExtract (fget φ 187) 1) := nrfl rfl
theorem s3_27_6 : stepA E C B 249 r3_27 o3_27_6 (φ, H) = some (fput φ 23 (fget φ 191), H) := nrfl rfl
theorem s3_27_7 : stepA E C B 249 r3_27 o3_27_7 (φ, H) = some (fput φ 24 (fget φ 192), H) := nrfl rfl
noncomputable def c3_90 : Code := kR c3_88
noncomputable def c3_91 : Code := kL c3_90
noncomputable def r3_28 : Array Oper := kO c3_91
noncomputable def o3_28_0 : Oper := opN r3_28 0
noncomputable def o3_28_1 : Oper := opN r3_28 1
noncomputable def o3_28_2 : Oper := opN r3_28 2
noncomputable def o3_28_3 : Oper := opN r3_28 3
noncomputable def o3_28_4 : Oper := opN r3_28 4
noncomputable def o3_28_5 : Oper := opN r3_28 5
noncomputable def o3_28_6 : Oper := opN r3_28 6
noncomputable def o3_28_7 : Oper := opN r3_28 7
noncomputable def o3_28_8 : Oper := opN r3_28 8
theorem x3_91 : execA E C (fg 3) B 249 E0 N c3_91 s = regX (runA E C B 249 r3_28 r3_28.toList s) (fun s => gcM E0 [193, 194, 195, 196, 197, 198, 199] (forget s.1 [193, 194, 195, 196, 197, 198, 199], s.2)) := x_reg (ops := r3_28) (by rfl) (by rfl) s
theorem r3_28_l : r3_28.toList = [o3_28_0, o3_28_1, o3_28_2, o3_28_3, o3_28_4, o3_28_5, o3_28_6, o3_28_7, o3_28_8] := nrfl rfl
theorem s3_28_0 : stepA E C B 249 r3_28 o3_28_0 (φ, H) = stp (some 194) φ H (just (aLoad E.T 27 (fget φ 5))) := nrfl rfl
theorem s3_28_1 : stepA E C B 249 r3_28 o3_28_1 (φ, H) = some (fput φ 195 (fget φ 11), H) := nrfl rfl
theorem s3_28_2 : stepA E C B 249 r3_28 o3_28_2 (φ, H) = stp (some 196) φ H (just (aLoad E.T 3 (fget φ 12))) := nrfl rfl
theorem s3_28_3 : stepA E C B 249 r3_28 o3_28_3 (φ, H) = stp (some 197) φ H (aCall C (fun j => B + j * 249 + 197) true 15 [(fget φ 194), (fget φ 195), (fget φ 196), (.int .i64 (-1))]) := nrfl rfl
theorem s3_28_4 : stepA E C B 249 r3_28 o3_28_4 (φ, H) = some (fput φ 193 (fget φ 197), H) := nrfl rfl
theorem s3_28_5 : stepA E C B 249 r3_28 o3_28_5 (φ, H) = stp (some 198) φ H (opExtract (fget φ 193) 0) := nrfl rfl
theorem s3_28_6 : stepA E C B 249 r3_28 o3_28_6 (φ, H) = stp (some 199) φ H (opExtract (fget φ 193) 1) := nrfl rfl
theorem s3_28_7 : stepA E C B 249 r3_28 o3_28_7 (φ, H) = some (fput φ 25 (fget φ 198), H) := nrfl rfl
theorem s3_28_8 : stepA E C B 249 r3_28 o3_28_8 (φ, H) = some (fput φ 26 (fget φ 199), H) := nrfl rfl
noncomputable def c3_92 : Code := kR c3_90
noncomputable def c3_93 : Code := kL c3_92
noncomputable def c3_94 : Code := kL c3_93
noncomputable def r3_29 : Array Oper := kO c3_94
noncomputable def o3_29_0 : Oper := opN r3_29 0
noncomputable def o3_29_1 : Oper := opN r3_29 1
noncomputable def o3_29_2 : Oper := opN r3_29 2
noncomputable def o3_29_3 : Oper := opN r3_29 3
noncomputable def o3_29_4 : Oper := opN r3_29 4
noncomputable def o3_29_5 : Oper := opN r3_29 5
noncomputable def o3_29_6 : Oper := opN r3_29 6
noncomputable def o3_29_7 : Oper := opN r3_29 7
noncomputable def o3_29_8 : Oper := opN r3_29 8
noncomputable def o3_29_9 : Oper := opN r3_29 9
noncomputable def o3_29_10 : Oper := opN r3_29 10
noncomputable def o3_29_11 : Oper := opN r3_29 11
noncomputable def o3_29_12 : Oper := opN r3_29 12
noncomputable def o3_29_13 : Oper := opN r3_29 13
noncomputable def o3_29_14 : Oper := opN r3_29 14
noncomputable def o3_29_15 : Oper := opN r3_29 15
noncomputable def o3_29_16 : Oper := opN r3_29 16
noncomputable def o3_29_17 : Oper := opN r3_29 17
theorem x3_94 : execA E C (fg 3) B 249 E0 N c3_94 s = regX (runA E C B 249 r3_29 r3_29.toList s) (fun s => gcM E0 [24, 25, 26, 200, 201, 202, 203, 204, 205, 206, 207, 208, 209, 210, 211, 212, 213, 214, 215, 216] (forget s.1 [24, 25, 26, 200, 201, 202, 203, 204, 205, 206, 207, 208, 209, 210, 211, 212, 213, 214, 215, 216], s.2)) := x_reg (ops := r3_29) (by rfl) (by rfl) s
theorem r3_29_l : r3_29.toList = [o3_29_0, o3_29_1, o3_29_2, o3_29_3, o3_29_4, o3_29_5, o3_29_6, o3_29_7, o3_29_8, o3_29_9, o3_29_10, o3_29_11, o3_29_12, o3_29_13, o3_29_14, o3_29_15, o3_29_16, o3_29_17] := nrfl rfl
theorem s3_29_0 : stepA E C B 249 r3_29 o3_29_0 (φ, H) = some (fput φ 200 (fget φ 24), H) := nrfl rfl
theorem s3_29_1 : stepA E C B 249 r3_29 o3_29_1 (φ, H) = stp (some 201) φ H (just (aBin E.T .neq 30 (fget φ 200) (.int .i64 0))) := nrfl rfl
theorem s3_29_2 : stepA E C B 249 r3_29 o3_29_2 (φ, H) = some (fput φ 202 (fget φ 201), H) := nrfl rfl
theorem s3_29_3 : stepA E C B 249 r3_29 o3_29_3 (φ, H) = gd φ 202 false (fun φ => some (fput φ 203 (.tup []), H)) (fun φ => some (fput φ 203 (fget φ 26), H)) := s_gd (j := 2) (oj := o3_29_2) rfl rfl rfl (fun _ => rfl) (fun _ => rfl)
theorem s3_29_4 : stepA E C B 249 r3_29 o3_29_4 (φ, H) = gd φ 202 false (fun φ => some (fput φ 204 (.tup []), H)) (fun φ => stp (some 204) φ H (just (aBin E.T .neq 30 (fget φ 203) (.int .i64 0)))) := s_gd (j := 2) (oj := o3_29_2) rfl rfl rfl (fun _ => rfl) (fun _ => rfl)
theorem s3_29_5 : stepA E C B 249 r3_29 o3_29_5 (φ, H) = stp (some 205) φ H (opPick (fget φ 202) (.bool true) (fget φ 204)) := nrfl rfl
theorem s3_29_6 : stepA E C B 249 r3_29 o3_29_6 (φ, H) = some (fput φ 206 (fget φ 205), H) := nrfl rfl
theorem s3_29_7 : stepA E C B 249 r3_29 o3_29_7 (φ, H) = gd φ 206 false (fun φ => some (fput φ 207 (.tup []), H)) (fun φ => some (fput φ 207 (fget φ 23), H)) := s_gd (j := 6) (oj := o3_29_6) rfl rfl rfl (fun _ => rfl) (fun _ => rfl)
theorem s3_29_8 : stepA E C B 249 r3_29 o3_29_8 (φ, H) = gd φ 206 false (fun φ => some (fput φ 208 (.tup []), H)) (fun φ => stp (some 208) φ H (aBuiltin E.T (B + 208) .len #[36] [(fget φ 207)])) := s_gd (j := 6) (oj := o3_29_6) rfl rfl rfl (fun _ => rfl) (fun _ => rfl)
theorem s3_29_9 : stepA E C B 249 r3_29 o3_29_9 (φ, H) = gd φ 206 false (fun φ => some (fput φ 209 (.tup []), H)) (fun φ => stp (some 209) φ H (just (aLoad E.T 27 (fget φ 5)))) := s_gd (j := 6) (oj := o3_29_6) rfl rfl rfl (fun _ => rfl) (fun _ => rfl)
theorem s3_29_10 : stepA E C B 249 r3_29 o3_29_10 (φ, H) = gd φ 206 false (fun φ => some (fput φ 210 (.tup []), H)) (fun φ => stp (some 210) φ H (aBuiltin E.T (B + 210) .len #[27] [(fget φ 209)])) := s_gd (j := 6) (oj := o3_29_6) rfl rfl rfl (fun _ => rfl) (fun _ => rfl)
theorem s3_29_11 : stepA E C B 249 r3_29 o3_29_11 (φ, H) = gd φ 206 false (fun φ => some (fput φ 211 (.tup []), H)) (fun φ => stp (some 211) φ H (just (aBin E.T .neq 3 (fget φ 208) (fget φ 210)))) := s_gd (j := 6) (oj := o3_29_6) rfl rfl rfl (fun _ => rfl) (fun _ => rfl)
theorem s3_29_12 : stepA E C B 249 r3_29 o3_29_12 (φ, H) = stp (some 212) φ H (opPick (fget φ 206) (.bool true) (fget φ 211)) := nrfl rfl
theorem s3_29_13 : stepA E C B 249 r3_29 o3_29_13 (φ, H) = some (fput φ 213 (fget φ 212), H) := nrfl rfl
theorem s3_29_14 : stepA E C B 249 r3_29 o3_29_14 (φ, H) = gd φ 213 false (fun φ => some (fput φ 214 (.tup []), H)) (fun φ => some (fput φ 214 (fget φ 25), H)) := s_gd (j := 13) (oj := o3_29_13) rfl rfl rfl (fun _ => rfl) (fun _ => rfl)
theorem s3_29_15 : stepA E C B 249 r3_29 o3_29_15 (φ, H) = gd φ 213 false (fun φ => some (fput φ 215 (.tup []), H)) (fun φ => some (fput φ 215 (fget φ 14), H)) := s_gd (j := 13) (oj := o3_29_13) rfl rfl rfl (fun _ => rfl) (fun _ => rfl)
theorem s3_29_16 : stepA E C B 249 r3_29 o3_29_16 (φ, H) = gd φ 213 false (fun φ => some (fput φ 216 (.tup []), H)) (fun φ => stp (some 216) φ H (just (aBin E.T .neq 3 (fget φ 214) (fget φ 215)))) := s_gd (j := 13) (oj := o3_29_13) rfl rfl rfl (fun _ => rfl) (fun _ => rfl)
theorem s3_29_17 : stepA E C B 249 r3_29 o3_29_17 (φ, H) = stp (some 217) φ H (opPick (fget φ 213) (.bool true) (fget φ 216)) := nrfl rfl
noncomputable def c3_95 : Code := kR c3_93
noncomputable def c3_96 : Code := kT c3_95
noncomputable def c3_97 : Code := kL c3_96
noncomputable def r3_30 : Array Oper := kO c3_97
noncomputable def o3_30_0 : Oper := opN r3_30 0
theorem x3_97 : execA E C (fg 3) B 249 E0 N c3_97 s = regX (runA E C B 249 r3_30 r3_30.toList s) (fun s => gcM E0 [5, 6, 11, 12, 13, 14, 23, 86, 87, 217] (forget s.1 [5, 6, 11, 12, 13, 14, 23, 86, 87, 217], s.2)) := x_reg (ops := r3_30) (by rfl) (by rfl) s
theorem r3_30_l : r3_30.toList = [o3_30_0] := nrfl rfl
theorem s3_30_0 : stepA E C B 249 r3_30 o3_30_0 (φ, H) = some (fput φ 4 (.bool false), H) := nrfl rfl
noncomputable def c3_98 : Code := kR c3_96
theorem x3_98 : execA E C (fg 3) B 249 E0 N c3_98 s = some (.ret, s) := x_ret (by rfl) s
theorem x3_96 : execA E C (fg 3) B 249 E0 N c3_96 s = seqX (execA E C (fg 3) B 249 E0 N c3_97 s) (execA E C (fg 3) B 249 E0 N c3_98) := x_seq (by rfl) s
noncomputable def c3_99 : Code := kE c3_95
theorem x3_99 : execA E C (fg 3) B 249 E0 N c3_99 s = some (.normal, s) := x_skip (by rfl) s
theorem x3_95 : execA E C (fg 3) B 249 E0 N c3_95 (φ, H) = condX (fget φ 217) (execA E C (fg 3) B 249 E0 N c3_96 (φ, H)) (execA E C (fg 3) B 249 E0 N c3_99 (φ, H)) := x_cond (by rfl) _
theorem x3_93 : execA E C (fg 3) B 249 E0 N c3_93 s = seqX (execA E C (fg 3) B 249 E0 N c3_94 s) (execA E C (fg 3) B 249 E0 N c3_95) := x_seq (by rfl) s
noncomputable def c3_100 : Code := kR c3_92
noncomputable def c3_101 : Code := kL c3_100
noncomputable def r3_31 : Array Oper := kO c3_101
noncomputable def o3_31_0 : Oper := opN r3_31 0
noncomputable def o3_31_1 : Oper := opN r3_31 1
noncomputable def o3_31_2 : Oper := opN r3_31 2
noncomputable def o3_31_3 : Oper := opN r3_31 3
noncomputable def o3_31_4 : Oper := opN r3_31 4
noncomputable def o3_31_5 : Oper := opN r3_31 5
noncomputable def o3_31_6 : Oper := opN r3_31 6
noncomputable def o3_31_7 : Oper := opN r3_31 7
noncomputable def o3_31_8 : Oper := opN r3_31 8
noncomputable def o3_31_9 : Oper := opN r3_31 9
theorem x3_101 : execA E C (fg 3) B 249 E0 N c3_101 s = regX (runA E C B 249 r3_31 r3_31.toList s) (fun s => gcM E0 [23, 27, 217, 218, 219, 220, 221, 222, 223, 224] (forget s.1 [23, 27, 217, 218, 219, 220, 221, 222, 223, 224], s.2)) := x_reg (ops := r3_31) (by rfl) (by rfl) s
theorem r3_31_l : r3_31.toList = [o3_31_0, o3_31_1, o3_31_2, o3_31_3, o3_31_4, o3_31_5, o3_31_6, o3_31_7, o3_31_8, o3_31_9] := nrfl rfl
theorem s3_31_0 : stepA E C B 249 r3_31 o3_31_0 (φ, H) = stp (some 219) φ H (just (aLoad E.T 27 (fget φ 5))) := nrfl rfl
theorem s3_31_1 : stepA E C B 249 r3_31 o3_31_1 (φ, H) = some (fput φ 220 (fget φ 23), H) := nrfl rfl
theorem s3_31_2 : stepA E C B 249 r3_31 o3_31_2 (φ, H) = stp (some 221) φ H (just (aLoad E.T 3 (fget φ 12))) := nrfl rfl
theorem s3_31_3 : stepA E C B 249 r3_31 o3_31_3 (φ, H) = stp (some 222) φ H (aCall C (fun j => B + j * 249 + 222) true 13 [(fget φ 219), (fget φ 220), (fget φ 221)]) := nrfl rfl
theorem s3_31_4 : stepA E C B 249 r3_31 o3_31_4 (φ, H) = some (fput φ 218 (fget φ 222), H) := nrfl rfl
theorem s3_31_5 : stepA E C B 249 r3_31 o3_31_5 (φ, H) = stp (some 223) φ H (opExtract (fget φ 218) 0) := nrfl rfl
theorem s3_31_6 : stepA E C B 249 r3_31 o3_31_6 (φ, H) = stp (some 224) φ H (opExtract (fget φ 218) 1) := nrfl rfl
theorem s3_31_7 : stepA E C B 249 r3_31 o3_31_7 (φ, H) = stp (some 28) φ H (opBox (B + 28) (zeroCells E.T 3)) := nrfl rfl
theorem s3_31_8 : stepA E C B 249 r3_31 o3_31_8 (φ, H) = some (fput φ 27 (fget φ 223), H) := nrfl rfl
theorem s3_31_9 : stepA E C B 249 r3_31 o3_31_9 (φ, H) = stp none φ H (opStore E.T 3 (fget φ 28) (fget φ 224)) := nrfl rfl
noncomputable def c3_102 : Code := kR c3_100
noncomputable def c3_103 : Code := kL c3_102
noncomputable def r3_32 : Array Oper := kO c3_103
noncomputable def o3_32_0 : Oper := opN r3_32 0
noncomputable def o3_32_1 : Oper := opN r3_32 1
noncomputable def o3_32_2 : Oper := opN r3_32 2
theorem x3_103 : execA E C (fg 3) B 249 E0 N c3_103 s = regX (runA E C B 249 r3_32 r3_32.toList s) (fun s => gcM E0 [225, 226, 227] (forget s.1 [225, 226, 227], s.2)) := x_reg (ops := r3_32) (by rfl) (by rfl) s
theorem r3_32_l : r3_32.toList = [o3_32_0, o3_32_1, o3_32_2] := nrfl rfl
theorem s3_32_0 : stepA E C B 249 r3_32 o3_32_0 (φ, H) = stp (some 225) φ H (just (aLoad E.T 27 (fget φ 5))) := nrfl rfl
theorem s3_32_1 : stepA E C B 249 r3_32 o3_32_1 (φ, H) = stp (some 226) φ H (.pure (.clo 18 [(fget φ 5), (fget φ 12), (fget φ 28)], [])) := nrfl rfl
theorem s3_32_2 : stepA E C B 249 r3_32 o3_32_2 (φ, H) = mutX (some 227) φ (C 16 [(fget φ 225), (fget φ 226)] H (B + 249 * 8)) := nrfl rfl
noncomputable def c3_104 : Code := kR c3_102
noncomputable def c3_105 : Code := kL c3_104
noncomputable def r3_33 : Array Oper := kO c3_105
noncomputable def o3_33_0 : Oper := opN r3_33 0
noncomputable def o3_33_1 : Oper := opN r3_33 1
noncomputable def o3_33_2 : Oper := opN r3_33 2
noncomputable def o3_33_3 : Oper := opN r3_33 3
noncomputable def o3_33_4 : Oper := opN r3_33 4
noncomputable def o3_33_5 : Oper := opN r3_33 5
noncomputable def o3_33_6 : Oper := opN r3_33 6
theorem x3_105 : execA E C (fg 3) B 249 E0 N c3_105 s = regX (runA E C B 249 r3_33 r3_33.toList s) (fun s => gcM E0 [28, 228, 229, 230, 231, 232, 233] (forget s.1 [28, 228, 229, 230, 231, 232, 233], s.2)) := x_reg (ops := r3_33) (by rfl) (by rfl) s
theorem r3_33_l : r3_33.toList = [o3_33_0, o3_33_1, o3_33_2, o3_33_3, o3_33_4, o3_33_5, o3_33_6] := nrfl rfl
theorem s3_33_0 : stepA E C B 249 r3_33 o3_33_0 (φ, H) = stp (some 228) φ H (just (aLoad E.T 3 (fget φ 28))) := nrfl rfl
theorem s3_33_1 : stepA E C B 249 r3_33 o3_33_1 (φ, H) = stp (some 229) φ H (just (aBin E.T .geq 3 (fget φ 228) (.int .i64 1099511627776))) := nrfl rfl
theorem s3_33_2 : stepA E C B 249 r3_33 o3_33_2 (φ, H) = some (fput φ 230 (fget φ 229), H) := nrfl rfl
theorem s3_33_3 : stepA E C B 249 r3_33 o3_33_3 (φ, H) = gd φ 230 false (fun φ => some (fput φ 231 (.tup []), H)) (fun φ => some (fput φ 231 (fget φ 14), H)) := s_gd (j := 2) (oj := o3_33_2) rfl rfl rfl (fun _ => rfl) (fun _ => rfl)
theorem s3_33_4 : stepA E C B 249 r3_33 o3_33_4 (φ, H) = gd φ 230 false (fun φ => some (fput φ 232 (.tup []), H)) (fun φ => stp (some 232) φ H (just (aLoad E.T 3 (fget φ 28)))) := s_gd (j := 2) (oj := o3_33_2) rfl rfl rfl (fun _ => rfl) (fun _ => rfl)
theorem s3_33_5 : stepA E C B 249 r3_33 o3_33_5 (φ, H) = gd φ 230 false (fun φ => some (fput φ 233 (.tup []), H)) (fun φ => stp (some 233) φ H (just (aBin E.T .gtr 3 (fget φ 231) (fget φ 232)))) := s_gd (j := 2) (oj := o3_33_2) rfl rfl rfl (fun _ => rfl) (fun _ => rfl)
theorem s3_33_6 : stepA E C B 249 r3_33 o3_33_6 (φ, H) = stp (some 234) φ H (opPick (fget φ 230) (.bool true) (fget φ 233)) := nrfl rfl
noncomputable def c3_106 : Code := kR c3_104
noncomputable def c3_107 : Code := kT c3_106
noncomputable def c3_108 : Code := kL c3_107
noncomputable def r3_34 : Array Oper := kO c3_108
noncomputable def o3_34_0 : Oper := opN r3_34 0
theorem x3_108 : execA E C (fg 3) B 249 E0 N c3_108 s = regX (runA E C B 249 r3_34 r3_34.toList s) (fun s => gcM E0 [5, 6, 11, 12, 13, 14, 86, 87, 234] (forget s.1 [5, 6, 11, 12, 13, 14, 86, 87, 234], s.2)) := x_reg (ops := r3_34) (by rfl) (by rfl) s
theorem r3_34_l : r3_34.toList = [o3_34_0] := nrfl rfl
theorem s3_34_0 : stepA E C B 249 r3_34 o3_34_0 (φ, H) = some (fput φ 4 (.bool false), H) := nrfl rfl
noncomputable def c3_109 : Code := kR c3_107
theorem x3_109 : execA E C (fg 3) B 249 E0 N c3_109 s = some (.ret, s) := x_ret (by rfl) s
theorem x3_107 : execA E C (fg 3) B 249 E0 N c3_107 s = seqX (execA E C (fg 3) B 249 E0 N c3_108 s) (execA E C (fg 3) B 249 E0 N c3_109) := x_seq (by rfl) s
noncomputable def c3_110 : Code := kE c3_106
theorem x3_110 : execA E C (fg 3) B 249 E0 N c3_110 s = some (.normal, s) := x_skip (by rfl) s
theorem x3_106 : execA E C (fg 3) B 249 E0 N c3_106 (φ, H) = condX (fget φ 234) (execA E C (fg 3) B 249 E0 N c3_107 (φ, H)) (execA E C (fg 3) B 249 E0 N c3_110 (φ, H)) := x_cond (by rfl) _
theorem x3_104 : execA E C (fg 3) B 249 E0 N c3_104 s = seqX (execA E C (fg 3) B 249 E0 N c3_105 s) (execA E C (fg 3) B 249 E0 N c3_106) := x_seq (by rfl) s
theorem x3_102 : execA E C (fg 3) B 249 E0 N c3_102 s = seqX (execA E C (fg 3) B 249 E0 N c3_103 s) (execA E C (fg 3) B 249 E0 N c3_104) := x_seq (by rfl) s
theorem x3_100 : execA E C (fg 3) B 249 E0 N c3_100 s = seqX (execA E C (fg 3) B 249 E0 N c3_101 s) (execA E C (fg 3) B 249 E0 N c3_102) := x_seq (by rfl) s
theorem x3_92 : execA E C (fg 3) B 249 E0 N c3_92 s = seqX (execA E C (fg 3) B 249 E0 N c3_93 s) (execA E C (fg 3) B 249 E0 N c3_100) := x_seq (by rfl) s
theorem x3_90 : execA E C (fg 3) B 249 E0 N c3_90 s = seqX (execA E C (fg 3) B 249 E0 N c3_91 s) (execA E C (fg 3) B 249 E0 N c3_92) := x_seq (by rfl) s
theorem x3_88 : execA E C (fg 3) B 249 E0 N c3_88 s = seqX (execA E C (fg 3) B 249 E0 N c3_89 s) (execA E C (fg 3) B 249 E0 N c3_90) := x_seq (by rfl) s
noncomputable def c3_111 : Code := kE c3_87
theorem x3_111 : execA E C (fg 3) B 249 E0 N c3_111 s = some (.normal, s) := x_skip (by rfl) s
theorem x3_87 : execA E C (fg 3) B 249 E0 N c3_87 (φ, H) = condX (fget φ 186) (execA E C (fg 3) B 249 E0 N c3_88 (φ, H)) (execA E C (fg 3) B 249 E0 N c3_111 (φ, H)) := x_cond (by rfl) _
theorem x3_85 : execA E C (fg 3) B 249 E0 N c3_85 s = seqX (execA E C (fg 3) B 249 E0 N c3_86 s) (execA E C (fg 3) B 249 E0 N c3_87) := x_seq (by rfl) s
noncomputable def c3_112 : Code := kR c3_84
noncomputable def c3_113 : Code := kL c3_112
noncomputable def r3_35 : Array Oper := kO c3_113
noncomputable def o3_35_0 : Oper := opN r3_35 0
theorem x3_113 : execA E C (fg 3) B 249 E0 N c3_113 s = regX (runA E C B 249 r3_35 r3_35.toList s) (fun s => gcM E0 [186, 234] (forget s.1 [186, 234], s.2)) := x_reg (ops := r3_35) (by rfl) (by rfl) s
theorem r3_35_l : r3_35.toList = [o3_35_0] := nrfl rfl
theorem s3_35_0 : stepA E C B 249 r3_35 o3_35_0 (φ, H) = some (fput φ 29 (.int .i64 14), H) := nrfl rfl
noncomputable def c3_114 : Code := kR c3_112
noncomputable def c3_115 : Code := kL c3_114
noncomputable def c3_116 : Code := kL c3_115
noncomputable def r3_36 : Array Oper := kO c3_116
noncomputable def o3_36_0 : Oper := opN r3_36 0
noncomputable def o3_36_1 : Oper := opN r3_36 1
noncomputable def o3_36_2 : Oper := opN r3_36 2
noncomputable def o3_36_3 : Oper := opN r3_36 3
noncomputable def o3_36_4 : Oper := opN r3_36 4
noncomputable def o3_36_5 : Oper := opN r3_36 5
theorem x3_116 : execA E C (fg 3) B 249 E0 N c3_116 s = regX (runA E C B 249 r3_36 r3_36.toList s) (fun s => gcM E0 [13, 14, 235, 236, 237, 238, 239] (forget s.1 [13, 14, 235, 236, 237, 238, 239], s.2)) := x_reg (ops := r3_36) (by rfl) (by rfl) s
theorem r3_36_l : r3_36.toList = [o3_36_0, o3_36_1, o3_36_2, o3_36_3, o3_36_4, o3_36_5] := nrfl rfl
theorem s3_36_0 : stepA E C B 249 r3_36 o3_36_0 (φ, H) = some (fput φ 235 (fget φ 13), H) := nrfl rfl
theorem s3_36_1 : stepA E C B 249 r3_36 o3_36_1 (φ, H) = stp (some 236) φ H (just (aBin E.T .gtr 3 (fget φ 235) (.int .i64 0))) := nrfl rfl
theorem s3_36_2 : stepA E C B 249 r3_36 o3_36_2 (φ, H) = some (fput φ 237 (fget φ 236), H) := nrfl rfl
theorem s3_36_3 : stepA E C B 249 r3_36 o3_36_3 (φ, H) = gd φ 237 false (fun φ => some (fput φ 238 (.tup []), H)) (fun φ => some (fput φ 238 (fget φ 14), H)) := s_gd (j := 2) (oj := o3_36_2) rfl rfl rfl (fun _ => rfl) (fun _ => rfl)
theorem s3_36_4 : stepA E C B 249 r3_36 o3_36_4 (φ, H) = gd φ 237 false (fun φ => some (fput φ 239 (.tup []), H)) (fun φ => stp (some 239) φ H (just (aBin E.T .gtr 3 (fget φ 238) (.int .i64 0)))) := s_gd (j := 2) (oj := o3_36_2) rfl rfl rfl (fun _ => rfl) (fun _ => rfl)
theorem s3_36_5 : stepA E C B 249 r3_36 o3_36_5 (φ, H) = stp (some 240) φ H (opPick (fget φ 237) (.bool true) (fget φ 239)) := nrfl rfl
noncomputable def c3_117 : Code := kR c3_115
noncomputable def c3_118 : Code := kT c3_117
noncomputable def r3_37 : Array Oper := kO c3_118
noncomputable def o3_37_0 : Oper := opN r3_37 0
theorem x3_118 : execA E C (fg 3) B 249 E0 N c3_118 s = regX (runA E C B 249 r3_37 r3_37.toList s) (fun s => gcM E0 [240] (forget s.1 [240], s.2)) := x_reg (ops := r3_37) (by rfl) (by rfl) s
theorem r3_37_l : r3_37.toList = [o3_37_0] := nrfl rfl
theorem s3_37_0 : stepA E C B 249 r3_37 o3_37_0 (φ, H) = some (fput φ 29 (.int .i64 0), H) := nrfl rfl
noncomputable def c3_119 : Code := kE c3_117
theorem x3_119 : execA E C (fg 3) B 249 E0 N c3_119 s = some (.normal, s) := x_skip (by rfl) s
theorem x3_117 : execA E C (fg 3) B 249 E0 N c3_117 (φ, H) = condX (fget φ 240) (execA E C (fg 3) B 249 E0 N c3_118 (φ, H)) (execA E C (fg 3) B 249 E0 N c3_119 (φ, H)) := x_cond (by rfl) _
theorem x3_115 : execA E C (fg 3) B 249 E0 N c3_115 s = seqX (execA E C (fg 3) B 249 E0 N c3_116 s) (execA E C (fg 3) B 249 E0 N c3_117) := x_seq (by rfl) s
noncomputable def c3_120 : Code := kR c3_114
noncomputable def c3_121 : Code := kL c3_120
noncomputable def r3_38 : Array Oper := kO c3_121
noncomputable def o3_38_0 : Oper := opN r3_38 0
noncomputable def o3_38_1 : Oper := opN r3_38 1
noncomputable def o3_38_2 : Oper := opN r3_38 2
noncomputable def o3_38_3 : Oper := opN r3_38 3
noncomputable def o3_38_4 : Oper := opN r3_38 4
noncomputable def o3_38_5 : Oper := opN r3_38 5
theorem x3_121 : execA E C (fg 3) B 249 E0 N c3_121 s = regX (runA E C B 249 r3_38 r3_38.toList s) (fun s => gcM E0 [12, 29, 240, 241, 242, 243, 244, 245] (forget s.1 [12, 29, 240, 241, 242, 243, 244, 245], s.2)) := x_reg (ops := r3_38) (by rfl) (by rfl) s
theorem r3_38_l : r3_38.toList = [o3_38_0, o3_38_1, o3_38_2, o3_38_3, o3_38_4, o3_38_5] := nrfl rfl
theorem s3_38_0 : stepA E C B 249 r3_38 o3_38_0 (φ, H) = stp (some 241) φ H (just (aLoad E.T 27 (fget φ 5))) := nrfl rfl
theorem s3_38_1 : stepA E C B 249 r3_38 o3_38_1 (φ, H) = some (fput φ 242 (fget φ 11), H) := nrfl rfl
theorem s3_38_2 : stepA E C B 249 r3_38 o3_38_2 (φ, H) = stp (some 243) φ H (just (aLoad E.T 3 (fget φ 12))) := nrfl rfl
theorem s3_38_3 : stepA E C B 249 r3_38 o3_38_3 (φ, H) = stp (some 244) φ H (aCall C (fun j => B + j * 249 + 244) true 19 [(fget φ 241), (fget φ 242), (fget φ 243)]) := nrfl rfl
theorem s3_38_4 : stepA E C B 249 r3_38 o3_38_4 (φ, H) = some (fput φ 245 (fget φ 29), H) := nrfl rfl
theorem s3_38_5 : stepA E C B 249 r3_38 o3_38_5 (φ, H) = stp (some 246) φ H (just (aBin E.T .neq 30 (fget φ 244) (fget φ 245))) := nrfl rfl
noncomputable def c3_122 : Code := kR c3_120
noncomputable def c3_123 : Code := kT c3_122
noncomputable def c3_124 : Code := kL c3_123
noncomputable def r3_39 : Array Oper := kO c3_124
noncomputable def o3_39_0 : Oper := opN r3_39 0
theorem x3_124 : execA E C (fg 3) B 249 E0 N c3_124 s = regX (runA E C B 249 r3_39 r3_39.toList s) (fun s => gcM E0 [5, 6, 11, 86, 87, 246] (forget s.1 [5, 6, 11, 86, 87, 246], s.2)) := x_reg (ops := r3_39) (by rfl) (by rfl) s
theorem r3_39_l : r3_39.toList = [o3_39_0] := nrfl rfl
theorem s3_39_0 : stepA E C B 249 r3_39 o3_39_0 (φ, H) = some (fput φ 4 (.bool false), H) := nrfl rfl
noncomputable def c3_125 : Code := kR c3_123
theorem x3_125 : execA E C (fg 3) B 249 E0 N c3_125 s = some (.ret, s) := x_ret (by rfl) s
theorem x3_123 : execA E C (fg 3) B 249 E0 N c3_123 s = seqX (execA E C (fg 3) B 249 E0 N c3_124 s) (execA E C (fg 3) B 249 E0 N c3_125) := x_seq (by rfl) s
noncomputable def c3_126 : Code := kE c3_122
theorem x3_126 : execA E C (fg 3) B 249 E0 N c3_126 s = some (.normal, s) := x_skip (by rfl) s
theorem x3_122 : execA E C (fg 3) B 249 E0 N c3_122 (φ, H) = condX (fget φ 246) (execA E C (fg 3) B 249 E0 N c3_123 (φ, H)) (execA E C (fg 3) B 249 E0 N c3_126 (φ, H)) := x_cond (by rfl) _
theorem x3_120 : execA E C (fg 3) B 249 E0 N c3_120 s = seqX (execA E C (fg 3) B 249 E0 N c3_121 s) (execA E C (fg 3) B 249 E0 N c3_122) := x_seq (by rfl) s
theorem x3_114 : execA E C (fg 3) B 249 E0 N c3_114 s = seqX (execA E C (fg 3) B 249 E0 N c3_115 s) (execA E C (fg 3) B 249 E0 N c3_120) := x_seq (by rfl) s
theorem x3_112 : execA E C (fg 3) B 249 E0 N c3_112 s = seqX (execA E C (fg 3) B 249 E0 N c3_113 s) (execA E C (fg 3) B 249 E0 N c3_114) := x_seq (by rfl) s
theorem x3_84 : execA E C (fg 3) B 249 E0 N c3_84 s = seqX (execA E C (fg 3) B 249 E0 N c3_85 s) (execA E C (fg 3) B 249 E0 N c3_112) := x_seq (by rfl) s
theorem x3_76 : execA E C (fg 3) B 249 E0 N c3_76 s = seqX (execA E C (fg 3) B 249 E0 N c3_77 s) (execA E C (fg 3) B 249 E0 N c3_84) := x_seq (by rfl) s
theorem x3_74 : execA E C (fg 3) B 249 E0 N c3_74 s = seqX (execA E C (fg 3) B 249 E0 N c3_75 s) (execA E C (fg 3) B 249 E0 N c3_76) := x_seq (by rfl) s
theorem x3_72 : execA E C (fg 3) B 249 E0 N c3_72 s = seqX (execA E C (fg 3) B 249 E0 N c3_73 s) (execA E C (fg 3) B 249 E0 N c3_74) := x_seq (by rfl) s
theorem x3_49 : execA E C (fg 3) B 249 E0 N c3_49 s = seqX (execA E C (fg 3) B 249 E0 N c3_50 s) (execA E C (fg 3) B 249 E0 N c3_72) := x_seq (by rfl) s
theorem x3_41 : execA E C (fg 3) B 249 E0 N c3_41 s = seqX (execA E C (fg 3) B 249 E0 N c3_42 s) (execA E C (fg 3) B 249 E0 N c3_49) := x_seq (by rfl) s
theorem x3_39 : execA E C (fg 3) B 249 E0 N c3_39 s = seqX (execA E C (fg 3) B 249 E0 N c3_40 s) (execA E C (fg 3) B 249 E0 N c3_41) := x_seq (by rfl) s
theorem x3_37 : execA E C (fg 3) B 249 E0 N c3_37 s = seqX (execA E C (fg 3) B 249 E0 N c3_38 s) (execA E C (fg 3) B 249 E0 N c3_39) := x_seq (by rfl) s
theorem x3_35 : execA E C (fg 3) B 249 E0 N c3_35 s = seqX (execA E C (fg 3) B 249 E0 N c3_36 s) (execA E C (fg 3) B 249 E0 N c3_37) := x_seq (by rfl) s
theorem x3_33 : execA E C (fg 3) B 249 E0 N c3_33 s = seqX (execA E C (fg 3) B 249 E0 N c3_34 s) (execA E C (fg 3) B 249 E0 N c3_35) := x_seq (by rfl) s
theorem x3_32 : execA E C (fg 3) B 249 E0 N c3_32 s = blockX 1 (fun s => (forget s.1 [246], s.2)) (execA E C (fg 3) B 249 E0 N c3_33 s) := x_block (by rfl) (by rfl) s
noncomputable def c3_127 : Code := kR c3_31
noncomputable def r3_40 : Array Oper := kO c3_127
noncomputable def o3_40_0 : Oper := opN r3_40 0
noncomputable def o3_40_1 : Oper := opN r3_40 1
theorem x3_127 : execA E C (fg 3) B 249 E0 N c3_127 s = regX (runA E C B 249 r3_40 r3_40.toList s) (fun s => gcM E0 [247] (forget s.1 [247], s.2)) := x_reg (ops := r3_40) (by rfl) (by rfl) s
theorem r3_40_l : r3_40.toList = [o3_40_0, o3_40_1] := nrfl rfl
theorem s3_40_0 : stepA E C B 249 r3_40 o3_40_0 (φ, H) = stp (some 247) φ H (just (aBin E.T .add 3 (fget φ 87) (.int .i64 1))) := nrfl rfl
theorem s3_40_1 : stepA E C B 249 r3_40 o3_40_1 (φ, H) = some (fput φ 87 (fget φ 247), H) := nrfl rfl
theorem x3_31 : execA E C (fg 3) B 249 E0 N c3_31 s = seqX (execA E C (fg 3) B 249 E0 N c3_32 s) (execA E C (fg 3) B 249 E0 N c3_127) := x_seq (by rfl) s
theorem x3_27 : execA E C (fg 3) B 249 E0 N c3_27 s = seqX (execA E C (fg 3) B 249 E0 N c3_28 s) (execA E C (fg 3) B 249 E0 N c3_31) := x_seq (by rfl) s
theorem x3_25 : execA E C (fg 3) B 249 E0 N c3_25 s = seqX (execA E C (fg 3) B 249 E0 N c3_26 s) (execA E C (fg 3) B 249 E0 N c3_27) := x_seq (by rfl) s
-- a loop of f3: x3_24; body c3_25; slots [87, 86, 11, 6, 5]
theorem x3_24 : execA E C (fg 3) B 249 E0 N c3_24 s = iterA (execA E C (fg 3) B 249 E0 N c3_25) (headA E0) N s := x_loop (by rfl) s
theorem x3_23 : execA E C (fg 3) B 249 E0 N c3_23 s = blockX 0 (fun s => (forget s.1 [5, 6, 11, 86, 87, 88], s.2)) (execA E C (fg 3) B 249 E0 N c3_24 s) := x_block (by rfl) (by rfl) s
theorem x3_21 : execA E C (fg 3) B 249 E0 N c3_21 s = seqX (execA E C (fg 3) B 249 E0 N c3_22 s) (execA E C (fg 3) B 249 E0 N c3_23) := x_seq (by rfl) s
noncomputable def c3_128 : Code := kR c3_20
noncomputable def c3_129 : Code := kL c3_128
noncomputable def r3_41 : Array Oper := kO c3_129
noncomputable def o3_41_0 : Oper := opN r3_41 0
noncomputable def o3_41_1 : Oper := opN r3_41 1
theorem x3_129 : execA E C (fg 3) B 249 E0 N c3_129 s = regX (runA E C B 249 r3_41 r3_41.toList s) (fun s => gcM E0 [248] (forget s.1 [248], s.2)) := x_reg (ops := r3_41) (by rfl) (by rfl) s
theorem r3_41_l : r3_41.toList = [o3_41_0, o3_41_1] := nrfl rfl
theorem s3_41_0 : stepA E C B 249 r3_41 o3_41_0 (φ, H) = stp (some 248) φ H (aCall C (fun j => B + j * 249 + 248) true 20 []) := nrfl rfl
theorem s3_41_1 : stepA E C B 249 r3_41 o3_41_1 (φ, H) = some (fput φ 4 (fget φ 248), H) := nrfl rfl
noncomputable def c3_130 : Code := kR c3_128
theorem x3_130 : execA E C (fg 3) B 249 E0 N c3_130 s = some (.ret, s) := x_ret (by rfl) s
theorem x3_128 : execA E C (fg 3) B 249 E0 N c3_128 s = seqX (execA E C (fg 3) B 249 E0 N c3_129 s) (execA E C (fg 3) B 249 E0 N c3_130) := x_seq (by rfl) s
theorem x3_20 : execA E C (fg 3) B 249 E0 N c3_20 s = seqX (execA E C (fg 3) B 249 E0 N c3_21 s) (execA E C (fg 3) B 249 E0 N c3_128) := x_seq (by rfl) s
theorem x3_18 : execA E C (fg 3) B 249 E0 N c3_18 s = seqX (execA E C (fg 3) B 249 E0 N c3_19 s) (execA E C (fg 3) B 249 E0 N c3_20) := x_seq (by rfl) s
theorem x3_10 : execA E C (fg 3) B 249 E0 N c3_10 s = seqX (execA E C (fg 3) B 249 E0 N c3_11 s) (execA E C (fg 3) B 249 E0 N c3_18) := x_seq (by rfl) s
theorem x3_8 : execA E C (fg 3) B 249 E0 N c3_8 s = seqX (execA E C (fg 3) B 249 E0 N c3_9 s) (execA E C (fg 3) B 249 E0 N c3_10) := x_seq (by rfl) s
theorem x3_6 : execA E C (fg 3) B 249 E0 N c3_6 s = seqX (execA E C (fg 3) B 249 E0 N c3_7 s) (execA E C (fg 3) B 249 E0 N c3_8) := x_seq (by rfl) s
theorem x3_4 : execA E C (fg 3) B 249 E0 N c3_4 s = seqX (execA E C (fg 3) B 249 E0 N c3_5 s) (execA E C (fg 3) B 249 E0 N c3_6) := x_seq (by rfl) s
theorem x3_2 : execA E C (fg 3) B 249 E0 N c3_2 s = seqX (execA E C (fg 3) B 249 E0 N c3_3 s) (execA E C (fg 3) B 249 E0 N c3_4) := x_seq (by rfl) s
theorem x3_0 : execA E C (fg 3) B 249 E0 N c3_0 s = seqX (execA E C (fg 3) B 249 E0 N c3_1 s) (execA E C (fg 3) B 249 E0 N c3_2) := x_seq (by rfl) s
theorem fi_3 : fInfo E 3 = some ⟨249, #[.tmp 4], c3_0⟩ := nrfl rfl
theorem b_3 (args : List AV) : bodyA E C fg N 3 args H B = bodyX E [.tmp 4] (execA E C (fg 3) B 249 H N c3_0 (frame0 args 0 [], H)) := bodyA_eq fi_3 args H
/-! ### f17: novaculite/novaculitelaw07.PropSure$1 -/
noncomputable def c17_0 : Code := kBody Proofs.Try.f17
noncomputable def c17_1 : Code := kL c17_0
noncomputable def r17_0 : Array Oper := kO c17_1
noncomputable def o17_0_0 : Oper := opN r17_0 0
noncomputable def o17_0_1 : Oper := opN r17_0 1
noncomputable def o17_0_2 : Oper := opN r17_0 2
noncomputable def o17_0_3 : Oper := opN r17_0 3
noncomputable def o17_0_4 : Oper := opN r17_0 4
noncomputable def o17_0_5 : Oper := opN r17_0 5
noncomputable def o17_0_6 : Oper := opN r17_0 6
noncomputable def o17_0_7 : Oper := opN r17_0 7
noncomputable def o17_0_8 : Oper := opN r17_0 8
theorem x17_1 : execA E C (fg 17) B 17 E0 N c17_1 s = regX (runA E C B 17 r17_0 r17_0.toList s) (fun s => gcM E0 [0, 1, 2, 6, 7, 8, 9, 10, 11, 12, 13] (forget s.1 [0, 1, 2, 6, 7, 8, 9, 10, 11, 12, 13], s.2)) := x_reg (ops := r17_0) (by rfl) (by rfl) s
theorem r17_0_l : r17_0.toList = [o17_0_0, o17_0_1, o17_0_2, o17_0_3, o17_0_4, o17_0_5, o17_0_6, o17_0_7, o17_0_8] := nrfl rfl
theorem s17_0_0 : stepA E C B 17 r17_0 o17_0_0 (φ, H) = stp (some 8) φ H (just (aLoad E.T 27 (fget φ 1))) := nrfl rfl
theorem s17_0_1 : stepA E C B 17 r17_0 o17_0_1 (φ, H) = some (fput φ 9 (fget φ 0), H) := nrfl rfl
theorem s17_0_2 : stepA E C B 17 r17_0 o17_0_2 (φ, H) = stp (some 10) φ H (just (aLoad E.T 3 (fget φ 2))) := nrfl rfl
theorem s17_0_3 : stepA E C B 17 r17_0 o17_0_3 (φ, H) = stp (some 11) φ H (aCall C (fun j => B + j * 17 + 11) true 13 [(fget φ 8), (fget φ 9), (fget φ 10)]) := nrfl rfl
theorem s17_0_4 : stepA E C B 17 r17_0 o17_0_4 (φ, H) = some (fput φ 7 (fget φ 11), H) := nrfl rfl
theorem s17_0_5 : stepA E C B 17 r17_0 o17_0_5 (φ, H) = stp (some 12) φ H (opExtract (fget φ 7) 0) := nrfl rfl
theorem s17_0_6 : stepA E C B 17 r17_0 o17_0_6 (φ, H) = stp (some 13) φ H (opExtract (fget φ 7) 1) := nrfl rfl
theorem s17_0_7 : stepA E C B 17 r17_0 o17_0_7 (φ, H) = some (fput φ 5 (fget φ 12), H) := nrfl rfl
theorem s17_0_8 : stepA E C B 17 r17_0 o17_0_8 (φ, H) = some (fput φ 6 (fget φ 13), H) := nrfl rfl
noncomputable def c17_2 : Code := kR c17_0
noncomputable def c17_3 : Code := kL c17_2
noncomputable def r17_1 : Array Oper := kO c17_3
noncomputable def o17_1_0 : Oper := opN r17_1 0
noncomputable def o17_1_1 : Oper := opN r17_1 1
noncomputable def o17_1_2 : Oper := opN r17_1 2
theorem x17_3 : execA E C (fg 17) B 17 E0 N c17_3 s = regX (runA E C B 17 r17_1 r17_1.toList s) (fun s => gcM E0 [5, 14, 15] (forget s.1 [5, 14, 15], s.2)) := x_reg (ops := r17_1) (by rfl) (by rfl) s
theorem r17_1_l : r17_1.toList = [o17_1_0, o17_1_1, o17_1_2] := nrfl rfl
theorem s17_1_0 : stepA E C B 17 r17_1 o17_1_0 (φ, H) = some (fput φ 14 (fget φ 5), H) := nrfl rfl
theorem s17_1_1 : stepA E C B 17 r17_1 o17_1_1 (φ, H) = stp (some 15) φ H (just (aLoad E.T 3 (fget φ 3))) := nrfl rfl
theorem s17_1_2 : stepA E C B 17 r17_1 o17_1_2 (φ, H) = stp (some 16) φ H (just (aBin E.T .gtr 3 (fget φ 14) (fget φ 15))) := nrfl rfl
noncomputable def c17_4 : Code := kR c17_2
noncomputable def c17_5 : Code := kT c17_4
noncomputable def r17_2 : Array Oper := kO c17_5
noncomputable def o17_2_0 : Oper := opN r17_2 0
theorem x17_5 : execA E C (fg 17) B 17 E0 N c17_5 s = regX (runA E C B 17 r17_2 r17_2.toList s) (fun s => gcM E0 [3, 16] (forget s.1 [3, 16], s.2)) := x_reg (ops := r17_2) (by rfl) (by rfl) s
theorem r17_2_l : r17_2.toList = [o17_2_0] := nrfl rfl
theorem s17_2_0 : stepA E C B 17 r17_2 o17_2_0 (φ, H) = stp none φ H (opStore E.T 3 (fget φ 3) (.int .i64 1099511627776)) := nrfl rfl
noncomputable def c17_6 : Code := kE c17_4
theorem x17_6 : execA E C (fg 17) B 17 E0 N c17_6 s = some (.normal, s) := x_skip (by rfl) s
theorem x17_4 : execA E C (fg 17) B 17 E0 N c17_4 (φ, H) = condX (fget φ 16) (execA E C (fg 17) B 17 E0 N c17_5 (φ, H)) (execA E C (fg 17) B 17 E0 N c17_6 (φ, H)) := x_cond (by rfl) _
theorem x17_2 : execA E C (fg 17) B 17 E0 N c17_2 s = seqX (execA E C (fg 17) B 17 E0 N c17_3 s) (execA E C (fg 17) B 17 E0 N c17_4) := x_seq (by rfl) s
theorem x17_0 : execA E C (fg 17) B 17 E0 N c17_0 s = seqX (execA E C (fg 17) B 17 E0 N c17_1 s) (execA E C (fg 17) B 17 E0 N c17_2) := x_seq (by rfl) s
theorem fi_17 : fInfo E 17 = some ⟨17, #[], c17_0⟩ := nrfl rfl
theorem b_17 (args : List AV) : bodyA E C fg N 17 args H B = bodyX E [] (execA E C (fg 17) B 17 H N c17_0 (frame0 args 0 [], H)) := bodyA_eq fi_17 args H
/-! ### f18: novaculite/novaculitelaw07.PropSure$2 -/
noncomputable def c18_0 : Code := kBody Proofs.Try.f18
noncomputable def c18_1 : Code := kL c18_0
noncomputable def r18_0 : Array Oper := kO c18_1
noncomputable def o18_0_0 : Oper := opN r18_0 0
noncomputable def o18_0_1 : Oper := opN r18_0 1
noncomputable def o18_0_2 : Oper := opN r18_0 2
noncomputable def o18_0_3 : Oper := opN r18_0 3
noncomputable def o18_0_4 : Oper := opN r18_0 4
noncomputable def o18_0_5 : Oper := opN r18_0 5
noncomputable def o18_0_6 : Oper := opN r18_0 6
noncomputable def o18_0_7 : Oper := opN r18_0 7
noncomputable def o18_0_8 : Oper := opN r18_0 8
theorem x18_1 : execA E C (fg 18) B 17 E0 N c18_1 s = regX (runA E C B 17 r18_0 r18_0.toList s) (fun s => gcM E0 [0, 1, 2, 5, 7, 8, 9, 10, 11, 12, 13] (forget s.1 [0, 1, 2, 5, 7, 8, 9, 10, 11, 12, 13], s.2)) := x_reg (ops := r18_0) (by rfl) (by rfl) s
theorem r18_0_l : r18_0.toList = [o18_0_0, o18_0_1, o18_0_2, o18_0_3, o18_0_4, o18_0_5, o18_0_6, o18_0_7, o18_0_8] := nrfl rfl
theorem s18_0_0 : stepA E C B 17 r18_0 o18_0_0 (φ, H) = stp (some 8) φ H (just (aLoad E.T 27 (fget φ 1))) := nrfl rfl
theorem s18_0_1 : stepA E C B 17 r18_0 o18_0_1 (φ, H) = some (fput φ 9 (fget φ 0), H) := nrfl rfl
theorem s18_0_2 : stepA E C B 17 r18_0 o18_0_2 (φ, H) = stp (some 10) φ H (just (aLoad E.T 3 (fget φ 2))) := nrfl rfl
theorem s18_0_3 : stepA E C B 17 r18_0 o18_0_3 (φ, H) = stp (some 11) φ H (aCall C (fun j => B + j * 17 + 11) true 13 [(fget φ 8), (fget φ 9), (fget φ 10)]) := nrfl rfl
theorem s18_0_4 : stepA E C B 17 r18_0 o18_0_4 (φ, H) = some (fput φ 7 (fget φ 11), H) := nrfl rfl
theorem s18_0_5 : stepA E C B 17 r18_0 o18_0_5 (φ, H) = stp (some 12) φ H (opExtract (fget φ 7) 0) := nrfl rfl
theorem s18_0_6 : stepA E C B 17 r18_0 o18_0_6 (φ, H) = stp (some 13) φ H (opExtract (fget φ 7) 1) := nrfl rfl
theorem s18_0_7 : stepA E C B 17 r18_0 o18_0_7 (φ, H) = some (fput φ 5 (fget φ 12), H) := nrfl rfl
theorem s18_0_8 : stepA E C B 17 r18_0 o18_0_8 (φ, H) = some (fput φ 6 (fget φ 13), H) := nrfl rfl
noncomputable def c18_2 : Code := kR c18_0
noncomputable def c18_3 : Code := kL c18_2
noncomputable def r18_1 : Array Oper := kO c18_3
noncomputable def o18_1_0 : Oper := opN r18_1 0
noncomputable def o18_1_1 : Oper := opN r18_1 1
noncomputable def o18_1_2 : Oper := opN r18_1 2
theorem x18_3 : execA E C (fg 18) B 17 E0 N c18_3 s = regX (runA E C B 17 r18_1 r18_1.toList s) (fun s => gcM E0 [6, 14, 15] (forget s.1 [6, 14, 15], s.2)) := x_reg (ops := r18_1) (by rfl) (by rfl) s
theorem r18_1_l : r18_1.toList = [o18_1_0, o18_1_1, o18_1_2] := nrfl rfl
theorem s18_1_0 : stepA E C B 17 r18_1 o18_1_0 (φ, H) = some (fput φ 14 (fget φ 6), H) := nrfl rfl
theorem s18_1_1 : stepA E C B 17 r18_1 o18_1_1 (φ, H) = stp (some 15) φ H (just (aLoad E.T 3 (fget φ 3))) := nrfl rfl
theorem s18_1_2 : stepA E C B 17 r18_1 o18_1_2 (φ, H) = stp (some 16) φ H (just (aBin E.T .gtr 3 (fget φ 14) (fget φ 15))) := nrfl rfl
noncomputable def c18_4 : Code := kR c18_2
noncomputable def c18_5 : Code := kT c18_4
noncomputable def r18_2 : Array Oper := kO c18_5
noncomputable def o18_2_0 : Oper := opN r18_2 0
theorem x18_5 : execA E C (fg 18) B 17 E0 N c18_5 s = regX (runA E C B 17 r18_2 r18_2.toList s) (fun s => gcM E0 [3, 16] (forget s.1 [3, 16], s.2)) := x_reg (ops := r18_2) (by rfl) (by rfl) s
theorem r18_2_l : r18_2.toList = [o18_2_0] := nrfl rfl
theorem s18_2_0 : stepA E C B 17 r18_2 o18_2_0 (φ, H) = stp none φ H (opStore E.T 3 (fget φ 3) (.int .i64 1099511627776)) := nrfl rfl
noncomputable def c18_6 : Code := kE c18_4
theorem x18_6 : execA E C (fg 18) B 17 E0 N c18_6 s = some (.normal, s) := x_skip (by rfl) s
theorem x18_4 : execA E C (fg 18) B 17 E0 N c18_4 (φ, H) = condX (fget φ 16) (execA E C (fg 18) B 17 E0 N c18_5 (φ, H)) (execA E C (fg 18) B 17 E0 N c18_6 (φ, H)) := x_cond (by rfl) _
theorem x18_2 : execA E C (fg 18) B 17 E0 N c18_2 s = seqX (execA E C (fg 18) B 17 E0 N c18_3 s) (execA E C (fg 18) B 17 E0 N c18_4) := x_seq (by rfl) s
theorem x18_0 : execA E C (fg 18) B 17 E0 N c18_0 s = seqX (execA E C (fg 18) B 17 E0 N c18_1 s) (execA E C (fg 18) B 17 E0 N c18_2) := x_seq (by rfl) s
theorem fi_18 : fInfo E 18 = some ⟨17, #[], c18_0⟩ := nrfl rfl
theorem b_18 (args : List AV) : bodyA E C fg N 18 args H B = bodyX E [] (execA E C (fg 18) B 17 H N c18_0 (frame0 args 0 [], H)) := bodyA_eq fi_18 args H
end Go.AM.Ytikchlfbjdfioaa
