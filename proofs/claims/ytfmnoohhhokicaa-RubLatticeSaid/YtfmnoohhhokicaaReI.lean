/- A part of the proof of rubLattice_holds: SyX, SyS. Own work of this project; texts printed by own programs among it. -/
import Derived.KernelRfl
import Derived.Test.YtfmnoohhhokicaaReH
section
namespace Go.AM.Ytfmnoohhhokicaa
open Go Go.AM
set_option maxRecDepth 100000
variable {C : Callee} {B N : Nat} {E0 : AHeap} (φ : AFr) (H : AHeap) (s : St)
noncomputable def c13_0 : Code := kBody Proofs.Try.f13
noncomputable def c13_1 : Code := kL c13_0
noncomputable def r13_0 : Array Oper := kO c13_1
noncomputable def o13_0_0 : Oper := opN r13_0 0
noncomputable def o13_0_1 : Oper := opN r13_0 1
noncomputable def o13_0_2 : Oper := opN r13_0 2
theorem x13_1 : execA E C (fg 13) B 160 E0 N c13_1 s = regX (runA E C B 160 r13_0 r13_0.toList s) (fun s => gcM E0 [0, 1, 4] (forget s.1 [0, 1, 4], s.2)) := x_reg (ops := r13_0) (by rfl) (by rfl) s
theorem r13_0_l : r13_0.toList = [o13_0_0, o13_0_1, o13_0_2] := nrfl rfl
theorem s13_0_0 : stepA E C B 160 r13_0 o13_0_0 (φ, H) = stp (some 2) φ H (opBox (B + 2) (acells (fget φ 0))) := nrfl rfl
theorem s13_0_1 : stepA E C B 160 r13_0 o13_0_1 (φ, H) = stp (some 3) φ H (opBox (B + 3) (acells (fget φ 1))) := nrfl rfl
theorem s13_0_2 : stepA E C B 160 r13_0 o13_0_2 (φ, H) = some (fput φ 4 (.bool false), H) := nrfl rfl
noncomputable def c13_2 : Code := kR c13_0
noncomputable def c13_3 : Code := kL c13_2
noncomputable def r13_1 : Array Oper := kO c13_3
noncomputable def o13_1_0 : Oper := opN r13_1 0
noncomputable def o13_1_1 : Oper := opN r13_1 1
noncomputable def o13_1_2 : Oper := opN r13_1 2
theorem x13_3 : execA E C (fg 13) B 160 E0 N c13_3 s = regX (runA E C B 160 r13_1 r13_1.toList s) (fun s => gcM E0 [2, 16, 17] (forget s.1 [2, 16, 17], s.2)) := x_reg (ops := r13_1) (by rfl) (by rfl) s
theorem r13_1_l : r13_1.toList = [o13_1_0, o13_1_1, o13_1_2] := nrfl rfl
theorem s13_1_0 : stepA E C B 160 r13_1 o13_1_0 (φ, H) = stp (some 16) φ H (just (aLoad E.T 49 (fget φ 2))) := nrfl rfl
theorem s13_1_1 : stepA E C B 160 r13_1 o13_1_1 (φ, H) = stp (some 17) φ H (aCall C (fun j => B + j * 160 + 17) true 56 [(fget φ 16), (.int .i64 5), (.int .i64 6)]) := nrfl rfl
theorem s13_1_2 : stepA E C B 160 r13_1 o13_1_2 (φ, H) = some (fput φ 5 (fget φ 17), H) := nrfl rfl
noncomputable def c13_4 : Code := kR c13_2
noncomputable def c13_5 : Code := kL c13_4
noncomputable def r13_2 : Array Oper := kO c13_5
noncomputable def o13_2_0 : Oper := opN r13_2 0
noncomputable def o13_2_1 : Oper := opN r13_2 1
noncomputable def o13_2_2 : Oper := opN r13_2 2
noncomputable def o13_2_3 : Oper := opN r13_2 3
noncomputable def o13_2_4 : Oper := opN r13_2 4
noncomputable def o13_2_5 : Oper := opN r13_2 5
noncomputable def o13_2_6 : Oper := opN r13_2 6
theorem x13_5 : execA E C (fg 13) B 160 E0 N c13_5 s = regX (runA E C B 160 r13_2 r13_2.toList s) (fun s => gcM E0 [18, 19, 20, 21, 22] (forget s.1 [18, 19, 20, 21, 22], s.2)) := x_reg (ops := r13_2) (by rfl) (by rfl) s
theorem r13_2_l : r13_2.toList = [o13_2_0, o13_2_1, o13_2_2, o13_2_3, o13_2_4, o13_2_5, o13_2_6] := nrfl rfl
theorem s13_2_0 : stepA E C B 160 r13_2 o13_2_0 (φ, H) = some (fput φ 18 (fget φ 5), H) := nrfl rfl
theorem s13_2_1 : stepA E C B 160 r13_2 o13_2_1 (φ, H) = stp (some 19) φ H (aBuiltin E.T (B + 19) .len #[22] [(fget φ 18)]) := nrfl rfl
theorem s13_2_2 : stepA E C B 160 r13_2 o13_2_2 (φ, H) = some (fput φ 20 (fget φ 5), H) := nrfl rfl
theorem s13_2_3 : stepA E C B 160 r13_2 o13_2_3 (φ, H) = stp (some 21) φ H (aCall C (fun j => B + j * 160 + 21) true 58 [(fget φ 20)]) := nrfl rfl
theorem s13_2_4 : stepA E C B 160 r13_2 o13_2_4 (φ, H) = stp (some 22) φ H (aCall C (fun j => B + j * 160 + 22) true 59 [(fget φ 19), (fget φ 21)]) := nrfl rfl
theorem s13_2_5 : stepA E C B 160 r13_2 o13_2_5 (φ, H) = stp (some 6) φ H (opBox (B + 6) (zeroCells E.T 39)) := nrfl rfl
theorem s13_2_6 : stepA E C B 160 r13_2 o13_2_6 (φ, H) = stp none φ H (opStore E.T 39 (fget φ 6) (fget φ 22)) := nrfl rfl
noncomputable def c13_6 : Code := kR c13_4
noncomputable def c13_7 : Code := kL c13_6
noncomputable def r13_3 : Array Oper := kO c13_7
noncomputable def o13_3_0 : Oper := opN r13_3 0
noncomputable def o13_3_1 : Oper := opN r13_3 1
noncomputable def o13_3_2 : Oper := opN r13_3 2
noncomputable def o13_3_3 : Oper := opN r13_3 3
noncomputable def o13_3_4 : Oper := opN r13_3 4
noncomputable def o13_3_5 : Oper := opN r13_3 5
noncomputable def o13_3_6 : Oper := opN r13_3 6
noncomputable def o13_3_7 : Oper := opN r13_3 7
noncomputable def o13_3_8 : Oper := opN r13_3 8
noncomputable def o13_3_9 : Oper := opN r13_3 9
theorem x13_7 : execA E C (fg 13) B 160 E0 N c13_7 s = regX (drawA E C B 160 r13_3 s) (fun s => gcM E0 [3, 23, 24, 25, 26, 27, 28, 29, 30, 31] (forget s.1 [3, 23, 24, 25, 26, 27, 28, 29, 30, 31], s.2)) := x_draw (ops := r13_3) (by rfl) (by rfl) s
theorem r13_3_l : r13_3.toList = [o13_3_0, o13_3_1, o13_3_2, o13_3_3, o13_3_4, o13_3_5, o13_3_6, o13_3_7, o13_3_8, o13_3_9] := nrfl rfl
theorem r13_3_st : statOk r13_3 = true := by kernel_rfl
theorem r13_3_dr : drawA E C B 160 r13_3 s = if neat 160 s = true then drX r13_3 (runT E C B 160 r13_3 r13_3.toList 0 s) else none := draw_eq r13_3_st s
theorem r13_3_an (l : List (Nat × Tr)) : dynOk r13_3 l = (!writing l || dynPairs [[], [], [1], [1, 2], [], [4], [1, 2, 3, 4, 5], [0, 1, 2, 3, 4, 5, 6], [0, 1, 2, 3, 4, 5, 6, 7], [0, 1, 2, 3, 4, 5, 6, 7, 8]] (touching l)) := dynOk_eq (by kernel_rfl) l
theorem s13_3_0 : stepT E C B 160 r13_3 o13_3_0 (φ, H) = stpT (some 23) φ H (just (aLoad E.T 39 (fget φ 6))) := stT_go rfl (goT_R rfl rfl)
theorem s13_3_1 : stepT E C B 160 r13_3 o13_3_1 (φ, H) = stpT (some 24) φ H (just (aFieldAddr E.T 49 (fget φ 3) 0)) := stT_go rfl (goT_R rfl rfl)
theorem s13_3_2 : stepT E C B 160 r13_3 o13_3_2 (φ, H) = stpT (some 25) φ H (just (aLoad E.T 5 (fget φ 24))) := stT_go rfl (goT_R rfl rfl)
theorem s13_3_3 : stepT E C B 160 r13_3 o13_3_3 (φ, H) = stpT (some 26) φ H (justO (aConv E.T 5 3 (fget φ 25))) := stT_go rfl (goT_R rfl rfl)
theorem s13_3_4 : stepT E C B 160 r13_3 o13_3_4 (φ, H) = stpT (some 27) φ H (just (aLoad E.T 39 (fget φ 6))) := stT_go rfl (goT_R rfl rfl)
theorem s13_3_5 : stepT E C B 160 r13_3 o13_3_5 (φ, H) = stpT (some 28) φ H (aBuiltin E.T (B + 28) .len #[39] [(fget φ 27)]) := stT_go rfl (goT_R rfl rfl)
theorem s13_3_6 : stepT E C B 160 r13_3 o13_3_6 (φ, H) = stpT (some 29) φ H (just (aBin E.T .rem 3 (fget φ 26) (fget φ 28))) := stT_go rfl (goT_R rfl rfl)
theorem s13_3_7 : stepT E C B 160 r13_3 o13_3_7 (φ, H) = stpT (some 30) φ H (just (aIndexAddr E.T 39 (fget φ 23) (fget φ 29))) := stT_go rfl (goT_R rfl rfl)
theorem s13_3_8 : stepT E C B 160 r13_3 o13_3_8 (φ, H) = stpT (some 31) φ H (just (aLoad E.T 22 (fget φ 30))) := stT_go rfl (goT_R rfl rfl)
theorem s13_3_9 : stepT E C B 160 r13_3 o13_3_9 (φ, H) = some ((fput φ 7 (fget φ 31), H), ⟨false, [], []⟩) := stT_go rfl (goT_mv rfl rfl)
noncomputable def c13_8 : Code := kR c13_6
noncomputable def c13_9 : Code := kL c13_8
noncomputable def r13_4 : Array Oper := kO c13_9
noncomputable def o13_4_0 : Oper := opN r13_4 0
noncomputable def o13_4_1 : Oper := opN r13_4 1
noncomputable def o13_4_2 : Oper := opN r13_4 2
noncomputable def o13_4_3 : Oper := opN r13_4 3
noncomputable def o13_4_4 : Oper := opN r13_4 4
noncomputable def o13_4_5 : Oper := opN r13_4 5
noncomputable def o13_4_6 : Oper := opN r13_4 6
noncomputable def o13_4_7 : Oper := opN r13_4 7
theorem x13_9 : execA E C (fg 13) B 160 E0 N c13_9 s = regX (runA E C B 160 r13_4 r13_4.toList s) (fun s => gcM E0 [32, 33, 34, 35, 36, 37] (forget s.1 [32, 33, 34, 35, 36, 37], s.2)) := x_reg (ops := r13_4) (by rfl) (by rfl) s
theorem r13_4_l : r13_4.toList = [o13_4_0, o13_4_1, o13_4_2, o13_4_3, o13_4_4, o13_4_5, o13_4_6, o13_4_7] := nrfl rfl
theorem s13_4_0 : stepA E C B 160 r13_4 o13_4_0 (φ, H) = some (fput φ 33 (fget φ 5), H) := nrfl rfl
theorem s13_4_1 : stepA E C B 160 r13_4 o13_4_1 (φ, H) = some (fput φ 34 (fget φ 7), H) := nrfl rfl
theorem s13_4_2 : stepA E C B 160 r13_4 o13_4_2 (φ, H) = stp (some 35) φ H (aCall C (fun j => B + j * 160 + 35) true 46 [(fget φ 33), (fget φ 34)]) := nrfl rfl
theorem s13_4_3 : stepA E C B 160 r13_4 o13_4_3 (φ, H) = some (fput φ 32 (fget φ 35), H) := nrfl rfl
theorem s13_4_4 : stepA E C B 160 r13_4 o13_4_4 (φ, H) = stp (some 36) φ H (opExtract (fget φ 32) 0) := nrfl rfl
theorem s13_4_5 : stepA E C B 160 r13_4 o13_4_5 (φ, H) = stp (some 37) φ H (opExtract (fget φ 32) 1) := nrfl rfl
theorem s13_4_6 : stepA E C B 160 r13_4 o13_4_6 (φ, H) = some (fput φ 8 (fget φ 36), H) := nrfl rfl
theorem s13_4_7 : stepA E C B 160 r13_4 o13_4_7 (φ, H) = some (fput φ 9 (fget φ 37), H) := nrfl rfl
noncomputable def c13_10 : Code := kR c13_8
noncomputable def c13_11 : Code := kL c13_10
noncomputable def r13_5 : Array Oper := kO c13_11
noncomputable def o13_5_0 : Oper := opN r13_5 0
noncomputable def o13_5_1 : Oper := opN r13_5 1
noncomputable def o13_5_2 : Oper := opN r13_5 2
noncomputable def o13_5_3 : Oper := opN r13_5 3
noncomputable def o13_5_4 : Oper := opN r13_5 4
noncomputable def o13_5_5 : Oper := opN r13_5 5
noncomputable def o13_5_6 : Oper := opN r13_5 6
noncomputable def o13_5_7 : Oper := opN r13_5 7
theorem x13_11 : execA E C (fg 13) B 160 E0 N c13_11 s = regX (runA E C B 160 r13_5 r13_5.toList s) (fun s => gcM E0 [38, 39, 40, 41, 42, 43] (forget s.1 [38, 39, 40, 41, 42, 43], s.2)) := x_reg (ops := r13_5) (by rfl) (by rfl) s
theorem r13_5_l : r13_5.toList = [o13_5_0, o13_5_1, o13_5_2, o13_5_3, o13_5_4, o13_5_5, o13_5_6, o13_5_7] := nrfl rfl
theorem s13_5_0 : stepA E C B 160 r13_5 o13_5_0 (φ, H) = some (fput φ 39 (fget φ 5), H) := nrfl rfl
theorem s13_5_1 : stepA E C B 160 r13_5 o13_5_1 (φ, H) = some (fput φ 40 (fget φ 7), H) := nrfl rfl
theorem s13_5_2 : stepA E C B 160 r13_5 o13_5_2 (φ, H) = stp (some 41) φ H (aCall C (fun j => B + j * 160 + 41) true 48 [(fget φ 39), (fget φ 40)]) := nrfl rfl
theorem s13_5_3 : stepA E C B 160 r13_5 o13_5_3 (φ, H) = some (fput φ 38 (fget φ 41), H) := nrfl rfl
theorem s13_5_4 : stepA E C B 160 r13_5 o13_5_4 (φ, H) = stp (some 42) φ H (opExtract (fget φ 38) 0) := nrfl rfl
theorem s13_5_5 : stepA E C B 160 r13_5 o13_5_5 (φ, H) = stp (some 43) φ H (opExtract (fget φ 38) 1) := nrfl rfl
theorem s13_5_6 : stepA E C B 160 r13_5 o13_5_6 (φ, H) = some (fput φ 10 (fget φ 42), H) := nrfl rfl
theorem s13_5_7 : stepA E C B 160 r13_5 o13_5_7 (φ, H) = some (fput φ 11 (fget φ 43), H) := nrfl rfl
noncomputable def c13_12 : Code := kR c13_10
noncomputable def c13_13 : Code := kL c13_12
noncomputable def c13_14 : Code := kL c13_13
noncomputable def r13_6 : Array Oper := kO c13_14
noncomputable def o13_6_0 : Oper := opN r13_6 0
noncomputable def o13_6_1 : Oper := opN r13_6 1
noncomputable def o13_6_2 : Oper := opN r13_6 2
noncomputable def o13_6_3 : Oper := opN r13_6 3
noncomputable def o13_6_4 : Oper := opN r13_6 4
noncomputable def o13_6_5 : Oper := opN r13_6 5
noncomputable def o13_6_6 : Oper := opN r13_6 6
noncomputable def o13_6_7 : Oper := opN r13_6 7
noncomputable def o13_6_8 : Oper := opN r13_6 8
noncomputable def o13_6_9 : Oper := opN r13_6 9
noncomputable def o13_6_10 : Oper := opN r13_6 10
noncomputable def o13_6_11 : Oper := opN r13_6 11
noncomputable def o13_6_12 : Oper := opN r13_6 12
noncomputable def o13_6_13 : Oper := opN r13_6 13
noncomputable def o13_6_14 : Oper := opN r13_6 14
noncomputable def o13_6_15 : Oper := opN r13_6 15
noncomputable def o13_6_16 : Oper := opN r13_6 16
noncomputable def o13_6_17 : Oper := opN r13_6 17
noncomputable def o13_6_18 : Oper := opN r13_6 18
noncomputable def o13_6_19 : Oper := opN r13_6 19
theorem x13_14 : execA E C (fg 13) B 160 E0 N c13_14 s = regX (runA E C B 160 r13_6 r13_6.toList s) (fun s => gcM E0 [9, 11, 44, 45, 46, 47, 48, 49, 50, 51, 52, 53, 54, 55, 56, 57, 58, 59, 60, 61, 62] (forget s.1 [9, 11, 44, 45, 46, 47, 48, 49, 50, 51, 52, 53, 54, 55, 56, 57, 58, 59, 60, 61, 62], s.2)) := x_reg (ops := r13_6) (by rfl) (by rfl) s
theorem r13_6_l : r13_6.toList = [o13_6_0, o13_6_1, o13_6_2, o13_6_3, o13_6_4, o13_6_5, o13_6_6, o13_6_7, o13_6_8, o13_6_9, o13_6_10, o13_6_11, o13_6_12, o13_6_13, o13_6_14, o13_6_15, o13_6_16, o13_6_17, o13_6_18, o13_6_19] := nrfl rfl
theorem s13_6_0 : stepA E C B 160 r13_6 o13_6_0 (φ, H) = some (fput φ 44 (fget φ 9), H) := nrfl rfl
theorem s13_6_1 : stepA E C B 160 r13_6 o13_6_1 (φ, H) = stp (some 45) φ H (just (aBin E.T .neq 24 (fget φ 44) (.int .i64 0))) := nrfl rfl
theorem s13_6_2 : stepA E C B 160 r13_6 o13_6_2 (φ, H) = some (fput φ 46 (fget φ 45), H) := nrfl rfl
theorem s13_6_3 : stepA E C B 160 r13_6 o13_6_3 (φ, H) = gd φ 46 false (fun φ => some (fput φ 47 (.tup []), H)) (fun φ => some (fput φ 47 (fget φ 11), H)) := s_gd (j := 2) (oj := o13_6_2) rfl rfl rfl (fun _ => rfl) (fun _ => rfl)
theorem s13_6_4 : stepA E C B 160 r13_6 o13_6_4 (φ, H) = gd φ 46 false (fun φ => some (fput φ 48 (.tup []), H)) (fun φ => stp (some 48) φ H (just (aBin E.T .neq 24 (fget φ 47) (.int .i64 0)))) := s_gd (j := 2) (oj := o13_6_2) rfl rfl rfl (fun _ => rfl) (fun _ => rfl)
theorem s13_6_5 : stepA E C B 160 r13_6 o13_6_5 (φ, H) = stp (some 49) φ H (opPick (fget φ 46) (.bool true) (fget φ 48)) := nrfl rfl
theorem s13_6_6 : stepA E C B 160 r13_6 o13_6_6 (φ, H) = some (fput φ 50 (fget φ 49), H) := nrfl rfl
theorem s13_6_7 : stepA E C B 160 r13_6 o13_6_7 (φ, H) = gd φ 50 false (fun φ => some (fput φ 51 (.tup []), H)) (fun φ => some (fput φ 51 (fget φ 8), H)) := s_gd (j := 6) (oj := o13_6_6) rfl rfl rfl (fun _ => rfl) (fun _ => rfl)
theorem s13_6_8 : stepA E C B 160 r13_6 o13_6_8 (φ, H) = gd φ 50 false (fun φ => some (fput φ 52 (.tup []), H)) (fun φ => stp (some 52) φ H (aBuiltin E.T (B + 52) .len #[22] [(fget φ 51)])) := s_gd (j := 6) (oj := o13_6_6) rfl rfl rfl (fun _ => rfl) (fun _ => rfl)
theorem s13_6_9 : stepA E C B 160 r13_6 o13_6_9 (φ, H) = gd φ 50 false (fun φ => some (fput φ 53 (.tup []), H)) (fun φ => some (fput φ 53 (fget φ 5), H)) := s_gd (j := 6) (oj := o13_6_6) rfl rfl rfl (fun _ => rfl) (fun _ => rfl)
theorem s13_6_10 : stepA E C B 160 r13_6 o13_6_10 (φ, H) = gd φ 50 false (fun φ => some (fput φ 54 (.tup []), H)) (fun φ => stp (some 54) φ H (aBuiltin E.T (B + 54) .len #[22] [(fget φ 53)])) := s_gd (j := 6) (oj := o13_6_6) rfl rfl rfl (fun _ => rfl) (fun _ => rfl)
theorem s13_6_11 : stepA E C B 160 r13_6 o13_6_11 (φ, H) = gd φ 50 false (fun φ => some (fput φ 55 (.tup []), H)) (fun φ => stp (some 55) φ H (just (aBin E.T .neq 3 (fget φ 52) (fget φ 54)))) := s_gd (j := 6) (oj := o13_6_6) rfl rfl rfl (fun _ => rfl) (fun _ => rfl)
theorem s13_6_12 : stepA E C B 160 r13_6 o13_6_12 (φ, H) = stp (some 56) φ H (opPick (fget φ 50) (.bool true) (fget φ 55)) := nrfl rfl
theorem s13_6_13 : stepA E C B 160 r13_6 o13_6_13 (φ, H) = some (fput φ 57 (fget φ 56), H) := nrfl rfl
theorem s13_6_14 : stepA E C B 160 r13_6 o13_6_14 (φ, H) = gd φ 57 false (fun φ => some (fput φ 58 (.tup []), H)) (fun φ => some (fput φ 58 (fget φ 10), H)) := s_gd (j := 13) (oj := o13_6_13) rfl rfl rfl (fun _ => rfl) (fun _ => rfl)
theorem s13_6_15 : stepA E C B 160 r13_6 o13_6_15 (φ, H) = gd φ 57 false (fun φ => some (fput φ 59 (.tup []), H)) (fun φ => stp (some 59) φ H (aBuiltin E.T (B + 59) .len #[22] [(fget φ 58)])) := s_gd (j := 13) (oj := o13_6_13) rfl rfl rfl (fun _ => rfl) (fun _ => rfl)
theorem s13_6_16 : stepA E C B 160 r13_6 o13_6_16 (φ, H) = gd φ 57 false (fun φ => some (fput φ 60 (.tup []), H)) (fun φ => some (fput φ 60 (fget φ 5), H)) := s_gd (j := 13) (oj := o13_6_13) rfl rfl rfl (fun _ => rfl) (fun _ => rfl)
theorem s13_6_17 : stepA E C B 160 r13_6 o13_6_17 (φ, H) = gd φ 57 false (fun φ => some (fput φ 61 (.tup []), H)) (fun φ => stp (some 61) φ H (aBuiltin E.T (B + 61) .len #[22] [(fget φ 60)])) := s_gd (j := 13) (oj := o13_6_13) rfl rfl rfl (fun _ => rfl) (fun _ => rfl)
theorem s13_6_18 : stepA E C B 160 r13_6 o13_6_18 (φ, H) = gd φ 57 false (fun φ => some (fput φ 62 (.tup []), H)) (fun φ => stp (some 62) φ H (just (aBin E.T .neq 3 (fget φ 59) (fget φ 61)))) := s_gd (j := 13) (oj := o13_6_13) rfl rfl rfl (fun _ => rfl) (fun _ => rfl)
theorem s13_6_19 : stepA E C B 160 r13_6 o13_6_19 (φ, H) = stp (some 63) φ H (opPick (fget φ 57) (.bool true) (fget φ 62)) := nrfl rfl
noncomputable def c13_15 : Code := kR c13_13
noncomputable def c13_16 : Code := kT c13_15
noncomputable def c13_17 : Code := kL c13_16
noncomputable def r13_7 : Array Oper := kO c13_17
noncomputable def o13_7_0 : Oper := opN r13_7 0
theorem x13_17 : execA E C (fg 13) B 160 E0 N c13_17 s = regX (runA E C B 160 r13_7 r13_7.toList s) (fun s => gcM E0 [5, 6, 7, 8, 10, 63] (forget s.1 [5, 6, 7, 8, 10, 63], s.2)) := x_reg (ops := r13_7) (by rfl) (by rfl) s
theorem r13_7_l : r13_7.toList = [o13_7_0] := nrfl rfl
theorem s13_7_0 : stepA E C B 160 r13_7 o13_7_0 (φ, H) = some (fput φ 4 (.bool false), H) := nrfl rfl
noncomputable def c13_18 : Code := kR c13_16
theorem x13_18 : execA E C (fg 13) B 160 E0 N c13_18 s = some (.ret, s) := x_ret (by rfl) s
theorem x13_16 : execA E C (fg 13) B 160 E0 N c13_16 s = seqX (execA E C (fg 13) B 160 E0 N c13_17 s) (execA E C (fg 13) B 160 E0 N c13_18) := x_seq (by rfl) s
noncomputable def c13_19 : Code := kE c13_15
theorem x13_19 : execA E C (fg 13) B 160 E0 N c13_19 s = some (.normal, s) := x_skip (by rfl) s
theorem x13_15 : execA E C (fg 13) B 160 E0 N c13_15 (φ, H) = condX (fget φ 63) (execA E C (fg 13) B 160 E0 N c13_16 (φ, H)) (execA E C (fg 13) B 160 E0 N c13_19 (φ, H)) := x_cond (by rfl) _
theorem x13_13 : execA E C (fg 13) B 160 E0 N c13_13 s = seqX (execA E C (fg 13) B 160 E0 N c13_14 s) (execA E C (fg 13) B 160 E0 N c13_15) := x_seq (by rfl) s
noncomputable def c13_20 : Code := kR c13_12
noncomputable def c13_21 : Code := kL c13_20
noncomputable def r13_8 : Array Oper := kO c13_21
noncomputable def o13_8_0 : Oper := opN r13_8 0
noncomputable def o13_8_1 : Oper := opN r13_8 1
theorem x13_21 : execA E C (fg 13) B 160 E0 N c13_21 s = regX (runA E C B 160 r13_8 r13_8.toList s) (fun s => gcM E0 [63, 64] (forget s.1 [63, 64], s.2)) := x_reg (ops := r13_8) (by rfl) (by rfl) s
theorem r13_8_l : r13_8.toList = [o13_8_0, o13_8_1] := nrfl rfl
theorem s13_8_0 : stepA E C B 160 r13_8 o13_8_0 (φ, H) = stp (some 64) φ H (.pure (.clo 72 [(fget φ 6)], [])) := nrfl rfl
theorem s13_8_1 : stepA E C B 160 r13_8 o13_8_1 (φ, H) = some (fput φ 12 (fget φ 64), H) := nrfl rfl
noncomputable def c13_22 : Code := kR c13_20
noncomputable def c13_23 : Code := kL c13_22
noncomputable def c13_24 : Code := kL c13_23
noncomputable def r13_9 : Array Oper := kO c13_24
noncomputable def o13_9_0 : Oper := opN r13_9 0
noncomputable def o13_9_1 : Oper := opN r13_9 1
noncomputable def o13_9_2 : Oper := opN r13_9 2
noncomputable def o13_9_3 : Oper := opN r13_9 3
noncomputable def o13_9_4 : Oper := opN r13_9 4
noncomputable def o13_9_5 : Oper := opN r13_9 5
noncomputable def o13_9_6 : Oper := opN r13_9 6
noncomputable def o13_9_7 : Oper := opN r13_9 7
noncomputable def o13_9_8 : Oper := opN r13_9 8
noncomputable def o13_9_9 : Oper := opN r13_9 9
noncomputable def o13_9_10 : Oper := opN r13_9 10
noncomputable def o13_9_11 : Oper := opN r13_9 11
noncomputable def o13_9_12 : Oper := opN r13_9 12
noncomputable def o13_9_13 : Oper := opN r13_9 13
noncomputable def o13_9_14 : Oper := opN r13_9 14
noncomputable def o13_9_15 : Oper := opN r13_9 15
noncomputable def o13_9_16 : Oper := opN r13_9 16
noncomputable def o13_9_17 : Oper := opN r13_9 17
noncomputable def o13_9_18 : Oper := opN r13_9 18
noncomputable def o13_9_19 : Oper := opN r13_9 19
noncomputable def o13_9_20 : Oper := opN r13_9 20
noncomputable def o13_9_21 : Oper := opN r13_9 21
noncomputable def o13_9_22 : Oper := opN r13_9 22
noncomputable def o13_9_23 : Oper := opN r13_9 23
noncomputable def o13_9_24 : Oper := opN r13_9 24
noncomputable def o13_9_25 : Oper := opN r13_9 25
noncomputable def o13_9_26 : Oper := opN r13_9 26
noncomputable def o13_9_27 : Oper := opN r13_9 27
noncomputable def o13_9_28 : Oper := opN r13_9 28
noncomputable def o13_9_29 : Oper := opN r13_9 29
noncomputable def o13_9_30 : Oper := opN r13_9 30
noncomputable def o13_9_31 : Oper := opN r13_9 31
noncomputable def o13_9_32 : Oper := opN r13_9 32
noncomputable def o13_9_33 : Oper := opN r13_9 33
theorem x13_24 : execA E C (fg 13) B 160 E0 N c13_24 s = regX (runA E C B 160 r13_9 r13_9.toList s) (fun s => gcM E0 [12, 65, 66, 67, 68, 69, 70, 71, 72, 73, 74, 75, 76, 77, 78, 79, 80, 81, 82, 83, 84, 85, 86, 87, 88, 89, 90, 91, 92, 93, 94, 95, 96, 97] (forget s.1 [12, 65, 66, 67, 68, 69, 70, 71, 72, 73, 74, 75, 76, 77, 78, 79, 80, 81, 82, 83, 84, 85, 86, 87, 88, 89, 90, 91, 92, 93, 94, 95, 96, 97], s.2)) := x_reg (ops := r13_9) (by rfl) (by rfl) s
theorem r13_9_l : r13_9.toList = [o13_9_0, o13_9_1, o13_9_2, o13_9_3, o13_9_4, o13_9_5, o13_9_6, o13_9_7, o13_9_8, o13_9_9, o13_9_10, o13_9_11, o13_9_12, o13_9_13, o13_9_14, o13_9_15, o13_9_16, o13_9_17, o13_9_18, o13_9_19, o13_9_20, o13_9_21, o13_9_22, o13_9_23, o13_9_24, o13_9_25, o13_9_26, o13_9_27, o13_9_28, o13_9_29, o13_9_30, o13_9_31, o13_9_32, o13_9_33] := nrfl rfl
theorem s13_9_0 : stepA E C B 160 r13_9 o13_9_0 (φ, H) = some (fput φ 65 (fget φ 12), H) := nrfl rfl
theorem s13_9_1 : stepA E C B 160 r13_9 o13_9_1 (φ, H) = some (fput φ 66 (fget φ 8), H) := nrfl rfl
theorem s13_9_2 : stepA E C B 160 r13_9 o13_9_2 (φ, H) = callV E C (B + 160 * 8) (some 67) (fun j => B + j * 160 + 67) φ H (fget φ 65) [(fget φ 66)] true := nrfl rfl
theorem s13_9_3 : stepA E C B 160 r13_9 o13_9_3 (φ, H) = stp (some 68) φ H (justO (aUn .not (fget φ 67))) := nrfl rfl
theorem s13_9_4 : stepA E C B 160 r13_9 o13_9_4 (φ, H) = some (fput φ 69 (fget φ 68), H) := nrfl rfl
theorem s13_9_5 : stepA E C B 160 r13_9 o13_9_5 (φ, H) = gd φ 69 false (fun φ => some (fput φ 70 (.tup []), H)) (fun φ => some (fput φ 70 (fget φ 12), H)) := s_gd (j := 4) (oj := o13_9_4) rfl rfl rfl (fun _ => rfl) (fun _ => rfl)
theorem s13_9_6 : stepA E C B 160 r13_9 o13_9_6 (φ, H) = gd φ 69 false (fun φ => some (fput φ 71 (.tup []), H)) (fun φ => some (fput φ 71 (fget φ 10), H)) := s_gd (j := 4) (oj := o13_9_4) rfl rfl rfl (fun _ => rfl) (fun _ => rfl)
theorem s13_9_7 : stepA E C B 160 r13_9 o13_9_7 (φ, H) = gd φ 69 false (fun φ => some (fput φ 72 (.tup []), H)) (fun φ => callV E C (B + 160 * 8) (some 72) (fun j => B + j * 160 + 72) φ H (fget φ 70) [(fget φ 71)] true) := s_gd (j := 4) (oj := o13_9_4) rfl rfl rfl (fun _ => rfl) (fun _ => rfl)
theorem s13_9_8 : stepA E C B 160 r13_9 o13_9_8 (φ, H) = gd φ 69 false (fun φ => some (fput φ 73 (.tup []), H)) (fun φ => stp (some 73) φ H (justO (aUn .not (fget φ 72)))) := s_gd (j := 4) (oj := o13_9_4) rfl rfl rfl (fun _ => rfl) (fun _ => rfl)
theorem s13_9_9 : stepA E C B 160 r13_9 o13_9_9 (φ, H) = stp (some 74) φ H (opPick (fget φ 69) (.bool true) (fget φ 73)) := nrfl rfl
theorem s13_9_10 : stepA E C B 160 r13_9 o13_9_10 (φ, H) = some (fput φ 75 (fget φ 74), H) := nrfl rfl
theorem s13_9_11 : stepA E C B 160 r13_9 o13_9_11 (φ, H) = gd φ 75 false (fun φ => some (fput φ 76 (.tup []), H)) (fun φ => some (fput φ 76 (fget φ 5), H)) := s_gd (j := 10) (oj := o13_9_10) rfl rfl rfl (fun _ => rfl) (fun _ => rfl)
theorem s13_9_12 : stepA E C B 160 r13_9 o13_9_12 (φ, H) = gd φ 75 false (fun φ => some (fput φ 77 (.tup []), H)) (fun φ => some (fput φ 77 (fget φ 8), H)) := s_gd (j := 10) (oj := o13_9_10) rfl rfl rfl (fun _ => rfl) (fun _ => rfl)
theorem s13_9_13 : stepA E C B 160 r13_9 o13_9_13 (φ, H) = gd φ 75 false (fun φ => some (fput φ 78 (.tup []), H)) (fun φ => stp (some 78) φ H (aCall C (fun j => B + j * 160 + 78) true 62 [(fget φ 76), (fget φ 77)])) := s_gd (j := 10) (oj := o13_9_10) rfl rfl rfl (fun _ => rfl) (fun _ => rfl)
theorem s13_9_14 : stepA E C B 160 r13_9 o13_9_14 (φ, H) = gd φ 75 false (fun φ => some (fput φ 79 (.tup []), H)) (fun φ => stp (some 79) φ H (justO (aUn .not (fget φ 78)))) := s_gd (j := 10) (oj := o13_9_10) rfl rfl rfl (fun _ => rfl) (fun _ => rfl)
theorem s13_9_15 : stepA E C B 160 r13_9 o13_9_15 (φ, H) = stp (some 80) φ H (opPick (fget φ 75) (.bool true) (fget φ 79)) := nrfl rfl
theorem s13_9_16 : stepA E C B 160 r13_9 o13_9_16 (φ, H) = some (fput φ 81 (fget φ 80), H) := nrfl rfl
theorem s13_9_17 : stepA E C B 160 r13_9 o13_9_17 (φ, H) = gd φ 81 false (fun φ => some (fput φ 82 (.tup []), H)) (fun φ => some (fput φ 82 (fget φ 7), H)) := s_gd (j := 16) (oj := o13_9_16) rfl rfl rfl (fun _ => rfl) (fun _ => rfl)
theorem s13_9_18 : stepA E C B 160 r13_9 o13_9_18 (φ, H) = gd φ 81 false (fun φ => some (fput φ 83 (.tup []), H)) (fun φ => some (fput φ 83 (fget φ 8), H)) := s_gd (j := 16) (oj := o13_9_16) rfl rfl rfl (fun _ => rfl) (fun _ => rfl)
theorem s13_9_19 : stepA E C B 160 r13_9 o13_9_19 (φ, H) = gd φ 81 false (fun φ => some (fput φ 84 (.tup []), H)) (fun φ => stp (some 84) φ H (aCall C (fun j => B + j * 160 + 84) true 62 [(fget φ 82), (fget φ 83)])) := s_gd (j := 16) (oj := o13_9_16) rfl rfl rfl (fun _ => rfl) (fun _ => rfl)
theorem s13_9_20 : stepA E C B 160 r13_9 o13_9_20 (φ, H) = gd φ 81 false (fun φ => some (fput φ 85 (.tup []), H)) (fun φ => stp (some 85) φ H (justO (aUn .not (fget φ 84)))) := s_gd (j := 16) (oj := o13_9_16) rfl rfl rfl (fun _ => rfl) (fun _ => rfl)
theorem s13_9_21 : stepA E C B 160 r13_9 o13_9_21 (φ, H) = stp (some 86) φ H (opPick (fget φ 81) (.bool true) (fget φ 85)) := nrfl rfl
theorem s13_9_22 : stepA E C B 160 r13_9 o13_9_22 (φ, H) = some (fput φ 87 (fget φ 86), H) := nrfl rfl
theorem s13_9_23 : stepA E C B 160 r13_9 o13_9_23 (φ, H) = gd φ 87 false (fun φ => some (fput φ 88 (.tup []), H)) (fun φ => some (fput φ 88 (fget φ 10), H)) := s_gd (j := 22) (oj := o13_9_22) rfl rfl rfl (fun _ => rfl) (fun _ => rfl)
theorem s13_9_24 : stepA E C B 160 r13_9 o13_9_24 (φ, H) = gd φ 87 false (fun φ => some (fput φ 89 (.tup []), H)) (fun φ => some (fput φ 89 (fget φ 5), H)) := s_gd (j := 22) (oj := o13_9_22) rfl rfl rfl (fun _ => rfl) (fun _ => rfl)
theorem s13_9_25 : stepA E C B 160 r13_9 o13_9_25 (φ, H) = gd φ 87 false (fun φ => some (fput φ 90 (.tup []), H)) (fun φ => stp (some 90) φ H (aCall C (fun j => B + j * 160 + 90) true 62 [(fget φ 88), (fget φ 89)])) := s_gd (j := 22) (oj := o13_9_22) rfl rfl rfl (fun _ => rfl) (fun _ => rfl)
theorem s13_9_26 : stepA E C B 160 r13_9 o13_9_26 (φ, H) = gd φ 87 false (fun φ => some (fput φ 91 (.tup []), H)) (fun φ => stp (some 91) φ H (justO (aUn .not (fget φ 90)))) := s_gd (j := 22) (oj := o13_9_22) rfl rfl rfl (fun _ => rfl) (fun _ => rfl)
theorem s13_9_27 : stepA E C B 160 r13_9 o13_9_27 (φ, H) = stp (some 92) φ H (opPick (fget φ 87) (.bool true) (fget φ 91)) := nrfl rfl
theorem s13_9_28 : stepA E C B 160 r13_9 o13_9_28 (φ, H) = some (fput φ 93 (fget φ 92), H) := nrfl rfl
theorem s13_9_29 : stepA E C B 160 r13_9 o13_9_29 (φ, H) = gd φ 93 false (fun φ => some (fput φ 94 (.tup []), H)) (fun φ => some (fput φ 94 (fget φ 10), H)) := s_gd (j := 28) (oj := o13_9_28) rfl rfl rfl (fun _ => rfl) (fun _ => rfl)
theorem s13_9_30 : stepA E C B 160 r13_9 o13_9_30 (φ, H) = gd φ 93 false (fun φ => some (fput φ 95 (.tup []), H)) (fun φ => some (fput φ 95 (fget φ 7), H)) := s_gd (j := 28) (oj := o13_9_28) rfl rfl rfl (fun _ => rfl) (fun _ => rfl)
theorem s13_9_31 : stepA E C B 160 r13_9 o13_9_31 (φ, H) = gd φ 93 false (fun φ => some (fput φ 96 (.tup []), H)) (fun φ => stp (some 96) φ H (aCall C (fun j => B + j * 160 + 96) true 62 [(fget φ 94), (fget φ 95)])) := s_gd (j := 28) (oj := o13_9_28) rfl rfl rfl (fun _ => rfl) (fun _ => rfl)
theorem s13_9_32 : stepA E C B 160 r13_9 o13_9_32 (φ, H) = gd φ 93 false (fun φ => some (fput φ 97 (.tup []), H)) (fun φ => stp (some 97) φ H (justO (aUn .not (fget φ 96)))) := s_gd (j := 28) (oj := o13_9_28) rfl rfl rfl (fun _ => rfl) (fun _ => rfl)
theorem s13_9_33 : stepA E C B 160 r13_9 o13_9_33 (φ, H) = stp (some 98) φ H (opPick (fget φ 93) (.bool true) (fget φ 97)) := nrfl rfl
noncomputable def c13_25 : Code := kR c13_23
noncomputable def c13_26 : Code := kT c13_25
noncomputable def c13_27 : Code := kL c13_26
noncomputable def r13_10 : Array Oper := kO c13_27
noncomputable def o13_10_0 : Oper := opN r13_10 0
theorem x13_27 : execA E C (fg 13) B 160 E0 N c13_27 s = regX (runA E C B 160 r13_10 r13_10.toList s) (fun s => gcM E0 [5, 6, 7, 8, 10, 98] (forget s.1 [5, 6, 7, 8, 10, 98], s.2)) := x_reg (ops := r13_10) (by rfl) (by rfl) s
theorem r13_10_l : r13_10.toList = [o13_10_0] := nrfl rfl
theorem s13_10_0 : stepA E C B 160 r13_10 o13_10_0 (φ, H) = some (fput φ 4 (.bool false), H) := nrfl rfl
noncomputable def c13_28 : Code := kR c13_26
theorem x13_28 : execA E C (fg 13) B 160 E0 N c13_28 s = some (.ret, s) := x_ret (by rfl) s
theorem x13_26 : execA E C (fg 13) B 160 E0 N c13_26 s = seqX (execA E C (fg 13) B 160 E0 N c13_27 s) (execA E C (fg 13) B 160 E0 N c13_28) := x_seq (by rfl) s
noncomputable def c13_29 : Code := kE c13_25
theorem x13_29 : execA E C (fg 13) B 160 E0 N c13_29 s = some (.normal, s) := x_skip (by rfl) s
theorem x13_25 : execA E C (fg 13) B 160 E0 N c13_25 (φ, H) = condX (fget φ 98) (execA E C (fg 13) B 160 E0 N c13_26 (φ, H)) (execA E C (fg 13) B 160 E0 N c13_29 (φ, H)) := x_cond (by rfl) _
theorem x13_23 : execA E C (fg 13) B 160 E0 N c13_23 s = seqX (execA E C (fg 13) B 160 E0 N c13_24 s) (execA E C (fg 13) B 160 E0 N c13_25) := x_seq (by rfl) s
noncomputable def c13_30 : Code := kR c13_22
noncomputable def c13_31 : Code := kL c13_30
noncomputable def c13_32 : Code := kL c13_31
noncomputable def r13_11 : Array Oper := kO c13_32
noncomputable def o13_11_0 : Oper := opN r13_11 0
noncomputable def o13_11_1 : Oper := opN r13_11 1
noncomputable def o13_11_2 : Oper := opN r13_11 2
theorem x13_32 : execA E C (fg 13) B 160 E0 N c13_32 s = regX (runA E C B 160 r13_11 r13_11.toList s) (fun s => gcM E0 [98, 99] (forget s.1 [98, 99], s.2)) := x_reg (ops := r13_11) (by rfl) (by rfl) s
theorem r13_11_l : r13_11.toList = [o13_11_0, o13_11_1, o13_11_2] := nrfl rfl
theorem s13_11_0 : stepA E C B 160 r13_11 o13_11_0 (φ, H) = some (fput φ 99 (fget φ 5), H) := nrfl rfl
theorem s13_11_1 : stepA E C B 160 r13_11 o13_11_1 (φ, H) = stp (some 100) φ H (aBuiltin E.T (B + 100) .len #[22] [(fget φ 99)]) := nrfl rfl
theorem s13_11_2 : stepA E C B 160 r13_11 o13_11_2 (φ, H) = some (fput φ 101 (.int .i64 0), H) := nrfl rfl
noncomputable def c13_33 : Code := kR c13_31
noncomputable def c13_34 : Code := kB c13_33
noncomputable def c13_35 : Code := kB c13_34
noncomputable def c13_36 : Code := kL c13_35
noncomputable def r13_12 : Array Oper := kO c13_36
noncomputable def o13_12_0 : Oper := opN r13_12 0
theorem x13_36 : execA E C (fg 13) B 160 E0 N c13_36 s = regX (runA E C B 160 r13_12 r13_12.toList s) (fun s => gcM E0 [] (forget s.1 [], s.2)) := x_reg (ops := r13_12) (by rfl) (by rfl) s
theorem r13_12_l : r13_12.toList = [o13_12_0] := nrfl rfl
theorem s13_12_0 : stepA E C B 160 r13_12 o13_12_0 (φ, H) = stp (some 102) φ H (just (aBin E.T .lss 3 (fget φ 101) (fget φ 100))) := nrfl rfl
noncomputable def c13_37 : Code := kR c13_35
noncomputable def c13_38 : Code := kL c13_37
noncomputable def c13_39 : Code := kT c13_38
theorem x13_39 : execA E C (fg 13) B 160 E0 N c13_39 s = some (.normal, s) := x_skip (by rfl) s
noncomputable def c13_40 : Code := kE c13_38
theorem x13_40 : execA E C (fg 13) B 160 E0 N c13_40 s = some (.exit 0, s) := x_exit (by rfl) s
theorem x13_38 : execA E C (fg 13) B 160 E0 N c13_38 (φ, H) = condX (fget φ 102) (execA E C (fg 13) B 160 E0 N c13_39 (φ, H)) (execA E C (fg 13) B 160 E0 N c13_40 (φ, H)) := x_cond (by rfl) _
noncomputable def c13_41 : Code := kR c13_37
noncomputable def c13_42 : Code := kL c13_41
noncomputable def c13_43 : Code := kB c13_42
noncomputable def c13_44 : Code := kL c13_43
noncomputable def r13_13 : Array Oper := kO c13_44
noncomputable def o13_13_0 : Oper := opN r13_13 0
noncomputable def o13_13_1 : Oper := opN r13_13 1
theorem x13_44 : execA E C (fg 13) B 160 E0 N c13_44 s = regX (runA E C B 160 r13_13 r13_13.toList s) (fun s => gcM E0 [102, 103] (forget s.1 [102, 103], s.2)) := x_reg (ops := r13_13) (by rfl) (by rfl) s
theorem r13_13_l : r13_13.toList = [o13_13_0, o13_13_1] := nrfl rfl
theorem s13_13_0 : stepA E C B 160 r13_13 o13_13_0 (φ, H) = some (fput φ 103 (fget φ 101), H) := nrfl rfl
theorem s13_13_1 : stepA E C B 160 r13_13 o13_13_1 (φ, H) = some (fput φ 13 (fget φ 103), H) := nrfl rfl
noncomputable def c13_45 : Code := kR c13_43
noncomputable def c13_46 : Code := kL c13_45
noncomputable def r13_14 : Array Oper := kO c13_46
noncomputable def o13_14_0 : Oper := opN r13_14 0
noncomputable def o13_14_1 : Oper := opN r13_14 1
noncomputable def o13_14_2 : Oper := opN r13_14 2
noncomputable def o13_14_3 : Oper := opN r13_14 3
noncomputable def o13_14_4 : Oper := opN r13_14 4
noncomputable def o13_14_5 : Oper := opN r13_14 5
noncomputable def o13_14_6 : Oper := opN r13_14 6
noncomputable def o13_14_7 : Oper := opN r13_14 7
noncomputable def o13_14_8 : Oper := opN r13_14 8
noncomputable def o13_14_9 : Oper := opN r13_14 9
noncomputable def o13_14_10 : Oper := opN r13_14 10
noncomputable def o13_14_11 : Oper := opN r13_14 11
noncomputable def o13_14_12 : Oper := opN r13_14 12
noncomputable def o13_14_13 : Oper := opN r13_14 13
noncomputable def o13_14_14 : Oper := opN r13_14 14
noncomputable def o13_14_15 : Oper := opN r13_14 15
noncomputable def o13_14_16 : Oper := opN r13_14 16
theorem x13_46 : execA E C (fg 13) B 160 E0 N c13_46 s = regX (drawA E C B 160 r13_14 s) (fun s => gcM E0 [13, 104, 105, 106, 107, 108, 109, 110, 111, 112, 113, 114, 115, 116, 117, 118, 119] (forget s.1 [13, 104, 105, 106, 107, 108, 109, 110, 111, 112, 113, 114, 115, 116, 117, 118, 119], s.2)) := x_draw (ops := r13_14) (by rfl) (by rfl) s
theorem r13_14_l : r13_14.toList = [o13_14_0, o13_14_1, o13_14_2, o13_14_3, o13_14_4, o13_14_5, o13_14_6, o13_14_7, o13_14_8, o13_14_9, o13_14_10, o13_14_11, o13_14_12, o13_14_13, o13_14_14, o13_14_15, o13_14_16] := nrfl rfl
theorem r13_14_st : statOk r13_14 = true := by kernel_rfl
theorem r13_14_dr : drawA E C B 160 r13_14 s = if neat 160 s = true then drX r13_14 (runT E C B 160 r13_14 r13_14.toList 0 s) else none := draw_eq r13_14_st s
theorem r13_14_an (l : List (Nat × Tr)) : dynOk r13_14 l = (!writing l || dynPairs [[], [], [1], [0, 1, 2], [0, 1, 2, 3], [], [], [6], [5, 6, 7], [0, 1, 2, 3, 4, 5, 6, 7, 8], [], [], [11], [10, 11, 12], [0, 1, 2, 3, 4, 5, 6, 7, 8, 9, 10, 11, 12, 13], [0, 1, 2, 3, 4, 5, 6, 7, 8, 9, 10, 11, 12, 13, 14], [0, 1, 2, 3, 4, 5, 6, 7, 8, 9, 10, 11, 12, 13, 14, 15]] (touching l)) := dynOk_eq (by kernel_rfl) l
theorem s13_14_0 : stepT E C B 160 r13_14 o13_14_0 (φ, H) = some ((fput φ 104 (fget φ 8), H), ⟨false, [], []⟩) := stT_go rfl (goT_mv rfl rfl)
theorem s13_14_1 : stepT E C B 160 r13_14 o13_14_1 (φ, H) = some ((fput φ 105 (fget φ 13), H), ⟨false, [], []⟩) := stT_go rfl (goT_mv rfl rfl)
theorem s13_14_2 : stepT E C B 160 r13_14 o13_14_2 (φ, H) = stpT (some 106) φ H (just (aBin E.T .add 3 (fget φ 105) (.int .i64 1))) := stT_go rfl (goT_R rfl rfl)
theorem s13_14_3 : stepT E C B 160 r13_14 o13_14_3 (φ, H) = stpT (some 107) φ H (just (aSlice E.T 22 (fget φ 104) none (some (fget φ 106)) none)) := stT_go rfl (goT_R rfl rfl)
theorem s13_14_4 : stepT E C B 160 r13_14 o13_14_4 (φ, H) = stpT (some 108) φ H (aCall C (fun j => B + j * 160 + 108) true 58 [(fget φ 107)]) := stT_go rfl (goT_R rfl rfl)
theorem s13_14_5 : stepT E C B 160 r13_14 o13_14_5 (φ, H) = some ((fput φ 109 (fget φ 5), H), ⟨false, [], []⟩) := stT_go rfl (goT_mv rfl rfl)
theorem s13_14_6 : stepT E C B 160 r13_14 o13_14_6 (φ, H) = some ((fput φ 110 (fget φ 13), H), ⟨false, [], []⟩) := stT_go rfl (goT_mv rfl rfl)
theorem s13_14_7 : stepT E C B 160 r13_14 o13_14_7 (φ, H) = stpT (some 111) φ H (just (aBin E.T .add 3 (fget φ 110) (.int .i64 1))) := stT_go rfl (goT_R rfl rfl)
theorem s13_14_8 : stepT E C B 160 r13_14 o13_14_8 (φ, H) = stpT (some 112) φ H (just (aSlice E.T 22 (fget φ 109) none (some (fget φ 111)) none)) := stT_go rfl (goT_R rfl rfl)
theorem s13_14_9 : stepT E C B 160 r13_14 o13_14_9 (φ, H) = stpT (some 113) φ H (aCall C (fun j => B + j * 160 + 113) true 58 [(fget φ 112)]) := stT_go rfl (goT_R rfl rfl)
theorem s13_14_10 : stepT E C B 160 r13_14 o13_14_10 (φ, H) = some ((fput φ 114 (fget φ 7), H), ⟨false, [], []⟩) := stT_go rfl (goT_mv rfl rfl)
theorem s13_14_11 : stepT E C B 160 r13_14 o13_14_11 (φ, H) = some ((fput φ 115 (fget φ 13), H), ⟨false, [], []⟩) := stT_go rfl (goT_mv rfl rfl)
theorem s13_14_12 : stepT E C B 160 r13_14 o13_14_12 (φ, H) = stpT (some 116) φ H (just (aBin E.T .add 3 (fget φ 115) (.int .i64 1))) := stT_go rfl (goT_R rfl rfl)
theorem s13_14_13 : stepT E C B 160 r13_14 o13_14_13 (φ, H) = stpT (some 117) φ H (just (aSlice E.T 22 (fget φ 114) none (some (fget φ 116)) none)) := stT_go rfl (goT_R rfl rfl)
theorem s13_14_14 : stepT E C B 160 r13_14 o13_14_14 (φ, H) = stpT (some 118) φ H (aCall C (fun j => B + j * 160 + 118) true 58 [(fget φ 117)]) := stT_go rfl (goT_R rfl rfl)
theorem s13_14_15 : stepT E C B 160 r13_14 o13_14_15 (φ, H) = stpT (some 119) φ H (aBuiltin E.T (B + 119) .min #[3, 3] [(fget φ 113), (fget φ 118)]) := stT_go rfl (goT_R rfl rfl)
theorem s13_14_16 : stepT E C B 160 r13_14 o13_14_16 (φ, H) = stpT (some 120) φ H (just (aBin E.T .neq 3 (fget φ 108) (fget φ 119))) := stT_go rfl (goT_R rfl rfl)
noncomputable def c13_47 : Code := kR c13_45
noncomputable def c13_48 : Code := kT c13_47
noncomputable def c13_49 : Code := kL c13_48
noncomputable def r13_15 : Array Oper := kO c13_49
noncomputable def o13_15_0 : Oper := opN r13_15 0
theorem x13_49 : execA E C (fg 13) B 160 E0 N c13_49 s = regX (runA E C B 160 r13_15 r13_15.toList s) (fun s => gcM E0 [5, 6, 7, 8, 10, 100, 101, 120] (forget s.1 [5, 6, 7, 8, 10, 100, 101, 120], s.2)) := x_reg (ops := r13_15) (by rfl) (by rfl) s
theorem r13_15_l : r13_15.toList = [o13_15_0] := nrfl rfl
theorem s13_15_0 : stepA E C B 160 r13_15 o13_15_0 (φ, H) = some (fput φ 4 (.bool false), H) := nrfl rfl
noncomputable def c13_50 : Code := kR c13_48
theorem x13_50 : execA E C (fg 13) B 160 E0 N c13_50 s = some (.ret, s) := x_ret (by rfl) s
theorem x13_48 : execA E C (fg 13) B 160 E0 N c13_48 s = seqX (execA E C (fg 13) B 160 E0 N c13_49 s) (execA E C (fg 13) B 160 E0 N c13_50) := x_seq (by rfl) s
noncomputable def c13_51 : Code := kE c13_47
theorem x13_51 : execA E C (fg 13) B 160 E0 N c13_51 s = some (.normal, s) := x_skip (by rfl) s
theorem x13_47 : execA E C (fg 13) B 160 E0 N c13_47 (φ, H) = condX (fget φ 120) (execA E C (fg 13) B 160 E0 N c13_48 (φ, H)) (execA E C (fg 13) B 160 E0 N c13_51 (φ, H)) := x_cond (by rfl) _
theorem x13_45 : execA E C (fg 13) B 160 E0 N c13_45 s = seqX (execA E C (fg 13) B 160 E0 N c13_46 s) (execA E C (fg 13) B 160 E0 N c13_47) := x_seq (by rfl) s
theorem x13_43 : execA E C (fg 13) B 160 E0 N c13_43 s = seqX (execA E C (fg 13) B 160 E0 N c13_44 s) (execA E C (fg 13) B 160 E0 N c13_45) := x_seq (by rfl) s
theorem x13_42 : execA E C (fg 13) B 160 E0 N c13_42 s = blockX 1 (fun s => (forget s.1 [120], s.2)) (execA E C (fg 13) B 160 E0 N c13_43 s) := x_block (by rfl) (by rfl) s
noncomputable def c13_52 : Code := kR c13_41
noncomputable def r13_16 : Array Oper := kO c13_52
noncomputable def o13_16_0 : Oper := opN r13_16 0
noncomputable def o13_16_1 : Oper := opN r13_16 1
theorem x13_52 : execA E C (fg 13) B 160 E0 N c13_52 s = regX (runA E C B 160 r13_16 r13_16.toList s) (fun s => gcM E0 [121] (forget s.1 [121], s.2)) := x_reg (ops := r13_16) (by rfl) (by rfl) s
theorem r13_16_l : r13_16.toList = [o13_16_0, o13_16_1] := nrfl rfl
theorem s13_16_0 : stepA E C B 160 r13_16 o13_16_0 (φ, H) = stp (some 121) φ H (just (aBin E.T .add 3 (fget φ 101) (.int .i64 1))) := nrfl rfl
theorem s13_16_1 : stepA E C B 160 r13_16 o13_16_1 (φ, H) = some (fput φ 101 (fget φ 121), H) := nrfl rfl
theorem x13_41 : execA E C (fg 13) B 160 E0 N c13_41 s = seqX (execA E C (fg 13) B 160 E0 N c13_42 s) (execA E C (fg 13) B 160 E0 N c13_52) := x_seq (by rfl) s
theorem x13_37 : execA E C (fg 13) B 160 E0 N c13_37 s = seqX (execA E C (fg 13) B 160 E0 N c13_38 s) (execA E C (fg 13) B 160 E0 N c13_41) := x_seq (by rfl) s
theorem x13_35 : execA E C (fg 13) B 160 E0 N c13_35 s = seqX (execA E C (fg 13) B 160 E0 N c13_36 s) (execA E C (fg 13) B 160 E0 N c13_37) := x_seq (by rfl) s
theorem x13_34 : execA E C (fg 13) B 160 E0 N c13_34 s = iterA (execA E C (fg 13) B 160 E0 N c13_35) (headA E0) N s := x_loop (by rfl) s
theorem x13_33 : execA E C (fg 13) B 160 E0 N c13_33 s = blockX 0 (fun s => (forget s.1 [100, 101, 102], s.2)) (execA E C (fg 13) B 160 E0 N c13_34 s) := x_block (by rfl) (by rfl) s
theorem x13_31 : execA E C (fg 13) B 160 E0 N c13_31 s = seqX (execA E C (fg 13) B 160 E0 N c13_32 s) (execA E C (fg 13) B 160 E0 N c13_33) := x_seq (by rfl) s
noncomputable def c13_53 : Code := kR c13_30
noncomputable def c13_54 : Code := kL c13_53
noncomputable def c13_55 : Code := kL c13_54
noncomputable def r13_17 : Array Oper := kO c13_55
noncomputable def o13_17_0 : Oper := opN r13_17 0
noncomputable def o13_17_1 : Oper := opN r13_17 1
noncomputable def o13_17_2 : Oper := opN r13_17 2
theorem x13_55 : execA E C (fg 13) B 160 E0 N c13_55 s = regX (runA E C B 160 r13_17 r13_17.toList s) (fun s => gcM E0 [6] (forget s.1 [6], s.2)) := x_reg (ops := r13_17) (by rfl) (by rfl) s
theorem r13_17_l : r13_17.toList = [o13_17_0, o13_17_1, o13_17_2] := nrfl rfl
theorem s13_17_0 : stepA E C B 160 r13_17 o13_17_0 (φ, H) = stp (some 122) φ H (just (aLoad E.T 39 (fget φ 6))) := nrfl rfl
theorem s13_17_1 : stepA E C B 160 r13_17 o13_17_1 (φ, H) = stp (some 123) φ H (aBuiltin E.T (B + 123) .len #[39] [(fget φ 122)]) := nrfl rfl
theorem s13_17_2 : stepA E C B 160 r13_17 o13_17_2 (φ, H) = some (fput φ 124 (.int .i64 0), H) := nrfl rfl
noncomputable def c13_56 : Code := kR c13_54
noncomputable def c13_57 : Code := kB c13_56
noncomputable def c13_58 : Code := kB c13_57
noncomputable def c13_59 : Code := kL c13_58
noncomputable def r13_18 : Array Oper := kO c13_59
noncomputable def o13_18_0 : Oper := opN r13_18 0
theorem x13_59 : execA E C (fg 13) B 160 E0 N c13_59 s = regX (runA E C B 160 r13_18 r13_18.toList s) (fun s => gcM E0 [] (forget s.1 [], s.2)) := x_reg (ops := r13_18) (by rfl) (by rfl) s
theorem r13_18_l : r13_18.toList = [o13_18_0] := nrfl rfl
theorem s13_18_0 : stepA E C B 160 r13_18 o13_18_0 (φ, H) = stp (some 125) φ H (just (aBin E.T .lss 3 (fget φ 124) (fget φ 123))) := nrfl rfl
noncomputable def c13_60 : Code := kR c13_58
noncomputable def c13_61 : Code := kL c13_60
noncomputable def c13_62 : Code := kT c13_61
theorem x13_62 : execA E C (fg 13) B 160 E0 N c13_62 s = some (.normal, s) := x_skip (by rfl) s
noncomputable def c13_63 : Code := kE c13_61
theorem x13_63 : execA E C (fg 13) B 160 E0 N c13_63 s = some (.exit 2, s) := x_exit (by rfl) s
theorem x13_61 : execA E C (fg 13) B 160 E0 N c13_61 (φ, H) = condX (fget φ 125) (execA E C (fg 13) B 160 E0 N c13_62 (φ, H)) (execA E C (fg 13) B 160 E0 N c13_63 (φ, H)) := x_cond (by rfl) _
noncomputable def c13_64 : Code := kR c13_60
noncomputable def c13_65 : Code := kL c13_64
noncomputable def c13_66 : Code := kB c13_65
noncomputable def c13_67 : Code := kL c13_66
noncomputable def r13_19 : Array Oper := kO c13_67
noncomputable def o13_19_0 : Oper := opN r13_19 0
noncomputable def o13_19_1 : Oper := opN r13_19 1
noncomputable def o13_19_2 : Oper := opN r13_19 2
theorem x13_67 : execA E C (fg 13) B 160 E0 N c13_67 s = regX (runA E C B 160 r13_19 r13_19.toList s) (fun s => gcM E0 [125, 126, 127] (forget s.1 [125, 126, 127], s.2)) := x_reg (ops := r13_19) (by rfl) (by rfl) s
theorem r13_19_l : r13_19.toList = [o13_19_0, o13_19_1, o13_19_2] := nrfl rfl
theorem s13_19_0 : stepA E C B 160 r13_19 o13_19_0 (φ, H) = stp (some 126) φ H (just (aIndexAddr E.T 39 (fget φ 122) (fget φ 124))) := nrfl rfl
theorem s13_19_1 : stepA E C B 160 r13_19 o13_19_1 (φ, H) = stp (some 127) φ H (just (aLoad E.T 22 (fget φ 126))) := nrfl rfl
theorem s13_19_2 : stepA E C B 160 r13_19 o13_19_2 (φ, H) = some (fput φ 15 (fget φ 127), H) := nrfl rfl
noncomputable def c13_68 : Code := kR c13_66
noncomputable def c13_69 : Code := kL c13_68
noncomputable def r13_20 : Array Oper := kO c13_69
noncomputable def o13_20_0 : Oper := opN r13_20 0
noncomputable def o13_20_1 : Oper := opN r13_20 1
noncomputable def o13_20_2 : Oper := opN r13_20 2
noncomputable def o13_20_3 : Oper := opN r13_20 3
noncomputable def o13_20_4 : Oper := opN r13_20 4
noncomputable def o13_20_5 : Oper := opN r13_20 5
noncomputable def o13_20_6 : Oper := opN r13_20 6
noncomputable def o13_20_7 : Oper := opN r13_20 7
noncomputable def o13_20_8 : Oper := opN r13_20 8
noncomputable def o13_20_9 : Oper := opN r13_20 9
noncomputable def o13_20_10 : Oper := opN r13_20 10
noncomputable def o13_20_11 : Oper := opN r13_20 11
noncomputable def o13_20_12 : Oper := opN r13_20 12
noncomputable def o13_20_13 : Oper := opN r13_20 13
noncomputable def o13_20_14 : Oper := opN r13_20 14
noncomputable def o13_20_15 : Oper := opN r13_20 15
noncomputable def o13_20_16 : Oper := opN r13_20 16
noncomputable def o13_20_17 : Oper := opN r13_20 17
noncomputable def o13_20_18 : Oper := opN r13_20 18
noncomputable def o13_20_19 : Oper := opN r13_20 19
noncomputable def o13_20_20 : Oper := opN r13_20 20
noncomputable def o13_20_21 : Oper := opN r13_20 21
noncomputable def o13_20_22 : Oper := opN r13_20 22
noncomputable def o13_20_23 : Oper := opN r13_20 23
noncomputable def o13_20_24 : Oper := opN r13_20 24
noncomputable def o13_20_25 : Oper := opN r13_20 25
noncomputable def o13_20_26 : Oper := opN r13_20 26
noncomputable def o13_20_27 : Oper := opN r13_20 27
noncomputable def o13_20_28 : Oper := opN r13_20 28
noncomputable def o13_20_29 : Oper := opN r13_20 29
theorem x13_69 : execA E C (fg 13) B 160 E0 N c13_69 s = regX (runA E C B 160 r13_20 r13_20.toList s) (fun s => gcM E0 [15, 128, 129, 130, 131, 132, 133, 134, 135, 136, 137, 138, 139, 140, 141, 142, 143, 144, 145, 146, 147, 148, 149, 150, 151, 152, 153, 154, 155, 156] (forget s.1 [15, 128, 129, 130, 131, 132, 133, 134, 135, 136, 137, 138, 139, 140, 141, 142, 143, 144, 145, 146, 147, 148, 149, 150, 151, 152, 153, 154, 155, 156], s.2)) := x_reg (ops := r13_20) (by rfl) (by rfl) s
theorem r13_20_l : r13_20.toList = [o13_20_0, o13_20_1, o13_20_2, o13_20_3, o13_20_4, o13_20_5, o13_20_6, o13_20_7, o13_20_8, o13_20_9, o13_20_10, o13_20_11, o13_20_12, o13_20_13, o13_20_14, o13_20_15, o13_20_16, o13_20_17, o13_20_18, o13_20_19, o13_20_20, o13_20_21, o13_20_22, o13_20_23, o13_20_24, o13_20_25, o13_20_26, o13_20_27, o13_20_28, o13_20_29] := nrfl rfl
theorem s13_20_0 : stepA E C B 160 r13_20 o13_20_0 (φ, H) = some (fput φ 128 (fget φ 5), H) := nrfl rfl
theorem s13_20_1 : stepA E C B 160 r13_20 o13_20_1 (φ, H) = some (fput φ 129 (fget φ 15), H) := nrfl rfl
theorem s13_20_2 : stepA E C B 160 r13_20 o13_20_2 (φ, H) = stp (some 130) φ H (aCall C (fun j => B + j * 160 + 130) true 62 [(fget φ 128), (fget φ 129)]) := nrfl rfl
theorem s13_20_3 : stepA E C B 160 r13_20 o13_20_3 (φ, H) = some (fput φ 131 (fget φ 130), H) := nrfl rfl
theorem s13_20_4 : stepA E C B 160 r13_20 o13_20_4 (φ, H) = gd φ 131 true (fun φ => some (fput φ 132 (.tup []), H)) (fun φ => some (fput φ 132 (fget φ 7), H)) := s_gd (j := 3) (oj := o13_20_3) rfl rfl rfl (fun _ => rfl) (fun _ => rfl)
theorem s13_20_5 : stepA E C B 160 r13_20 o13_20_5 (φ, H) = gd φ 131 true (fun φ => some (fput φ 133 (.tup []), H)) (fun φ => some (fput φ 133 (fget φ 15), H)) := s_gd (j := 3) (oj := o13_20_3) rfl rfl rfl (fun _ => rfl) (fun _ => rfl)
theorem s13_20_6 : stepA E C B 160 r13_20 o13_20_6 (φ, H) = gd φ 131 true (fun φ => some (fput φ 134 (.tup []), H)) (fun φ => stp (some 134) φ H (aCall C (fun j => B + j * 160 + 134) true 62 [(fget φ 132), (fget φ 133)])) := s_gd (j := 3) (oj := o13_20_3) rfl rfl rfl (fun _ => rfl) (fun _ => rfl)
theorem s13_20_7 : stepA E C B 160 r13_20 o13_20_7 (φ, H) = stp (some 135) φ H (opPick (fget φ 131) (fget φ 134) (.bool false)) := nrfl rfl
theorem s13_20_8 : stepA E C B 160 r13_20 o13_20_8 (φ, H) = some (fput φ 136 (fget φ 135), H) := nrfl rfl
theorem s13_20_9 : stepA E C B 160 r13_20 o13_20_9 (φ, H) = gd φ 136 true (fun φ => some (fput φ 137 (.tup []), H)) (fun φ => some (fput φ 137 (fget φ 8), H)) := s_gd (j := 8) (oj := o13_20_8) rfl rfl rfl (fun _ => rfl) (fun _ => rfl)
theorem s13_20_10 : stepA E C B 160 r13_20 o13_20_10 (φ, H) = gd φ 136 true (fun φ => some (fput φ 138 (.tup []), H)) (fun φ => some (fput φ 138 (fget φ 15), H)) := s_gd (j := 8) (oj := o13_20_8) rfl rfl rfl (fun _ => rfl) (fun _ => rfl)
theorem s13_20_11 : stepA E C B 160 r13_20 o13_20_11 (φ, H) = gd φ 136 true (fun φ => some (fput φ 139 (.tup []), H)) (fun φ => stp (some 139) φ H (aCall C (fun j => B + j * 160 + 139) true 62 [(fget φ 137), (fget φ 138)])) := s_gd (j := 8) (oj := o13_20_8) rfl rfl rfl (fun _ => rfl) (fun _ => rfl)
theorem s13_20_12 : stepA E C B 160 r13_20 o13_20_12 (φ, H) = gd φ 136 true (fun φ => some (fput φ 140 (.tup []), H)) (fun φ => stp (some 140) φ H (justO (aUn .not (fget φ 139)))) := s_gd (j := 8) (oj := o13_20_8) rfl rfl rfl (fun _ => rfl) (fun _ => rfl)
theorem s13_20_13 : stepA E C B 160 r13_20 o13_20_13 (φ, H) = stp (some 141) φ H (opPick (fget φ 136) (fget φ 140) (.bool false)) := nrfl rfl
theorem s13_20_14 : stepA E C B 160 r13_20 o13_20_14 (φ, H) = some (fput φ 142 (fget φ 141), H) := nrfl rfl
theorem s13_20_15 : stepA E C B 160 r13_20 o13_20_15 (φ, H) = gd φ 142 false (fun φ => some (fput φ 143 (.tup []), H)) (fun φ => some (fput φ 143 (fget φ 15), H)) := s_gd (j := 14) (oj := o13_20_14) rfl rfl rfl (fun _ => rfl) (fun _ => rfl)
theorem s13_20_16 : stepA E C B 160 r13_20 o13_20_16 (φ, H) = gd φ 142 false (fun φ => some (fput φ 144 (.tup []), H)) (fun φ => some (fput φ 144 (fget φ 5), H)) := s_gd (j := 14) (oj := o13_20_14) rfl rfl rfl (fun _ => rfl) (fun _ => rfl)
theorem s13_20_17 : stepA E C B 160 r13_20 o13_20_17 (φ, H) = gd φ 142 false (fun φ => some (fput φ 145 (.tup []), H)) (fun φ => stp (some 145) φ H (aCall C (fun j => B + j * 160 + 145) true 62 [(fget φ 143), (fget φ 144)])) := s_gd (j := 14) (oj := o13_20_14) rfl rfl rfl (fun _ => rfl) (fun _ => rfl)
theorem s13_20_18 : stepA E C B 160 r13_20 o13_20_18 (φ, H) = gd φ 142 false (fun φ => some (fput φ 146 (.tup []), H)) (fun φ => some (fput φ 146 (fget φ 145), H)) := s_gd (j := 14) (oj := o13_20_14) rfl rfl rfl (fun _ => rfl) (fun _ => rfl)
theorem s13_20_19 : stepA E C B 160 r13_20 o13_20_19 (φ, H) = gd φ 146 true (fun φ => some (fput φ 147 (.tup []), H)) (fun φ => some (fput φ 147 (fget φ 15), H)) := s_gd (j := 18) (oj := o13_20_18) rfl rfl rfl (fun _ => rfl) (fun _ => rfl)
theorem s13_20_20 : stepA E C B 160 r13_20 o13_20_20 (φ, H) = gd φ 146 true (fun φ => some (fput φ 148 (.tup []), H)) (fun φ => some (fput φ 148 (fget φ 7), H)) := s_gd (j := 18) (oj := o13_20_18) rfl rfl rfl (fun _ => rfl) (fun _ => rfl)
theorem s13_20_21 : stepA E C B 160 r13_20 o13_20_21 (φ, H) = gd φ 146 true (fun φ => some (fput φ 149 (.tup []), H)) (fun φ => stp (some 149) φ H (aCall C (fun j => B + j * 160 + 149) true 62 [(fget φ 147), (fget φ 148)])) := s_gd (j := 18) (oj := o13_20_18) rfl rfl rfl (fun _ => rfl) (fun _ => rfl)
theorem s13_20_22 : stepA E C B 160 r13_20 o13_20_22 (φ, H) = gd φ 142 false (fun φ => some (fput φ 150 (.tup []), H)) (fun φ => stp (some 150) φ H (opPick (fget φ 146) (fget φ 149) (.bool false))) := s_gd (j := 14) (oj := o13_20_14) rfl rfl rfl (fun _ => rfl) (fun _ => rfl)
theorem s13_20_23 : stepA E C B 160 r13_20 o13_20_23 (φ, H) = gd φ 142 false (fun φ => some (fput φ 151 (.tup []), H)) (fun φ => some (fput φ 151 (fget φ 150), H)) := s_gd (j := 14) (oj := o13_20_14) rfl rfl rfl (fun _ => rfl) (fun _ => rfl)
theorem s13_20_24 : stepA E C B 160 r13_20 o13_20_24 (φ, H) = gd φ 151 true (fun φ => some (fput φ 152 (.tup []), H)) (fun φ => some (fput φ 152 (fget φ 15), H)) := s_gd (j := 23) (oj := o13_20_23) rfl rfl rfl (fun _ => rfl) (fun _ => rfl)
theorem s13_20_25 : stepA E C B 160 r13_20 o13_20_25 (φ, H) = gd φ 151 true (fun φ => some (fput φ 153 (.tup []), H)) (fun φ => some (fput φ 153 (fget φ 10), H)) := s_gd (j := 23) (oj := o13_20_23) rfl rfl rfl (fun _ => rfl) (fun _ => rfl)
theorem s13_20_26 : stepA E C B 160 r13_20 o13_20_26 (φ, H) = gd φ 151 true (fun φ => some (fput φ 154 (.tup []), H)) (fun φ => stp (some 154) φ H (aCall C (fun j => B + j * 160 + 154) true 62 [(fget φ 152), (fget φ 153)])) := s_gd (j := 23) (oj := o13_20_23) rfl rfl rfl (fun _ => rfl) (fun _ => rfl)
theorem s13_20_27 : stepA E C B 160 r13_20 o13_20_27 (φ, H) = gd φ 151 true (fun φ => some (fput φ 155 (.tup []), H)) (fun φ => stp (some 155) φ H (justO (aUn .not (fget φ 154)))) := s_gd (j := 23) (oj := o13_20_23) rfl rfl rfl (fun _ => rfl) (fun _ => rfl)
theorem s13_20_28 : stepA E C B 160 r13_20 o13_20_28 (φ, H) = gd φ 142 false (fun φ => some (fput φ 156 (.tup []), H)) (fun φ => stp (some 156) φ H (opPick (fget φ 151) (fget φ 155) (.bool false))) := s_gd (j := 14) (oj := o13_20_14) rfl rfl rfl (fun _ => rfl) (fun _ => rfl)
theorem s13_20_29 : stepA E C B 160 r13_20 o13_20_29 (φ, H) = stp (some 157) φ H (opPick (fget φ 142) (.bool true) (fget φ 156)) := nrfl rfl
noncomputable def c13_70 : Code := kR c13_68
noncomputable def c13_71 : Code := kT c13_70
noncomputable def c13_72 : Code := kL c13_71
noncomputable def r13_21 : Array Oper := kO c13_72
noncomputable def o13_21_0 : Oper := opN r13_21 0
theorem x13_72 : execA E C (fg 13) B 160 E0 N c13_72 s = regX (runA E C B 160 r13_21 r13_21.toList s) (fun s => gcM E0 [5, 7, 8, 10, 122, 123, 124, 157] (forget s.1 [5, 7, 8, 10, 122, 123, 124, 157], s.2)) := x_reg (ops := r13_21) (by rfl) (by rfl) s
theorem r13_21_l : r13_21.toList = [o13_21_0] := nrfl rfl
theorem s13_21_0 : stepA E C B 160 r13_21 o13_21_0 (φ, H) = some (fput φ 4 (.bool false), H) := nrfl rfl
noncomputable def c13_73 : Code := kR c13_71
theorem x13_73 : execA E C (fg 13) B 160 E0 N c13_73 s = some (.ret, s) := x_ret (by rfl) s
theorem x13_71 : execA E C (fg 13) B 160 E0 N c13_71 s = seqX (execA E C (fg 13) B 160 E0 N c13_72 s) (execA E C (fg 13) B 160 E0 N c13_73) := x_seq (by rfl) s
noncomputable def c13_74 : Code := kE c13_70
theorem x13_74 : execA E C (fg 13) B 160 E0 N c13_74 s = some (.normal, s) := x_skip (by rfl) s
theorem x13_70 : execA E C (fg 13) B 160 E0 N c13_70 (φ, H) = condX (fget φ 157) (execA E C (fg 13) B 160 E0 N c13_71 (φ, H)) (execA E C (fg 13) B 160 E0 N c13_74 (φ, H)) := x_cond (by rfl) _
theorem x13_68 : execA E C (fg 13) B 160 E0 N c13_68 s = seqX (execA E C (fg 13) B 160 E0 N c13_69 s) (execA E C (fg 13) B 160 E0 N c13_70) := x_seq (by rfl) s
theorem x13_66 : execA E C (fg 13) B 160 E0 N c13_66 s = seqX (execA E C (fg 13) B 160 E0 N c13_67 s) (execA E C (fg 13) B 160 E0 N c13_68) := x_seq (by rfl) s
theorem x13_65 : execA E C (fg 13) B 160 E0 N c13_65 s = blockX 3 (fun s => (forget s.1 [157], s.2)) (execA E C (fg 13) B 160 E0 N c13_66 s) := x_block (by rfl) (by rfl) s
noncomputable def c13_75 : Code := kR c13_64
noncomputable def r13_22 : Array Oper := kO c13_75
noncomputable def o13_22_0 : Oper := opN r13_22 0
noncomputable def o13_22_1 : Oper := opN r13_22 1
theorem x13_75 : execA E C (fg 13) B 160 E0 N c13_75 s = regX (runA E C B 160 r13_22 r13_22.toList s) (fun s => gcM E0 [158] (forget s.1 [158], s.2)) := x_reg (ops := r13_22) (by rfl) (by rfl) s
theorem r13_22_l : r13_22.toList = [o13_22_0, o13_22_1] := nrfl rfl
theorem s13_22_0 : stepA E C B 160 r13_22 o13_22_0 (φ, H) = stp (some 158) φ H (just (aBin E.T .add 3 (fget φ 124) (.int .i64 1))) := nrfl rfl
theorem s13_22_1 : stepA E C B 160 r13_22 o13_22_1 (φ, H) = some (fput φ 124 (fget φ 158), H) := nrfl rfl
theorem x13_64 : execA E C (fg 13) B 160 E0 N c13_64 s = seqX (execA E C (fg 13) B 160 E0 N c13_65 s) (execA E C (fg 13) B 160 E0 N c13_75) := x_seq (by rfl) s
theorem x13_60 : execA E C (fg 13) B 160 E0 N c13_60 s = seqX (execA E C (fg 13) B 160 E0 N c13_61 s) (execA E C (fg 13) B 160 E0 N c13_64) := x_seq (by rfl) s
theorem x13_58 : execA E C (fg 13) B 160 E0 N c13_58 s = seqX (execA E C (fg 13) B 160 E0 N c13_59 s) (execA E C (fg 13) B 160 E0 N c13_60) := x_seq (by rfl) s
theorem x13_57 : execA E C (fg 13) B 160 E0 N c13_57 s = iterA (execA E C (fg 13) B 160 E0 N c13_58) (headA E0) N s := x_loop (by rfl) s
theorem x13_56 : execA E C (fg 13) B 160 E0 N c13_56 s = blockX 2 (fun s => (forget s.1 [5, 7, 8, 10, 122, 123, 124, 125], s.2)) (execA E C (fg 13) B 160 E0 N c13_57 s) := x_block (by rfl) (by rfl) s
theorem x13_54 : execA E C (fg 13) B 160 E0 N c13_54 s = seqX (execA E C (fg 13) B 160 E0 N c13_55 s) (execA E C (fg 13) B 160 E0 N c13_56) := x_seq (by rfl) s
noncomputable def c13_76 : Code := kR c13_53
noncomputable def c13_77 : Code := kL c13_76
noncomputable def r13_23 : Array Oper := kO c13_77
noncomputable def o13_23_0 : Oper := opN r13_23 0
noncomputable def o13_23_1 : Oper := opN r13_23 1
theorem x13_77 : execA E C (fg 13) B 160 E0 N c13_77 s = regX (runA E C B 160 r13_23 r13_23.toList s) (fun s => gcM E0 [159] (forget s.1 [159], s.2)) := x_reg (ops := r13_23) (by rfl) (by rfl) s
theorem r13_23_l : r13_23.toList = [o13_23_0, o13_23_1] := nrfl rfl
theorem s13_23_0 : stepA E C B 160 r13_23 o13_23_0 (φ, H) = stp (some 159) φ H (aCall C (fun j => B + j * 160 + 159) true 17 []) := nrfl rfl
theorem s13_23_1 : stepA E C B 160 r13_23 o13_23_1 (φ, H) = some (fput φ 4 (fget φ 159), H) := nrfl rfl
noncomputable def c13_78 : Code := kR c13_76
theorem x13_78 : execA E C (fg 13) B 160 E0 N c13_78 s = some (.ret, s) := x_ret (by rfl) s
theorem x13_76 : execA E C (fg 13) B 160 E0 N c13_76 s = seqX (execA E C (fg 13) B 160 E0 N c13_77 s) (execA E C (fg 13) B 160 E0 N c13_78) := x_seq (by rfl) s
theorem x13_53 : execA E C (fg 13) B 160 E0 N c13_53 s = seqX (execA E C (fg 13) B 160 E0 N c13_54 s) (execA E C (fg 13) B 160 E0 N c13_76) := x_seq (by rfl) s
theorem x13_30 : execA E C (fg 13) B 160 E0 N c13_30 s = seqX (execA E C (fg 13) B 160 E0 N c13_31 s) (execA E C (fg 13) B 160 E0 N c13_53) := x_seq (by rfl) s
theorem x13_22 : execA E C (fg 13) B 160 E0 N c13_22 s = seqX (execA E C (fg 13) B 160 E0 N c13_23 s) (execA E C (fg 13) B 160 E0 N c13_30) := x_seq (by rfl) s
theorem x13_20 : execA E C (fg 13) B 160 E0 N c13_20 s = seqX (execA E C (fg 13) B 160 E0 N c13_21 s) (execA E C (fg 13) B 160 E0 N c13_22) := x_seq (by rfl) s
theorem x13_12 : execA E C (fg 13) B 160 E0 N c13_12 s = seqX (execA E C (fg 13) B 160 E0 N c13_13 s) (execA E C (fg 13) B 160 E0 N c13_20) := x_seq (by rfl) s
theorem x13_10 : execA E C (fg 13) B 160 E0 N c13_10 s = seqX (execA E C (fg 13) B 160 E0 N c13_11 s) (execA E C (fg 13) B 160 E0 N c13_12) := x_seq (by rfl) s
theorem x13_8 : execA E C (fg 13) B 160 E0 N c13_8 s = seqX (execA E C (fg 13) B 160 E0 N c13_9 s) (execA E C (fg 13) B 160 E0 N c13_10) := x_seq (by rfl) s
theorem x13_6 : execA E C (fg 13) B 160 E0 N c13_6 s = seqX (execA E C (fg 13) B 160 E0 N c13_7 s) (execA E C (fg 13) B 160 E0 N c13_8) := x_seq (by rfl) s
theorem x13_4 : execA E C (fg 13) B 160 E0 N c13_4 s = seqX (execA E C (fg 13) B 160 E0 N c13_5 s) (execA E C (fg 13) B 160 E0 N c13_6) := x_seq (by rfl) s
theorem x13_2 : execA E C (fg 13) B 160 E0 N c13_2 s = seqX (execA E C (fg 13) B 160 E0 N c13_3 s) (execA E C (fg 13) B 160 E0 N c13_4) := x_seq (by rfl) s
theorem x13_0 : execA E C (fg 13) B 160 E0 N c13_0 s = seqX (execA E C (fg 13) B 160 E0 N c13_1 s) (execA E C (fg 13) B 160 E0 N c13_2) := x_seq (by rfl) s
theorem fi_13 : fInfo E 13 = some ⟨160, #[.tmp 4], c13_0⟩ := nrfl rfl
theorem b_13 (args : List AV) : bodyA E C fg N 13 args H B = bodyX E [.tmp 4] (execA E C (fg 13) B 160 H N c13_0 (frame0 args 0 [], H)) := bodyA_eq fi_13 args H
abbrev F_13 := And.intro (And.intro (And.intro (And.intro (And.intro (And.intro (And.intro (And.intro @x13_1 @r13_0_l) (And.intro @s13_0_0 @s13_0_1)) (And.intro (And.intro @s13_0_2 @x13_3) (And.intro @r13_1_l @s13_1_0))) (And.intro (And.intro (And.intro @s13_1_1 @s13_1_2) (And.intro @x13_5 @r13_2_l)) (And.intro (And.intro @s13_2_0 @s13_2_1) (And.intro @s13_2_2 (And.intro @s13_2_3 @s13_2_4))))) (And.intro (And.intro (And.intro (And.intro @s13_2_5 @s13_2_6) (And.intro @x13_7 @r13_3_l)) (And.intro (And.intro @r13_3_dr @r13_3_an) (And.intro @s13_3_0 @s13_3_1))) (And.intro (And.intro (And.intro @s13_3_2 @s13_3_3) (And.intro @s13_3_4 @s13_3_5)) (And.intro (And.intro @s13_3_6 @s13_3_7) (And.intro @s13_3_8 (And.intro @s13_3_9 @x13_9)))))) (And.intro (And.intro (And.intro (And.intro (And.intro @r13_4_l @s13_4_0) (And.intro @s13_4_1 @s13_4_2)) (And.intro (And.intro @s13_4_3 @s13_4_4) (And.intro @s13_4_5 @s13_4_6))) (And.intro (And.intro (And.intro @s13_4_7 @x13_11) (And.intro @r13_5_l @s13_5_0)) (And.intro (And.intro @s13_5_1 @s13_5_2) (And.intro @s13_5_3 (And.intro @s13_5_4 @s13_5_5))))) (And.intro (And.intro (And.intro (And.intro @s13_5_6 @s13_5_7) (And.intro @x13_14 @r13_6_l)) (And.intro (And.intro @s13_6_0 @s13_6_1) (And.intro @s13_6_2 @s13_6_3))) (And.intro (And.intro (And.intro @s13_6_4 @s13_6_5) (And.intro @s13_6_6 @s13_6_7)) (And.intro (And.intro @s13_6_8 @s13_6_9) (And.intro @s13_6_10 (And.intro @s13_6_11 @s13_6_12))))))) (And.intro (And.intro (And.intro (And.intro (And.intro (And.intro @s13_6_13 @s13_6_14) (And.intro @s13_6_15 @s13_6_16)) (And.intro (And.intro @s13_6_17 @s13_6_18) (And.intro @s13_6_19 @x13_17))) (And.intro (And.intro (And.intro @r13_7_l @s13_7_0) (And.intro @x13_18 @x13_16)) (And.intro (And.intro @x13_19 @x13_15) (And.intro @x13_13 (And.intro @x13_21 @r13_8_l))))) (And.intro (And.intro (And.intro (And.intro @s13_8_0 @s13_8_1) (And.intro @x13_24 @r13_9_l)) (And.intro (And.intro @s13_9_0 @s13_9_1) (And.intro @s13_9_2 @s13_9_3))) (And.intro (And.intro (And.intro @s13_9_4 @s13_9_5) (And.intro @s13_9_6 @s13_9_7)) (And.intro (And.intro @s13_9_8 @s13_9_9) (And.intro @s13_9_10 (And.intro @s13_9_11 @s13_9_12)))))) (And.intro (And.intro (And.intro (And.intro (And.intro @s13_9_13 @s13_9_14) (And.intro @s13_9_15 @s13_9_16)) (And.intro (And.intro @s13_9_17 @s13_9_18) (And.intro @s13_9_19 @s13_9_20))) (And.intro (And.intro (And.intro @s13_9_21 @s13_9_22) (And.intro @s13_9_23 @s13_9_24)) (And.intro (And.intro @s13_9_25 @s13_9_26) (And.intro @s13_9_27 (And.intro @s13_9_28 @s13_9_29))))) (And.intro (And.intro (And.intro (And.intro @s13_9_30 @s13_9_31) (And.intro @s13_9_32 @s13_9_33)) (And.intro (And.intro @x13_27 @r13_10_l) (And.intro @s13_10_0 @x13_28))) (And.intro (And.intro (And.intro @x13_26 @x13_29) (And.intro @x13_25 @x13_23)) (And.intro (And.intro @x13_32 @r13_11_l) (And.intro @s13_11_0 (And.intro @s13_11_1 @s13_11_2)))))))) (And.intro (And.intro (And.intro (And.intro (And.intro (And.intro (And.intro @x13_36 @r13_12_l) (And.intro @s13_12_0 @x13_39)) (And.intro (And.intro @x13_40 @x13_38) (And.intro @x13_44 @r13_13_l))) (And.intro (And.intro (And.intro @s13_13_0 @s13_13_1) (And.intro @x13_46 @r13_14_l)) (And.intro (And.intro @r13_14_dr @r13_14_an) (And.intro @s13_14_0 (And.intro @s13_14_1 @s13_14_2))))) (And.intro (And.intro (And.intro (And.intro @s13_14_3 @s13_14_4) (And.intro @s13_14_5 @s13_14_6)) (And.intro (And.intro @s13_14_7 @s13_14_8) (And.intro @s13_14_9 @s13_14_10))) (And.intro (And.intro (And.intro @s13_14_11 @s13_14_12) (And.intro @s13_14_13 @s13_14_14)) (And.intro (And.intro @s13_14_15 @s13_14_16) (And.intro @x13_49 (And.intro @r13_15_l @s13_15_0)))))) (And.intro (And.intro (And.intro (And.intro (And.intro @x13_50 @x13_48) (And.intro @x13_51 @x13_47)) (And.intro (And.intro @x13_45 @x13_43) (And.intro @x13_42 @x13_52))) (And.intro (And.intro (And.intro @r13_16_l @s13_16_0) (And.intro @s13_16_1 @x13_41)) (And.intro (And.intro @x13_37 @x13_35) (And.intro @x13_34 (And.intro @x13_33 @x13_31))))) (And.intro (And.intro (And.intro (And.intro @x13_55 @r13_17_l) (And.intro @s13_17_0 @s13_17_1)) (And.intro (And.intro @s13_17_2 @x13_59) (And.intro @r13_18_l @s13_18_0))) (And.intro (And.intro (And.intro @x13_62 @x13_63) (And.intro @x13_61 @x13_67)) (And.intro (And.intro @r13_19_l @s13_19_0) (And.intro @s13_19_1 (And.intro @s13_19_2 @x13_69))))))) (And.intro (And.intro (And.intro (And.intro (And.intro (And.intro @r13_20_l @s13_20_0) (And.intro @s13_20_1 @s13_20_2)) (And.intro (And.intro @s13_20_3 @s13_20_4) (And.intro @s13_20_5 @s13_20_6))) (And.intro (And.intro (And.intro @s13_20_7 @s13_20_8) (And.intro @s13_20_9 @s13_20_10)) (And.intro (And.intro @s13_20_11 @s13_20_12) (And.intro @s13_20_13 (And.intro @s13_20_14 @s13_20_15))))) (And.intro (And.intro (And.intro (And.intro @s13_20_16 @s13_20_17) (And.intro @s13_20_18 @s13_20_19)) (And.intro (And.intro @s13_20_20 @s13_20_21) (And.intro @s13_20_22 @s13_20_23))) (And.intro (And.intro (And.intro @s13_20_24 @s13_20_25) (And.intro @s13_20_26 @s13_20_27)) (And.intro (And.intro @s13_20_28 @s13_20_29) (And.intro @x13_72 (And.intro @r13_21_l @s13_21_0)))))) (And.intro (And.intro (And.intro (And.intro (And.intro @x13_73 @x13_71) (And.intro @x13_74 @x13_70)) (And.intro (And.intro @x13_68 @x13_66) (And.intro @x13_65 @x13_75))) (And.intro (And.intro (And.intro @r13_22_l @s13_22_0) (And.intro @s13_22_1 @x13_64)) (And.intro (And.intro @x13_60 @x13_58) (And.intro @x13_57 (And.intro @x13_56 @x13_54))))) (And.intro (And.intro (And.intro (And.intro @x13_77 @r13_23_l) (And.intro @s13_23_0 @s13_23_1)) (And.intro (And.intro @x13_78 @x13_76) (And.intro @x13_53 (And.intro @x13_30 @x13_22)))) (And.intro (And.intro (And.intro @x13_20 @x13_12) (And.intro @x13_10 @x13_8)) (And.intro (And.intro @x13_6 @x13_4) (And.intro @x13_2 (And.intro @x13_0 @b_13))))))))
end Go.AM.Ytfmnoohhhokicaa
end

section
namespace Go.AM.Ytfmnoohhhokicaa
open Go Go.AM
set_option maxRecDepth 100000
variable {C : Callee} {B N : Nat} {E0 : AHeap} (φ : AFr) (H : AHeap) (s : St)
noncomputable def c108_0 : Code := kBody Proofs.Try.f108
noncomputable def c108_1 : Code := kL c108_0
noncomputable def r108_0 : Array Oper := kO c108_1
noncomputable def o108_0_0 : Oper := opN r108_0 0
noncomputable def o108_0_1 : Oper := opN r108_0 1
noncomputable def o108_0_2 : Oper := opN r108_0 2
theorem x108_1 : execA E C (fg 108) B 14 E0 N c108_1 s = regX (runA E C B 14 r108_0 r108_0.toList s) (fun s => gcM E0 [5, 6] (forget s.1 [5, 6], s.2)) := x_reg (ops := r108_0) (by rfl) (by rfl) s
theorem r108_0_l : r108_0.toList = [o108_0_0, o108_0_1, o108_0_2] := nrfl rfl
theorem s108_0_0 : stepA E C B 14 r108_0 o108_0_0 (φ, H) = some (fput φ 5 (fget φ 0), H) := nrfl rfl
theorem s108_0_1 : stepA E C B 14 r108_0 o108_0_1 (φ, H) = stp (some 6) φ H (aBuiltin E.T (B + 6) .len #[22] [(fget φ 5)]) := nrfl rfl
theorem s108_0_2 : stepA E C B 14 r108_0 o108_0_2 (φ, H) = some (fput φ 4 (fget φ 6), H) := nrfl rfl
noncomputable def c108_2 : Code := kR c108_0
noncomputable def r108_1 : Array Oper := kO c108_2
noncomputable def o108_1_0 : Oper := opN r108_1 0
noncomputable def o108_1_1 : Oper := opN r108_1 1
noncomputable def o108_1_2 : Oper := opN r108_1 2
noncomputable def o108_1_3 : Oper := opN r108_1 3
noncomputable def o108_1_4 : Oper := opN r108_1 4
noncomputable def o108_1_5 : Oper := opN r108_1 5
noncomputable def o108_1_6 : Oper := opN r108_1 6
theorem x108_2 : execA E C (fg 108) B 14 E0 N c108_2 s = regX (runA E C B 14 r108_1 r108_1.toList s) (fun s => gcM E0 [0, 1, 4, 7, 8, 9, 10, 11, 12, 13] (forget s.1 [0, 1, 4, 7, 8, 9, 10, 11, 12, 13], s.2)) := x_reg (ops := r108_1) (by rfl) (by rfl) s
theorem r108_1_l : r108_1.toList = [o108_1_0, o108_1_1, o108_1_2, o108_1_3, o108_1_4, o108_1_5, o108_1_6] := nrfl rfl
theorem s108_1_0 : stepA E C B 14 r108_1 o108_1_0 (φ, H) = some (fput φ 7 (fget φ 0), H) := nrfl rfl
theorem s108_1_1 : stepA E C B 14 r108_1 o108_1_1 (φ, H) = some (fput φ 8 (fget φ 4), H) := nrfl rfl
theorem s108_1_2 : stepA E C B 14 r108_1 o108_1_2 (φ, H) = some (fput φ 9 (fget φ 4), H) := nrfl rfl
theorem s108_1_3 : stepA E C B 14 r108_1 o108_1_3 (φ, H) = stp (some 10) φ H (justO (aConv E.T 3 98 (fget φ 9))) := nrfl rfl
theorem s108_1_4 : stepA E C B 14 r108_1 o108_1_4 (φ, H) = stp (some 11) φ H (aCall C (fun j => B + j * 14 + 11) true 111 [(fget φ 10)]) := nrfl rfl
theorem s108_1_5 : stepA E C B 14 r108_1 o108_1_5 (φ, H) = some (fput φ 12 (fget φ 1), H) := nrfl rfl
theorem s108_1_6 : stepA E C B 14 r108_1 o108_1_6 (φ, H) = mutX (some 13) φ (C 121 [(fget φ 7), (.int .i64 0), (fget φ 8), (fget φ 11), (fget φ 12)] H (B + 14 * 8)) := nrfl rfl
theorem x108_0 : execA E C (fg 108) B 14 E0 N c108_0 s = seqX (execA E C (fg 108) B 14 E0 N c108_1 s) (execA E C (fg 108) B 14 E0 N c108_2) := x_seq (by rfl) s
theorem fi_108 : fInfo E 108 = some ⟨14, #[], c108_0⟩ := nrfl rfl
theorem b_108 (args : List AV) : bodyA E C fg N 108 args H B = bodyX E [] (execA E C (fg 108) B 14 H N c108_0 (frame0 args 0 [], H)) := bodyA_eq fi_108 args H
abbrev F_108 := And.intro (And.intro (And.intro (And.intro @x108_1 @r108_0_l) (And.intro @s108_0_0 @s108_0_1)) (And.intro (And.intro @s108_0_2 @x108_2) (And.intro @r108_1_l @s108_1_0))) (And.intro (And.intro (And.intro @s108_1_1 @s108_1_2) (And.intro @s108_1_3 @s108_1_4)) (And.intro (And.intro @s108_1_5 @s108_1_6) (And.intro @x108_0 @b_108)))
noncomputable def c121_0 : Code := kBody Proofs.Try.f121
noncomputable def c121_1 : Code := kL c121_0
noncomputable def r121_0 : Array Oper := kO c121_1
noncomputable def o121_0_0 : Oper := opN r121_0 0
theorem x121_1 : execA E C (fg 121) B 148 E0 N c121_1 s = regX (runA E C B 148 r121_0 r121_0.toList s) (fun s => gcM E0 [] (forget s.1 [], s.2)) := x_reg (ops := r121_0) (by rfl) (by rfl) s
theorem r121_0_l : r121_0.toList = [o121_0_0] := nrfl rfl
theorem s121_0_0 : stepA E C B 148 r121_0 o121_0_0 (φ, H) = some (fput φ 10 (.bool true), H) := nrfl rfl
noncomputable def c121_2 : Code := kR c121_0
noncomputable def c121_3 : Code := kL c121_2
noncomputable def r121_1 : Array Oper := kO c121_3
noncomputable def o121_1_0 : Oper := opN r121_1 0
theorem x121_3 : execA E C (fg 121) B 148 E0 N c121_3 s = regX (runA E C B 148 r121_1 r121_1.toList s) (fun s => gcM E0 [] (forget s.1 [], s.2)) := x_reg (ops := r121_1) (by rfl) (by rfl) s
theorem r121_1_l : r121_1.toList = [o121_1_0] := nrfl rfl
theorem s121_1_0 : stepA E C B 148 r121_1 o121_1_0 (φ, H) = some (fput φ 11 (.bool true), H) := nrfl rfl
noncomputable def c121_4 : Code := kR c121_2
noncomputable def c121_5 : Code := kB c121_4
noncomputable def c121_6 : Code := kB c121_5
noncomputable def c121_7 : Code := kB c121_6
noncomputable def c121_8 : Code := kL c121_7
noncomputable def r121_2 : Array Oper := kO c121_8
noncomputable def o121_2_0 : Oper := opN r121_2 0
noncomputable def o121_2_1 : Oper := opN r121_2 1
noncomputable def o121_2_2 : Oper := opN r121_2 2
noncomputable def o121_2_3 : Oper := opN r121_2 3
theorem x121_8 : execA E C (fg 121) B 148 E0 N c121_8 s = regX (runA E C B 148 r121_2 r121_2.toList s) (fun s => gcM E0 [21, 22, 23] (forget s.1 [21, 22, 23], s.2)) := x_reg (ops := r121_2) (by rfl) (by rfl) s
theorem r121_2_l : r121_2.toList = [o121_2_0, o121_2_1, o121_2_2, o121_2_3] := nrfl rfl
theorem s121_2_0 : stepA E C B 148 r121_2 o121_2_0 (φ, H) = some (fput φ 21 (fget φ 2), H) := nrfl rfl
theorem s121_2_1 : stepA E C B 148 r121_2 o121_2_1 (φ, H) = some (fput φ 22 (fget φ 1), H) := nrfl rfl
theorem s121_2_2 : stepA E C B 148 r121_2 o121_2_2 (φ, H) = stp (some 23) φ H (just (aBin E.T .sub 3 (fget φ 21) (fget φ 22))) := nrfl rfl
theorem s121_2_3 : stepA E C B 148 r121_2 o121_2_3 (φ, H) = some (fput φ 12 (fget φ 23), H) := nrfl rfl
noncomputable def c121_9 : Code := kR c121_7
noncomputable def c121_10 : Code := kL c121_9
noncomputable def c121_11 : Code := kL c121_10
noncomputable def r121_3 : Array Oper := kO c121_11
noncomputable def o121_3_0 : Oper := opN r121_3 0
noncomputable def o121_3_1 : Oper := opN r121_3 1
theorem x121_11 : execA E C (fg 121) B 148 E0 N c121_11 s = regX (runA E C B 148 r121_3 r121_3.toList s) (fun s => gcM E0 [24] (forget s.1 [24], s.2)) := x_reg (ops := r121_3) (by rfl) (by rfl) s
theorem r121_3_l : r121_3.toList = [o121_3_0, o121_3_1] := nrfl rfl
theorem s121_3_0 : stepA E C B 148 r121_3 o121_3_0 (φ, H) = some (fput φ 24 (fget φ 12), H) := nrfl rfl
theorem s121_3_1 : stepA E C B 148 r121_3 o121_3_1 (φ, H) = stp (some 25) φ H (just (aBin E.T .leq 3 (fget φ 24) (.int .i64 12))) := nrfl rfl
noncomputable def c121_12 : Code := kR c121_10
noncomputable def c121_13 : Code := kT c121_12
noncomputable def c121_14 : Code := kL c121_13
noncomputable def r121_4 : Array Oper := kO c121_14
noncomputable def o121_4_0 : Oper := opN r121_4 0
noncomputable def o121_4_1 : Oper := opN r121_4 1
noncomputable def o121_4_2 : Oper := opN r121_4 2
noncomputable def o121_4_3 : Oper := opN r121_4 3
noncomputable def o121_4_4 : Oper := opN r121_4 4
theorem x121_14 : execA E C (fg 121) B 148 E0 N c121_14 s = regX (runA E C B 148 r121_4 r121_4.toList s) (fun s => gcM E0 [0, 1, 2, 3, 4, 10, 11, 12, 25, 26, 27, 28, 29, 30] (forget s.1 [0, 1, 2, 3, 4, 10, 11, 12, 25, 26, 27, 28, 29, 30], s.2)) := x_reg (ops := r121_4) (by rfl) (by rfl) s
theorem r121_4_l : r121_4.toList = [o121_4_0, o121_4_1, o121_4_2, o121_4_3, o121_4_4] := nrfl rfl
theorem s121_4_0 : stepA E C B 148 r121_4 o121_4_0 (φ, H) = some (fput φ 26 (fget φ 0), H) := nrfl rfl
theorem s121_4_1 : stepA E C B 148 r121_4 o121_4_1 (φ, H) = some (fput φ 27 (fget φ 1), H) := nrfl rfl
theorem s121_4_2 : stepA E C B 148 r121_4 o121_4_2 (φ, H) = some (fput φ 28 (fget φ 2), H) := nrfl rfl
theorem s121_4_3 : stepA E C B 148 r121_4 o121_4_3 (φ, H) = some (fput φ 29 (fget φ 4), H) := nrfl rfl
theorem s121_4_4 : stepA E C B 148 r121_4 o121_4_4 (φ, H) = mutX (some 30) φ (C 133 [(fget φ 26), (fget φ 27), (fget φ 28), (fget φ 29)] H (B + 148 * 8)) := nrfl rfl
noncomputable def c121_15 : Code := kR c121_13
theorem x121_15 : execA E C (fg 121) B 148 E0 N c121_15 s = some (.ret, s) := x_ret (by rfl) s
theorem x121_13 : execA E C (fg 121) B 148 E0 N c121_13 s = seqX (execA E C (fg 121) B 148 E0 N c121_14 s) (execA E C (fg 121) B 148 E0 N c121_15) := x_seq (by rfl) s
noncomputable def c121_16 : Code := kE c121_12
theorem x121_16 : execA E C (fg 121) B 148 E0 N c121_16 s = some (.normal, s) := x_skip (by rfl) s
theorem x121_12 : execA E C (fg 121) B 148 E0 N c121_12 (φ, H) = condX (fget φ 25) (execA E C (fg 121) B 148 E0 N c121_13 (φ, H)) (execA E C (fg 121) B 148 E0 N c121_16 (φ, H)) := x_cond (by rfl) _
theorem x121_10 : execA E C (fg 121) B 148 E0 N c121_10 s = seqX (execA E C (fg 121) B 148 E0 N c121_11 s) (execA E C (fg 121) B 148 E0 N c121_12) := x_seq (by rfl) s
noncomputable def c121_17 : Code := kR c121_9
noncomputable def c121_18 : Code := kL c121_17
noncomputable def c121_19 : Code := kL c121_18
noncomputable def r121_5 : Array Oper := kO c121_19
noncomputable def o121_5_0 : Oper := opN r121_5 0
noncomputable def o121_5_1 : Oper := opN r121_5 1
theorem x121_19 : execA E C (fg 121) B 148 E0 N c121_19 s = regX (runA E C B 148 r121_5 r121_5.toList s) (fun s => gcM E0 [25, 31] (forget s.1 [25, 31], s.2)) := x_reg (ops := r121_5) (by rfl) (by rfl) s
theorem r121_5_l : r121_5.toList = [o121_5_0, o121_5_1] := nrfl rfl
theorem s121_5_0 : stepA E C B 148 r121_5 o121_5_0 (φ, H) = some (fput φ 31 (fget φ 3), H) := nrfl rfl
theorem s121_5_1 : stepA E C B 148 r121_5 o121_5_1 (φ, H) = stp (some 32) φ H (just (aBin E.T .eql 3 (fget φ 31) (.int .i64 0))) := nrfl rfl
noncomputable def c121_20 : Code := kR c121_18
noncomputable def c121_21 : Code := kT c121_20
noncomputable def c121_22 : Code := kL c121_21
noncomputable def r121_6 : Array Oper := kO c121_22
noncomputable def o121_6_0 : Oper := opN r121_6 0
noncomputable def o121_6_1 : Oper := opN r121_6 1
noncomputable def o121_6_2 : Oper := opN r121_6 2
noncomputable def o121_6_3 : Oper := opN r121_6 3
noncomputable def o121_6_4 : Oper := opN r121_6 4
theorem x121_22 : execA E C (fg 121) B 148 E0 N c121_22 s = regX (runA E C B 148 r121_6 r121_6.toList s) (fun s => gcM E0 [0, 1, 2, 3, 4, 10, 11, 12, 32, 33, 34, 35, 36, 37] (forget s.1 [0, 1, 2, 3, 4, 10, 11, 12, 32, 33, 34, 35, 36, 37], s.2)) := x_reg (ops := r121_6) (by rfl) (by rfl) s
theorem r121_6_l : r121_6.toList = [o121_6_0, o121_6_1, o121_6_2, o121_6_3, o121_6_4] := nrfl rfl
theorem s121_6_0 : stepA E C B 148 r121_6 o121_6_0 (φ, H) = some (fput φ 33 (fget φ 0), H) := nrfl rfl
theorem s121_6_1 : stepA E C B 148 r121_6 o121_6_1 (φ, H) = some (fput φ 34 (fget φ 1), H) := nrfl rfl
theorem s121_6_2 : stepA E C B 148 r121_6 o121_6_2 (φ, H) = some (fput φ 35 (fget φ 2), H) := nrfl rfl
theorem s121_6_3 : stepA E C B 148 r121_6 o121_6_3 (φ, H) = some (fput φ 36 (fget φ 4), H) := nrfl rfl
theorem s121_6_4 : stepA E C B 148 r121_6 o121_6_4 (φ, H) = mutX (some 37) φ (C 134 [(fget φ 33), (fget φ 34), (fget φ 35), (fget φ 36)] H (B + 148 * 8)) := nrfl rfl
noncomputable def c121_23 : Code := kR c121_21
theorem x121_23 : execA E C (fg 121) B 148 E0 N c121_23 s = some (.ret, s) := x_ret (by rfl) s
theorem x121_21 : execA E C (fg 121) B 148 E0 N c121_21 s = seqX (execA E C (fg 121) B 148 E0 N c121_22 s) (execA E C (fg 121) B 148 E0 N c121_23) := x_seq (by rfl) s
noncomputable def c121_24 : Code := kE c121_20
theorem x121_24 : execA E C (fg 121) B 148 E0 N c121_24 s = some (.normal, s) := x_skip (by rfl) s
theorem x121_20 : execA E C (fg 121) B 148 E0 N c121_20 (φ, H) = condX (fget φ 32) (execA E C (fg 121) B 148 E0 N c121_21 (φ, H)) (execA E C (fg 121) B 148 E0 N c121_24 (φ, H)) := x_cond (by rfl) _
theorem x121_18 : execA E C (fg 121) B 148 E0 N c121_18 s = seqX (execA E C (fg 121) B 148 E0 N c121_19 s) (execA E C (fg 121) B 148 E0 N c121_20) := x_seq (by rfl) s
noncomputable def c121_25 : Code := kR c121_17
noncomputable def c121_26 : Code := kL c121_25
noncomputable def c121_27 : Code := kL c121_26
noncomputable def r121_7 : Array Oper := kO c121_27
noncomputable def o121_7_0 : Oper := opN r121_7 0
noncomputable def o121_7_1 : Oper := opN r121_7 1
theorem x121_27 : execA E C (fg 121) B 148 E0 N c121_27 s = regX (runA E C B 148 r121_7 r121_7.toList s) (fun s => gcM E0 [32, 38] (forget s.1 [32, 38], s.2)) := x_reg (ops := r121_7) (by rfl) (by rfl) s
theorem r121_7_l : r121_7.toList = [o121_7_0, o121_7_1] := nrfl rfl
theorem s121_7_0 : stepA E C B 148 r121_7 o121_7_0 (φ, H) = some (fput φ 38 (fget φ 10), H) := nrfl rfl
theorem s121_7_1 : stepA E C B 148 r121_7 o121_7_1 (φ, H) = stp (some 39) φ H (justO (aUn .not (fget φ 38))) := nrfl rfl
noncomputable def c121_28 : Code := kR c121_26
noncomputable def c121_29 : Code := kT c121_28
noncomputable def c121_30 : Code := kL c121_29
noncomputable def r121_8 : Array Oper := kO c121_30
noncomputable def o121_8_0 : Oper := opN r121_8 0
noncomputable def o121_8_1 : Oper := opN r121_8 1
noncomputable def o121_8_2 : Oper := opN r121_8 2
noncomputable def o121_8_3 : Oper := opN r121_8 3
noncomputable def o121_8_4 : Oper := opN r121_8 4
theorem x121_30 : execA E C (fg 121) B 148 E0 N c121_30 s = regX (runA E C B 148 r121_8 r121_8.toList s) (fun s => gcM E0 [39, 40, 41, 42, 43, 44] (forget s.1 [39, 40, 41, 42, 43, 44], s.2)) := x_reg (ops := r121_8) (by rfl) (by rfl) s
theorem r121_8_l : r121_8.toList = [o121_8_0, o121_8_1, o121_8_2, o121_8_3, o121_8_4] := nrfl rfl
theorem s121_8_0 : stepA E C B 148 r121_8 o121_8_0 (φ, H) = some (fput φ 40 (fget φ 0), H) := nrfl rfl
theorem s121_8_1 : stepA E C B 148 r121_8 o121_8_1 (φ, H) = some (fput φ 41 (fget φ 1), H) := nrfl rfl
theorem s121_8_2 : stepA E C B 148 r121_8 o121_8_2 (φ, H) = some (fput φ 42 (fget φ 2), H) := nrfl rfl
theorem s121_8_3 : stepA E C B 148 r121_8 o121_8_3 (φ, H) = some (fput φ 43 (fget φ 4), H) := nrfl rfl
theorem s121_8_4 : stepA E C B 148 r121_8 o121_8_4 (φ, H) = mutX (some 44) φ (C 135 [(fget φ 40), (fget φ 41), (fget φ 42), (fget φ 43)] H (B + 148 * 8)) := nrfl rfl
noncomputable def c121_31 : Code := kR c121_29
noncomputable def r121_9 : Array Oper := kO c121_31
noncomputable def o121_9_0 : Oper := opN r121_9 0
noncomputable def o121_9_1 : Oper := opN r121_9 1
noncomputable def o121_9_2 : Oper := opN r121_9 2
theorem x121_31 : execA E C (fg 121) B 148 E0 N c121_31 s = regX (runA E C B 148 r121_9 r121_9.toList s) (fun s => gcM E0 [45, 46] (forget s.1 [45, 46], s.2)) := x_reg (ops := r121_9) (by rfl) (by rfl) s
theorem r121_9_l : r121_9.toList = [o121_9_0, o121_9_1, o121_9_2] := nrfl rfl
theorem s121_9_0 : stepA E C B 148 r121_9 o121_9_0 (φ, H) = some (fput φ 45 (fget φ 3), H) := nrfl rfl
theorem s121_9_1 : stepA E C B 148 r121_9 o121_9_1 (φ, H) = stp (some 46) φ H (just (aBin E.T .sub 3 (fget φ 45) (.int .i64 1))) := nrfl rfl
theorem s121_9_2 : stepA E C B 148 r121_9 o121_9_2 (φ, H) = some (fput φ 3 (fget φ 46), H) := nrfl rfl
theorem x121_29 : execA E C (fg 121) B 148 E0 N c121_29 s = seqX (execA E C (fg 121) B 148 E0 N c121_30 s) (execA E C (fg 121) B 148 E0 N c121_31) := x_seq (by rfl) s
noncomputable def c121_32 : Code := kE c121_28
theorem x121_32 : execA E C (fg 121) B 148 E0 N c121_32 s = some (.normal, s) := x_skip (by rfl) s
theorem x121_28 : execA E C (fg 121) B 148 E0 N c121_28 (φ, H) = condX (fget φ 39) (execA E C (fg 121) B 148 E0 N c121_29 (φ, H)) (execA E C (fg 121) B 148 E0 N c121_32 (φ, H)) := x_cond (by rfl) _
theorem x121_26 : execA E C (fg 121) B 148 E0 N c121_26 s = seqX (execA E C (fg 121) B 148 E0 N c121_27 s) (execA E C (fg 121) B 148 E0 N c121_28) := x_seq (by rfl) s
noncomputable def c121_33 : Code := kR c121_25
noncomputable def c121_34 : Code := kL c121_33
noncomputable def r121_10 : Array Oper := kO c121_34
noncomputable def o121_10_0 : Oper := opN r121_10 0
noncomputable def o121_10_1 : Oper := opN r121_10 1
noncomputable def o121_10_2 : Oper := opN r121_10 2
noncomputable def o121_10_3 : Oper := opN r121_10 3
noncomputable def o121_10_4 : Oper := opN r121_10 4
noncomputable def o121_10_5 : Oper := opN r121_10 5
noncomputable def o121_10_6 : Oper := opN r121_10 6
noncomputable def o121_10_7 : Oper := opN r121_10 7
noncomputable def o121_10_8 : Oper := opN r121_10 8
noncomputable def o121_10_9 : Oper := opN r121_10 9
theorem x121_34 : execA E C (fg 121) B 148 E0 N c121_34 s = regX (runA E C B 148 r121_10 r121_10.toList s) (fun s => gcM E0 [39, 47, 48, 49, 50, 51, 52, 53, 54] (forget s.1 [39, 47, 48, 49, 50, 51, 52, 53, 54], s.2)) := x_reg (ops := r121_10) (by rfl) (by rfl) s
theorem r121_10_l : r121_10.toList = [o121_10_0, o121_10_1, o121_10_2, o121_10_3, o121_10_4, o121_10_5, o121_10_6, o121_10_7, o121_10_8, o121_10_9] := nrfl rfl
theorem s121_10_0 : stepA E C B 148 r121_10 o121_10_0 (φ, H) = some (fput φ 48 (fget φ 0), H) := nrfl rfl
theorem s121_10_1 : stepA E C B 148 r121_10 o121_10_1 (φ, H) = some (fput φ 49 (fget φ 1), H) := nrfl rfl
theorem s121_10_2 : stepA E C B 148 r121_10 o121_10_2 (φ, H) = some (fput φ 50 (fget φ 2), H) := nrfl rfl
theorem s121_10_3 : stepA E C B 148 r121_10 o121_10_3 (φ, H) = some (fput φ 51 (fget φ 4), H) := nrfl rfl
theorem s121_10_4 : stepA E C B 148 r121_10 o121_10_4 (φ, H) = mutX (some 52) φ (C 136 [(fget φ 48), (fget φ 49), (fget φ 50), (fget φ 51)] H (B + 148 * 8)) := nrfl rfl
theorem s121_10_5 : stepA E C B 148 r121_10 o121_10_5 (φ, H) = some (fput φ 47 (fget φ 52), H) := nrfl rfl
theorem s121_10_6 : stepA E C B 148 r121_10 o121_10_6 (φ, H) = stp (some 53) φ H (opExtract (fget φ 47) 0) := nrfl rfl
theorem s121_10_7 : stepA E C B 148 r121_10 o121_10_7 (φ, H) = stp (some 54) φ H (opExtract (fget φ 47) 1) := nrfl rfl
theorem s121_10_8 : stepA E C B 148 r121_10 o121_10_8 (φ, H) = some (fput φ 13 (fget φ 53), H) := nrfl rfl
theorem s121_10_9 : stepA E C B 148 r121_10 o121_10_9 (φ, H) = some (fput φ 14 (fget φ 54), H) := nrfl rfl
noncomputable def c121_35 : Code := kR c121_33
noncomputable def c121_36 : Code := kL c121_35
noncomputable def c121_37 : Code := kL c121_36
noncomputable def r121_11 : Array Oper := kO c121_37
noncomputable def o121_11_0 : Oper := opN r121_11 0
noncomputable def o121_11_1 : Oper := opN r121_11 1
theorem x121_37 : execA E C (fg 121) B 148 E0 N c121_37 s = regX (runA E C B 148 r121_11 r121_11.toList s) (fun s => gcM E0 [55] (forget s.1 [55], s.2)) := x_reg (ops := r121_11) (by rfl) (by rfl) s
theorem r121_11_l : r121_11.toList = [o121_11_0, o121_11_1] := nrfl rfl
theorem s121_11_0 : stepA E C B 148 r121_11 o121_11_0 (φ, H) = some (fput φ 55 (fget φ 14), H) := nrfl rfl
theorem s121_11_1 : stepA E C B 148 r121_11 o121_11_1 (φ, H) = stp (some 56) φ H (just (aBin E.T .eql 105 (fget φ 55) (.int .i64 2))) := nrfl rfl
noncomputable def c121_38 : Code := kR c121_36
noncomputable def c121_39 : Code := kT c121_38
noncomputable def c121_40 : Code := kL c121_39
noncomputable def r121_12 : Array Oper := kO c121_40
noncomputable def o121_12_0 : Oper := opN r121_12 0
noncomputable def o121_12_1 : Oper := opN r121_12 1
noncomputable def o121_12_2 : Oper := opN r121_12 2
noncomputable def o121_12_3 : Oper := opN r121_12 3
noncomputable def o121_12_4 : Oper := opN r121_12 4
theorem x121_40 : execA E C (fg 121) B 148 E0 N c121_40 s = regX (runA E C B 148 r121_12 r121_12.toList s) (fun s => gcM E0 [14, 56, 57, 58, 59, 60, 61] (forget s.1 [14, 56, 57, 58, 59, 60, 61], s.2)) := x_reg (ops := r121_12) (by rfl) (by rfl) s
theorem r121_12_l : r121_12.toList = [o121_12_0, o121_12_1, o121_12_2, o121_12_3, o121_12_4] := nrfl rfl
theorem s121_12_0 : stepA E C B 148 r121_12 o121_12_0 (φ, H) = some (fput φ 57 (fget φ 0), H) := nrfl rfl
theorem s121_12_1 : stepA E C B 148 r121_12 o121_12_1 (φ, H) = some (fput φ 58 (fget φ 1), H) := nrfl rfl
theorem s121_12_2 : stepA E C B 148 r121_12 o121_12_2 (φ, H) = some (fput φ 59 (fget φ 2), H) := nrfl rfl
theorem s121_12_3 : stepA E C B 148 r121_12 o121_12_3 (φ, H) = some (fput φ 60 (fget φ 4), H) := nrfl rfl
theorem s121_12_4 : stepA E C B 148 r121_12 o121_12_4 (φ, H) = mutX (some 61) φ (C 137 [(fget φ 57), (fget φ 58), (fget φ 59), (fget φ 60)] H (B + 148 * 8)) := nrfl rfl
noncomputable def c121_41 : Code := kR c121_39
noncomputable def c121_42 : Code := kL c121_41
noncomputable def r121_13 : Array Oper := kO c121_42
noncomputable def o121_13_0 : Oper := opN r121_13 0
noncomputable def o121_13_1 : Oper := opN r121_13 1
noncomputable def o121_13_2 : Oper := opN r121_13 2
noncomputable def o121_13_3 : Oper := opN r121_13 3
noncomputable def o121_13_4 : Oper := opN r121_13 4
noncomputable def o121_13_5 : Oper := opN r121_13 5
noncomputable def o121_13_6 : Oper := opN r121_13 6
theorem x121_42 : execA E C (fg 121) B 148 E0 N c121_42 s = regX (runA E C B 148 r121_13 r121_13.toList s) (fun s => gcM E0 [62, 63, 64, 65, 66, 67] (forget s.1 [62, 63, 64, 65, 66, 67], s.2)) := x_reg (ops := r121_13) (by rfl) (by rfl) s
theorem r121_13_l : r121_13.toList = [o121_13_0, o121_13_1, o121_13_2, o121_13_3, o121_13_4, o121_13_5, o121_13_6] := nrfl rfl
theorem s121_13_0 : stepA E C B 148 r121_13 o121_13_0 (φ, H) = some (fput φ 62 (fget φ 2), H) := nrfl rfl
theorem s121_13_1 : stepA E C B 148 r121_13 o121_13_1 (φ, H) = stp (some 63) φ H (just (aBin E.T .sub 3 (fget φ 62) (.int .i64 1))) := nrfl rfl
theorem s121_13_2 : stepA E C B 148 r121_13 o121_13_2 (φ, H) = some (fput φ 64 (fget φ 13), H) := nrfl rfl
theorem s121_13_3 : stepA E C B 148 r121_13 o121_13_3 (φ, H) = some (fput φ 65 (fget φ 1), H) := nrfl rfl
theorem s121_13_4 : stepA E C B 148 r121_13 o121_13_4 (φ, H) = stp (some 66) φ H (just (aBin E.T .sub 3 (fget φ 64) (fget φ 65))) := nrfl rfl
theorem s121_13_5 : stepA E C B 148 r121_13 o121_13_5 (φ, H) = stp (some 67) φ H (just (aBin E.T .sub 3 (fget φ 63) (fget φ 66))) := nrfl rfl
theorem s121_13_6 : stepA E C B 148 r121_13 o121_13_6 (φ, H) = some (fput φ 13 (fget φ 67), H) := nrfl rfl
noncomputable def c121_43 : Code := kR c121_41
noncomputable def r121_14 : Array Oper := kO c121_43
noncomputable def o121_14_0 : Oper := opN r121_14 0
theorem x121_43 : execA E C (fg 121) B 148 E0 N c121_43 s = regX (runA E C B 148 r121_14 r121_14.toList s) (fun s => gcM E0 [] (forget s.1 [], s.2)) := x_reg (ops := r121_14) (by rfl) (by rfl) s
theorem r121_14_l : r121_14.toList = [o121_14_0] := nrfl rfl
theorem s121_14_0 : stepA E C B 148 r121_14 o121_14_0 (φ, H) = some (fput φ 14 (.int .i64 1), H) := nrfl rfl
theorem x121_41 : execA E C (fg 121) B 148 E0 N c121_41 s = seqX (execA E C (fg 121) B 148 E0 N c121_42 s) (execA E C (fg 121) B 148 E0 N c121_43) := x_seq (by rfl) s
theorem x121_39 : execA E C (fg 121) B 148 E0 N c121_39 s = seqX (execA E C (fg 121) B 148 E0 N c121_40 s) (execA E C (fg 121) B 148 E0 N c121_41) := x_seq (by rfl) s
noncomputable def c121_44 : Code := kE c121_38
theorem x121_44 : execA E C (fg 121) B 148 E0 N c121_44 s = some (.normal, s) := x_skip (by rfl) s
theorem x121_38 : execA E C (fg 121) B 148 E0 N c121_38 (φ, H) = condX (fget φ 56) (execA E C (fg 121) B 148 E0 N c121_39 (φ, H)) (execA E C (fg 121) B 148 E0 N c121_44 (φ, H)) := x_cond (by rfl) _
theorem x121_36 : execA E C (fg 121) B 148 E0 N c121_36 s = seqX (execA E C (fg 121) B 148 E0 N c121_37 s) (execA E C (fg 121) B 148 E0 N c121_38) := x_seq (by rfl) s
noncomputable def c121_45 : Code := kR c121_35
noncomputable def c121_46 : Code := kL c121_45
noncomputable def c121_47 : Code := kL c121_46
noncomputable def r121_15 : Array Oper := kO c121_47
noncomputable def o121_15_0 : Oper := opN r121_15 0
noncomputable def o121_15_1 : Oper := opN r121_15 1
noncomputable def o121_15_2 : Oper := opN r121_15 2
noncomputable def o121_15_3 : Oper := opN r121_15 3
noncomputable def o121_15_4 : Oper := opN r121_15 4
noncomputable def o121_15_5 : Oper := opN r121_15 5
noncomputable def o121_15_6 : Oper := opN r121_15 6
noncomputable def o121_15_7 : Oper := opN r121_15 7
theorem x121_47 : execA E C (fg 121) B 148 E0 N c121_47 s = regX (runA E C B 148 r121_15 r121_15.toList s) (fun s => gcM E0 [14, 56, 68, 69, 70, 71, 72, 73, 74] (forget s.1 [14, 56, 68, 69, 70, 71, 72, 73, 74], s.2)) := x_reg (ops := r121_15) (by rfl) (by rfl) s
theorem r121_15_l : r121_15.toList = [o121_15_0, o121_15_1, o121_15_2, o121_15_3, o121_15_4, o121_15_5, o121_15_6, o121_15_7] := nrfl rfl
theorem s121_15_0 : stepA E C B 148 r121_15 o121_15_0 (φ, H) = some (fput φ 68 (fget φ 10), H) := nrfl rfl
theorem s121_15_1 : stepA E C B 148 r121_15 o121_15_1 (φ, H) = some (fput φ 69 (fget φ 68), H) := nrfl rfl
theorem s121_15_2 : stepA E C B 148 r121_15 o121_15_2 (φ, H) = gd φ 69 true (fun φ => some (fput φ 70 (.tup []), H)) (fun φ => some (fput φ 70 (fget φ 11), H)) := s_gd (j := 1) (oj := o121_15_1) rfl rfl rfl (fun _ => rfl) (fun _ => rfl)
theorem s121_15_3 : stepA E C B 148 r121_15 o121_15_3 (φ, H) = stp (some 71) φ H (opPick (fget φ 69) (fget φ 70) (.bool false)) := nrfl rfl
theorem s121_15_4 : stepA E C B 148 r121_15 o121_15_4 (φ, H) = some (fput φ 72 (fget φ 71), H) := nrfl rfl
theorem s121_15_5 : stepA E C B 148 r121_15 o121_15_5 (φ, H) = gd φ 72 true (fun φ => some (fput φ 73 (.tup []), H)) (fun φ => some (fput φ 73 (fget φ 14), H)) := s_gd (j := 4) (oj := o121_15_4) rfl rfl rfl (fun _ => rfl) (fun _ => rfl)
theorem s121_15_6 : stepA E C B 148 r121_15 o121_15_6 (φ, H) = gd φ 72 true (fun φ => some (fput φ 74 (.tup []), H)) (fun φ => stp (some 74) φ H (just (aBin E.T .eql 105 (fget φ 73) (.int .i64 1)))) := s_gd (j := 4) (oj := o121_15_4) rfl rfl rfl (fun _ => rfl) (fun _ => rfl)
theorem s121_15_7 : stepA E C B 148 r121_15 o121_15_7 (φ, H) = stp (some 75) φ H (opPick (fget φ 72) (fget φ 74) (.bool false)) := nrfl rfl
noncomputable def c121_48 : Code := kR c121_46
noncomputable def c121_49 : Code := kT c121_48
noncomputable def c121_50 : Code := kL c121_49
noncomputable def r121_16 : Array Oper := kO c121_50
noncomputable def o121_16_0 : Oper := opN r121_16 0
noncomputable def o121_16_1 : Oper := opN r121_16 1
noncomputable def o121_16_2 : Oper := opN r121_16 2
noncomputable def o121_16_3 : Oper := opN r121_16 3
noncomputable def o121_16_4 : Oper := opN r121_16 4
theorem x121_50 : execA E C (fg 121) B 148 E0 N c121_50 s = regX (runA E C B 148 r121_16 r121_16.toList s) (fun s => gcM E0 [75, 76, 77, 78, 79] (forget s.1 [75, 76, 77, 78, 79], s.2)) := x_reg (ops := r121_16) (by rfl) (by rfl) s
theorem r121_16_l : r121_16.toList = [o121_16_0, o121_16_1, o121_16_2, o121_16_3, o121_16_4] := nrfl rfl
theorem s121_16_0 : stepA E C B 148 r121_16 o121_16_0 (φ, H) = some (fput φ 76 (fget φ 0), H) := nrfl rfl
theorem s121_16_1 : stepA E C B 148 r121_16 o121_16_1 (φ, H) = some (fput φ 77 (fget φ 1), H) := nrfl rfl
theorem s121_16_2 : stepA E C B 148 r121_16 o121_16_2 (φ, H) = some (fput φ 78 (fget φ 2), H) := nrfl rfl
theorem s121_16_3 : stepA E C B 148 r121_16 o121_16_3 (φ, H) = some (fput φ 79 (fget φ 4), H) := nrfl rfl
theorem s121_16_4 : stepA E C B 148 r121_16 o121_16_4 (φ, H) = mutX (some 80) φ (C 138 [(fget φ 76), (fget φ 77), (fget φ 78), (fget φ 79)] H (B + 148 * 8)) := nrfl rfl
noncomputable def c121_51 : Code := kR c121_49
noncomputable def c121_52 : Code := kT c121_51
theorem x121_52 : execA E C (fg 121) B 148 E0 N c121_52 s = some (.ret, s) := x_ret (by rfl) s
noncomputable def c121_53 : Code := kE c121_51
theorem x121_53 : execA E C (fg 121) B 148 E0 N c121_53 s = some (.normal, s) := x_skip (by rfl) s
theorem x121_51 : execA E C (fg 121) B 148 E0 N c121_51 (φ, H) = condX (fget φ 80) (execA E C (fg 121) B 148 E0 N c121_52 (φ, H)) (execA E C (fg 121) B 148 E0 N c121_53 (φ, H)) := x_cond (by rfl) _
theorem x121_49 : execA E C (fg 121) B 148 E0 N c121_49 s = seqX (execA E C (fg 121) B 148 E0 N c121_50 s) (execA E C (fg 121) B 148 E0 N c121_51) := x_seq (by rfl) s
noncomputable def c121_54 : Code := kE c121_48
theorem x121_54 : execA E C (fg 121) B 148 E0 N c121_54 s = some (.normal, s) := x_skip (by rfl) s
theorem x121_48 : execA E C (fg 121) B 148 E0 N c121_48 (φ, H) = condX (fget φ 75) (execA E C (fg 121) B 148 E0 N c121_49 (φ, H)) (execA E C (fg 121) B 148 E0 N c121_54 (φ, H)) := x_cond (by rfl) _
theorem x121_46 : execA E C (fg 121) B 148 E0 N c121_46 s = seqX (execA E C (fg 121) B 148 E0 N c121_47 s) (execA E C (fg 121) B 148 E0 N c121_48) := x_seq (by rfl) s
noncomputable def c121_55 : Code := kR c121_45
noncomputable def c121_56 : Code := kL c121_55
noncomputable def c121_57 : Code := kL c121_56
noncomputable def r121_17 : Array Oper := kO c121_57
noncomputable def o121_17_0 : Oper := opN r121_17 0
noncomputable def o121_17_1 : Oper := opN r121_17 1
noncomputable def o121_17_2 : Oper := opN r121_17 2
noncomputable def o121_17_3 : Oper := opN r121_17 3
noncomputable def o121_17_4 : Oper := opN r121_17 4
noncomputable def o121_17_5 : Oper := opN r121_17 5
noncomputable def o121_17_6 : Oper := opN r121_17 6
noncomputable def o121_17_7 : Oper := opN r121_17 7
noncomputable def o121_17_8 : Oper := opN r121_17 8
noncomputable def o121_17_9 : Oper := opN r121_17 9
noncomputable def o121_17_10 : Oper := opN r121_17 10
noncomputable def o121_17_11 : Oper := opN r121_17 11
noncomputable def o121_17_12 : Oper := opN r121_17 12
noncomputable def o121_17_13 : Oper := opN r121_17 13
noncomputable def o121_17_14 : Oper := opN r121_17 14
noncomputable def o121_17_15 : Oper := opN r121_17 15
noncomputable def o121_17_16 : Oper := opN r121_17 16
theorem x121_57 : execA E C (fg 121) B 148 E0 N c121_57 s = regX (drawA E C B 148 r121_17 s) (fun s => gcM E0 [75, 80, 81, 82, 83, 84, 85, 86, 87, 88, 89, 90, 91, 92, 93, 94, 95, 96] (forget s.1 [75, 80, 81, 82, 83, 84, 85, 86, 87, 88, 89, 90, 91, 92, 93, 94, 95, 96], s.2)) := x_draw (ops := r121_17) (by rfl) (by rfl) s
theorem r121_17_l : r121_17.toList = [o121_17_0, o121_17_1, o121_17_2, o121_17_3, o121_17_4, o121_17_5, o121_17_6, o121_17_7, o121_17_8, o121_17_9, o121_17_10, o121_17_11, o121_17_12, o121_17_13, o121_17_14, o121_17_15, o121_17_16] := nrfl rfl
theorem r121_17_st : statOk r121_17 = true := by kernel_rfl
theorem r121_17_dr : drawA E C B 148 r121_17 s = if neat 148 s = true then drX r121_17 (runT E C B 148 r121_17 r121_17.toList 0 s) else none := draw_eq r121_17_st s
theorem r121_17_an (l : List (Nat × Tr)) : dynOk r121_17 l = (!writing l || dynPairs [[], [0], [0, 1], [0, 1, 2], [0, 1, 2], [0, 1, 2], [0, 1, 2, 5], [0, 1, 2, 4, 5, 6], [0, 1, 2, 4, 5, 6, 7], [0, 1, 2], [0, 1, 2], [0, 1, 2, 9, 10], [0, 1, 2, 9, 10, 11], [0, 1, 2, 3, 4, 5, 6, 7, 8, 9, 10, 11, 12], [0, 1, 2, 3, 4, 5, 6, 7, 8, 9, 10, 11, 12, 13], [0, 1, 2, 3, 4, 5, 6, 7, 8, 9, 10, 11, 12, 13, 14], [0, 1, 2, 3, 4, 5, 6, 7, 8, 9, 10, 11, 12, 13, 14, 15]] (touching l)) := dynOk_eq (by kernel_rfl) l
theorem s121_17_0 : stepT E C B 148 r121_17 o121_17_0 (φ, H) = some ((fput φ 81 (fget φ 1), H), ⟨false, [], []⟩) := stT_go rfl (goT_mv rfl rfl)
theorem s121_17_1 : stepT E C B 148 r121_17 o121_17_1 (φ, H) = stpT (some 82) φ H (just (aBin E.T .gtr 3 (fget φ 81) (.int .i64 0))) := stT_go rfl (goT_R rfl rfl)
theorem s121_17_2 : stepT E C B 148 r121_17 o121_17_2 (φ, H) = some ((fput φ 83 (fget φ 82), H), ⟨false, [], []⟩) := stT_go rfl (goT_mv rfl rfl)
theorem s121_17_3 : stepT E C B 148 r121_17 o121_17_3 (φ, H) = gdT φ 83 true (fun φ => (some (fput φ 84 (.tup []), H)).map fun s => (s, ⟨false, [], []⟩)) (fun φ => some ((fput φ 84 (fget φ 4), H), ⟨false, [], []⟩)) := stT_gd (j := 2) (oj := o121_17_2) rfl rfl rfl (fun _ => rfl) (fun _ => goT_mv rfl rfl)
theorem s121_17_4 : stepT E C B 148 r121_17 o121_17_4 (φ, H) = gdT φ 83 true (fun φ => (some (fput φ 85 (.tup []), H)).map fun s => (s, ⟨false, [], []⟩)) (fun φ => some ((fput φ 85 (fget φ 0), H), ⟨false, [], []⟩)) := stT_gd (j := 2) (oj := o121_17_2) rfl rfl rfl (fun _ => rfl) (fun _ => goT_mv rfl rfl)
theorem s121_17_5 : stepT E C B 148 r121_17 o121_17_5 (φ, H) = gdT φ 83 true (fun φ => (some (fput φ 86 (.tup []), H)).map fun s => (s, ⟨false, [], []⟩)) (fun φ => some ((fput φ 86 (fget φ 1), H), ⟨false, [], []⟩)) := stT_gd (j := 2) (oj := o121_17_2) rfl rfl rfl (fun _ => rfl) (fun _ => goT_mv rfl rfl)
theorem s121_17_6 : stepT E C B 148 r121_17 o121_17_6 (φ, H) = gdT φ 83 true (fun φ => (some (fput φ 87 (.tup []), H)).map fun s => (s, ⟨false, [], []⟩)) (fun φ => stpT (some 87) φ H (just (aBin E.T .sub 3 (fget φ 86) (.int .i64 1)))) := stT_gd (j := 2) (oj := o121_17_2) rfl rfl rfl (fun _ => rfl) (fun _ => goT_R rfl rfl)
theorem s121_17_7 : stepT E C B 148 r121_17 o121_17_7 (φ, H) = gdT φ 83 true (fun φ => (some (fput φ 88 (.tup []), H)).map fun s => (s, ⟨false, [], []⟩)) (fun φ => stpT (some 88) φ H (just (aIndexAddr E.T 22 (fget φ 85) (fget φ 87)))) := stT_gd (j := 2) (oj := o121_17_2) rfl rfl rfl (fun _ => rfl) (fun _ => goT_R rfl rfl)
theorem s121_17_8 : stepT E C B 148 r121_17 o121_17_8 (φ, H) = gdT φ 83 true (fun φ => (some (fput φ 89 (.tup []), H)).map fun s => (s, ⟨false, [], []⟩)) (fun φ => stpT (some 89) φ H (just (aLoad E.T 3 (fget φ 88)))) := stT_gd (j := 2) (oj := o121_17_2) rfl rfl rfl (fun _ => rfl) (fun _ => goT_R rfl rfl)
theorem s121_17_9 : stepT E C B 148 r121_17 o121_17_9 (φ, H) = gdT φ 83 true (fun φ => (some (fput φ 90 (.tup []), H)).map fun s => (s, ⟨false, [], []⟩)) (fun φ => some ((fput φ 90 (fget φ 0), H), ⟨false, [], []⟩)) := stT_gd (j := 2) (oj := o121_17_2) rfl rfl rfl (fun _ => rfl) (fun _ => goT_mv rfl rfl)
theorem s121_17_10 : stepT E C B 148 r121_17 o121_17_10 (φ, H) = gdT φ 83 true (fun φ => (some (fput φ 91 (.tup []), H)).map fun s => (s, ⟨false, [], []⟩)) (fun φ => some ((fput φ 91 (fget φ 13), H), ⟨false, [], []⟩)) := stT_gd (j := 2) (oj := o121_17_2) rfl rfl rfl (fun _ => rfl) (fun _ => goT_mv rfl rfl)
theorem s121_17_11 : stepT E C B 148 r121_17 o121_17_11 (φ, H) = gdT φ 83 true (fun φ => (some (fput φ 92 (.tup []), H)).map fun s => (s, ⟨false, [], []⟩)) (fun φ => stpT (some 92) φ H (just (aIndexAddr E.T 22 (fget φ 90) (fget φ 91)))) := stT_gd (j := 2) (oj := o121_17_2) rfl rfl rfl (fun _ => rfl) (fun _ => goT_R rfl rfl)
theorem s121_17_12 : stepT E C B 148 r121_17 o121_17_12 (φ, H) = gdT φ 83 true (fun φ => (some (fput φ 93 (.tup []), H)).map fun s => (s, ⟨false, [], []⟩)) (fun φ => stpT (some 93) φ H (just (aLoad E.T 3 (fget φ 92)))) := stT_gd (j := 2) (oj := o121_17_2) rfl rfl rfl (fun _ => rfl) (fun _ => goT_R rfl rfl)
theorem s121_17_13 : stepT E C B 148 r121_17 o121_17_13 (φ, H) = gdT φ 83 true (fun φ => (some (fput φ 94 (.tup []), H)).map fun s => (s, ⟨false, [], []⟩)) (fun φ => callVT E C (B + 148 * 8) (some 94) (fun j => B + j * 148 + 94) φ H (fget φ 84) [(fget φ 89), (fget φ 93)] true) := stT_gd (j := 2) (oj := o121_17_2) rfl rfl rfl (fun _ => rfl) (fun _ => goT_V rfl rfl)
theorem s121_17_14 : stepT E C B 148 r121_17 o121_17_14 (φ, H) = gdT φ 83 true (fun φ => (some (fput φ 95 (.tup []), H)).map fun s => (s, ⟨false, [], []⟩)) (fun φ => stpT (some 95) φ H (just (aBin E.T .lss 3 (fget φ 94) (.int .i64 0)))) := stT_gd (j := 2) (oj := o121_17_2) rfl rfl rfl (fun _ => rfl) (fun _ => goT_R rfl rfl)
theorem s121_17_15 : stepT E C B 148 r121_17 o121_17_15 (φ, H) = gdT φ 83 true (fun φ => (some (fput φ 96 (.tup []), H)).map fun s => (s, ⟨false, [], []⟩)) (fun φ => stpT (some 96) φ H (justO (aUn .not (fget φ 95)))) := stT_gd (j := 2) (oj := o121_17_2) rfl rfl rfl (fun _ => rfl) (fun _ => goT_R rfl rfl)
theorem s121_17_16 : stepT E C B 148 r121_17 o121_17_16 (φ, H) = stpT (some 97) φ H (opPick (fget φ 83) (fget φ 96) (.bool false)) := stT_go rfl (goT_R rfl rfl)
noncomputable def c121_58 : Code := kR c121_56
noncomputable def c121_59 : Code := kT c121_58
noncomputable def c121_60 : Code := kL c121_59
noncomputable def r121_18 : Array Oper := kO c121_60
noncomputable def o121_18_0 : Oper := opN r121_18 0
noncomputable def o121_18_1 : Oper := opN r121_18 1
noncomputable def o121_18_2 : Oper := opN r121_18 2
noncomputable def o121_18_3 : Oper := opN r121_18 3
noncomputable def o121_18_4 : Oper := opN r121_18 4
noncomputable def o121_18_5 : Oper := opN r121_18 5
noncomputable def o121_18_6 : Oper := opN r121_18 6
theorem x121_60 : execA E C (fg 121) B 148 E0 N c121_60 s = regX (runA E C B 148 r121_18 r121_18.toList s) (fun s => gcM E0 [1, 12, 13, 97, 98, 99, 100, 101, 102, 103] (forget s.1 [1, 12, 13, 97, 98, 99, 100, 101, 102, 103], s.2)) := x_reg (ops := r121_18) (by rfl) (by rfl) s
theorem r121_18_l : r121_18.toList = [o121_18_0, o121_18_1, o121_18_2, o121_18_3, o121_18_4, o121_18_5, o121_18_6] := nrfl rfl
theorem s121_18_0 : stepA E C B 148 r121_18 o121_18_0 (φ, H) = some (fput φ 98 (fget φ 0), H) := nrfl rfl
theorem s121_18_1 : stepA E C B 148 r121_18 o121_18_1 (φ, H) = some (fput φ 99 (fget φ 1), H) := nrfl rfl
theorem s121_18_2 : stepA E C B 148 r121_18 o121_18_2 (φ, H) = some (fput φ 100 (fget φ 2), H) := nrfl rfl
theorem s121_18_3 : stepA E C B 148 r121_18 o121_18_3 (φ, H) = some (fput φ 101 (fget φ 13), H) := nrfl rfl
theorem s121_18_4 : stepA E C B 148 r121_18 o121_18_4 (φ, H) = some (fput φ 102 (fget φ 4), H) := nrfl rfl
theorem s121_18_5 : stepA E C B 148 r121_18 o121_18_5 (φ, H) = mutX (some 103) φ (C 139 [(fget φ 98), (fget φ 99), (fget φ 100), (fget φ 101), (fget φ 102)] H (B + 148 * 8)) := nrfl rfl
theorem s121_18_6 : stepA E C B 148 r121_18 o121_18_6 (φ, H) = some (fput φ 15 (fget φ 103), H) := nrfl rfl
noncomputable def c121_61 : Code := kR c121_59
noncomputable def c121_62 : Code := kL c121_61
noncomputable def r121_19 : Array Oper := kO c121_62
noncomputable def o121_19_0 : Oper := opN r121_19 0
noncomputable def o121_19_1 : Oper := opN r121_19 1
theorem x121_62 : execA E C (fg 121) B 148 E0 N c121_62 s = regX (runA E C B 148 r121_19 r121_19.toList s) (fun s => gcM E0 [15, 104] (forget s.1 [15, 104], s.2)) := x_reg (ops := r121_19) (by rfl) (by rfl) s
theorem r121_19_l : r121_19.toList = [o121_19_0, o121_19_1] := nrfl rfl
theorem s121_19_0 : stepA E C B 148 r121_19 o121_19_0 (φ, H) = some (fput φ 104 (fget φ 15), H) := nrfl rfl
theorem s121_19_1 : stepA E C B 148 r121_19 o121_19_1 (φ, H) = some (fput φ 1 (fget φ 104), H) := nrfl rfl
noncomputable def c121_63 : Code := kR c121_61
theorem x121_63 : execA E C (fg 121) B 148 E0 N c121_63 s = some (.exit 1, s) := x_exit (by rfl) s
theorem x121_61 : execA E C (fg 121) B 148 E0 N c121_61 s = seqX (execA E C (fg 121) B 148 E0 N c121_62 s) (execA E C (fg 121) B 148 E0 N c121_63) := x_seq (by rfl) s
theorem x121_59 : execA E C (fg 121) B 148 E0 N c121_59 s = seqX (execA E C (fg 121) B 148 E0 N c121_60 s) (execA E C (fg 121) B 148 E0 N c121_61) := x_seq (by rfl) s
noncomputable def c121_64 : Code := kE c121_58
theorem x121_64 : execA E C (fg 121) B 148 E0 N c121_64 s = some (.normal, s) := x_skip (by rfl) s
theorem x121_58 : execA E C (fg 121) B 148 E0 N c121_58 (φ, H) = condX (fget φ 97) (execA E C (fg 121) B 148 E0 N c121_59 (φ, H)) (execA E C (fg 121) B 148 E0 N c121_64 (φ, H)) := x_cond (by rfl) _
theorem x121_56 : execA E C (fg 121) B 148 E0 N c121_56 s = seqX (execA E C (fg 121) B 148 E0 N c121_57 s) (execA E C (fg 121) B 148 E0 N c121_58) := x_seq (by rfl) s
noncomputable def c121_65 : Code := kR c121_55
noncomputable def c121_66 : Code := kL c121_65
noncomputable def r121_20 : Array Oper := kO c121_66
noncomputable def o121_20_0 : Oper := opN r121_20 0
noncomputable def o121_20_1 : Oper := opN r121_20 1
noncomputable def o121_20_2 : Oper := opN r121_20 2
noncomputable def o121_20_3 : Oper := opN r121_20 3
noncomputable def o121_20_4 : Oper := opN r121_20 4
noncomputable def o121_20_5 : Oper := opN r121_20 5
noncomputable def o121_20_6 : Oper := opN r121_20 6
noncomputable def o121_20_7 : Oper := opN r121_20 7
noncomputable def o121_20_8 : Oper := opN r121_20 8
noncomputable def o121_20_9 : Oper := opN r121_20 9
noncomputable def o121_20_10 : Oper := opN r121_20 10
theorem x121_66 : execA E C (fg 121) B 148 E0 N c121_66 s = regX (runA E C B 148 r121_20 r121_20.toList s) (fun s => gcM E0 [10, 11, 13, 97, 105, 106, 107, 108, 109, 110, 111, 112, 113] (forget s.1 [10, 11, 13, 97, 105, 106, 107, 108, 109, 110, 111, 112, 113], s.2)) := x_reg (ops := r121_20) (by rfl) (by rfl) s
theorem r121_20_l : r121_20.toList = [o121_20_0, o121_20_1, o121_20_2, o121_20_3, o121_20_4, o121_20_5, o121_20_6, o121_20_7, o121_20_8, o121_20_9, o121_20_10] := nrfl rfl
theorem s121_20_0 : stepA E C B 148 r121_20 o121_20_0 (φ, H) = some (fput φ 106 (fget φ 0), H) := nrfl rfl
theorem s121_20_1 : stepA E C B 148 r121_20 o121_20_1 (φ, H) = some (fput φ 107 (fget φ 1), H) := nrfl rfl
theorem s121_20_2 : stepA E C B 148 r121_20 o121_20_2 (φ, H) = some (fput φ 108 (fget φ 2), H) := nrfl rfl
theorem s121_20_3 : stepA E C B 148 r121_20 o121_20_3 (φ, H) = some (fput φ 109 (fget φ 13), H) := nrfl rfl
theorem s121_20_4 : stepA E C B 148 r121_20 o121_20_4 (φ, H) = some (fput φ 110 (fget φ 4), H) := nrfl rfl
theorem s121_20_5 : stepA E C B 148 r121_20 o121_20_5 (φ, H) = mutX (some 111) φ (C 140 [(fget φ 106), (fget φ 107), (fget φ 108), (fget φ 109), (fget φ 110)] H (B + 148 * 8)) := nrfl rfl
theorem s121_20_6 : stepA E C B 148 r121_20 o121_20_6 (φ, H) = some (fput φ 105 (fget φ 111), H) := nrfl rfl
theorem s121_20_7 : stepA E C B 148 r121_20 o121_20_7 (φ, H) = stp (some 112) φ H (opExtract (fget φ 105) 0) := nrfl rfl
theorem s121_20_8 : stepA E C B 148 r121_20 o121_20_8 (φ, H) = stp (some 113) φ H (opExtract (fget φ 105) 1) := nrfl rfl
theorem s121_20_9 : stepA E C B 148 r121_20 o121_20_9 (φ, H) = some (fput φ 16 (fget φ 112), H) := nrfl rfl
theorem s121_20_10 : stepA E C B 148 r121_20 o121_20_10 (φ, H) = some (fput φ 17 (fget φ 113), H) := nrfl rfl
noncomputable def c121_67 : Code := kR c121_65
noncomputable def c121_68 : Code := kL c121_67
noncomputable def r121_21 : Array Oper := kO c121_68
noncomputable def o121_21_0 : Oper := opN r121_21 0
noncomputable def o121_21_1 : Oper := opN r121_21 1
theorem x121_68 : execA E C (fg 121) B 148 E0 N c121_68 s = regX (runA E C B 148 r121_21 r121_21.toList s) (fun s => gcM E0 [17, 114] (forget s.1 [17, 114], s.2)) := x_reg (ops := r121_21) (by rfl) (by rfl) s
theorem r121_21_l : r121_21.toList = [o121_21_0, o121_21_1] := nrfl rfl
theorem s121_21_0 : stepA E C B 148 r121_21 o121_21_0 (φ, H) = some (fput φ 114 (fget φ 17), H) := nrfl rfl
theorem s121_21_1 : stepA E C B 148 r121_21 o121_21_1 (φ, H) = some (fput φ 11 (fget φ 114), H) := nrfl rfl
noncomputable def c121_69 : Code := kR c121_67
noncomputable def c121_70 : Code := kL c121_69
noncomputable def r121_22 : Array Oper := kO c121_70
noncomputable def o121_22_0 : Oper := opN r121_22 0
noncomputable def o121_22_1 : Oper := opN r121_22 1
noncomputable def o121_22_2 : Oper := opN r121_22 2
noncomputable def o121_22_3 : Oper := opN r121_22 3
noncomputable def o121_22_4 : Oper := opN r121_22 4
noncomputable def o121_22_5 : Oper := opN r121_22 5
noncomputable def o121_22_6 : Oper := opN r121_22 6
noncomputable def o121_22_7 : Oper := opN r121_22 7
theorem x121_70 : execA E C (fg 121) B 148 E0 N c121_70 s = regX (runA E C B 148 r121_22 r121_22.toList s) (fun s => gcM E0 [115, 116, 117, 118, 119, 120] (forget s.1 [115, 116, 117, 118, 119, 120], s.2)) := x_reg (ops := r121_22) (by rfl) (by rfl) s
theorem r121_22_l : r121_22.toList = [o121_22_0, o121_22_1, o121_22_2, o121_22_3, o121_22_4, o121_22_5, o121_22_6, o121_22_7] := nrfl rfl
theorem s121_22_0 : stepA E C B 148 r121_22 o121_22_0 (φ, H) = some (fput φ 115 (fget φ 16), H) := nrfl rfl
theorem s121_22_1 : stepA E C B 148 r121_22 o121_22_1 (φ, H) = some (fput φ 116 (fget φ 1), H) := nrfl rfl
theorem s121_22_2 : stepA E C B 148 r121_22 o121_22_2 (φ, H) = stp (some 117) φ H (just (aBin E.T .sub 3 (fget φ 115) (fget φ 116))) := nrfl rfl
theorem s121_22_3 : stepA E C B 148 r121_22 o121_22_3 (φ, H) = some (fput φ 118 (fget φ 2), H) := nrfl rfl
theorem s121_22_4 : stepA E C B 148 r121_22 o121_22_4 (φ, H) = some (fput φ 119 (fget φ 16), H) := nrfl rfl
theorem s121_22_5 : stepA E C B 148 r121_22 o121_22_5 (φ, H) = stp (some 120) φ H (just (aBin E.T .sub 3 (fget φ 118) (fget φ 119))) := nrfl rfl
theorem s121_22_6 : stepA E C B 148 r121_22 o121_22_6 (φ, H) = some (fput φ 18 (fget φ 117), H) := nrfl rfl
theorem s121_22_7 : stepA E C B 148 r121_22 o121_22_7 (φ, H) = some (fput φ 19 (fget φ 120), H) := nrfl rfl
noncomputable def c121_71 : Code := kR c121_69
noncomputable def c121_72 : Code := kL c121_71
noncomputable def r121_23 : Array Oper := kO c121_72
noncomputable def o121_23_0 : Oper := opN r121_23 0
noncomputable def o121_23_1 : Oper := opN r121_23 1
noncomputable def o121_23_2 : Oper := opN r121_23 2
theorem x121_72 : execA E C (fg 121) B 148 E0 N c121_72 s = regX (runA E C B 148 r121_23 r121_23.toList s) (fun s => gcM E0 [12, 121, 122] (forget s.1 [12, 121, 122], s.2)) := x_reg (ops := r121_23) (by rfl) (by rfl) s
theorem r121_23_l : r121_23.toList = [o121_23_0, o121_23_1, o121_23_2] := nrfl rfl
theorem s121_23_0 : stepA E C B 148 r121_23 o121_23_0 (φ, H) = some (fput φ 121 (fget φ 12), H) := nrfl rfl
theorem s121_23_1 : stepA E C B 148 r121_23 o121_23_1 (φ, H) = stp (some 122) φ H (just (aBin E.T .quo 3 (fget φ 121) (.int .i64 8))) := nrfl rfl
theorem s121_23_2 : stepA E C B 148 r121_23 o121_23_2 (φ, H) = some (fput φ 20 (fget φ 122), H) := nrfl rfl
noncomputable def c121_73 : Code := kR c121_71
noncomputable def c121_74 : Code := kL c121_73
noncomputable def r121_24 : Array Oper := kO c121_74
noncomputable def o121_24_0 : Oper := opN r121_24 0
noncomputable def o121_24_1 : Oper := opN r121_24 1
noncomputable def o121_24_2 : Oper := opN r121_24 2
theorem x121_74 : execA E C (fg 121) B 148 E0 N c121_74 s = regX (runA E C B 148 r121_24 r121_24.toList s) (fun s => gcM E0 [123, 124] (forget s.1 [123, 124], s.2)) := x_reg (ops := r121_24) (by rfl) (by rfl) s
theorem r121_24_l : r121_24.toList = [o121_24_0, o121_24_1, o121_24_2] := nrfl rfl
theorem s121_24_0 : stepA E C B 148 r121_24 o121_24_0 (φ, H) = some (fput φ 123 (fget φ 18), H) := nrfl rfl
theorem s121_24_1 : stepA E C B 148 r121_24 o121_24_1 (φ, H) = some (fput φ 124 (fget φ 19), H) := nrfl rfl
theorem s121_24_2 : stepA E C B 148 r121_24 o121_24_2 (φ, H) = stp (some 125) φ H (just (aBin E.T .lss 3 (fget φ 123) (fget φ 124))) := nrfl rfl
noncomputable def c121_75 : Code := kR c121_73
noncomputable def c121_76 : Code := kT c121_75
noncomputable def c121_77 : Code := kL c121_76
noncomputable def r121_25 : Array Oper := kO c121_77
noncomputable def o121_25_0 : Oper := opN r121_25 0
noncomputable def o121_25_1 : Oper := opN r121_25 1
noncomputable def o121_25_2 : Oper := opN r121_25 2
noncomputable def o121_25_3 : Oper := opN r121_25 3
theorem x121_77 : execA E C (fg 121) B 148 E0 N c121_77 s = regX (runA E C B 148 r121_25 r121_25.toList s) (fun s => gcM E0 [18, 19, 20, 125, 126, 127, 128] (forget s.1 [18, 19, 20, 125, 126, 127, 128], s.2)) := x_reg (ops := r121_25) (by rfl) (by rfl) s
theorem r121_25_l : r121_25.toList = [o121_25_0, o121_25_1, o121_25_2, o121_25_3] := nrfl rfl
theorem s121_25_0 : stepA E C B 148 r121_25 o121_25_0 (φ, H) = some (fput φ 126 (fget φ 18), H) := nrfl rfl
theorem s121_25_1 : stepA E C B 148 r121_25 o121_25_1 (φ, H) = some (fput φ 127 (fget φ 20), H) := nrfl rfl
theorem s121_25_2 : stepA E C B 148 r121_25 o121_25_2 (φ, H) = stp (some 128) φ H (just (aBin E.T .geq 3 (fget φ 126) (fget φ 127))) := nrfl rfl
theorem s121_25_3 : stepA E C B 148 r121_25 o121_25_3 (φ, H) = some (fput φ 10 (fget φ 128), H) := nrfl rfl
noncomputable def c121_78 : Code := kR c121_76
noncomputable def c121_79 : Code := kL c121_78
noncomputable def r121_26 : Array Oper := kO c121_79
noncomputable def o121_26_0 : Oper := opN r121_26 0
noncomputable def o121_26_1 : Oper := opN r121_26 1
noncomputable def o121_26_2 : Oper := opN r121_26 2
noncomputable def o121_26_3 : Oper := opN r121_26 3
noncomputable def o121_26_4 : Oper := opN r121_26 4
noncomputable def o121_26_5 : Oper := opN r121_26 5
theorem x121_79 : execA E C (fg 121) B 148 E0 N c121_79 s = regX (runA E C B 148 r121_26 r121_26.toList s) (fun s => gcM E0 [1, 129, 130, 131, 132, 133, 134] (forget s.1 [1, 129, 130, 131, 132, 133, 134], s.2)) := x_reg (ops := r121_26) (by rfl) (by rfl) s
theorem r121_26_l : r121_26.toList = [o121_26_0, o121_26_1, o121_26_2, o121_26_3, o121_26_4, o121_26_5] := nrfl rfl
theorem s121_26_0 : stepA E C B 148 r121_26 o121_26_0 (φ, H) = some (fput φ 129 (fget φ 0), H) := nrfl rfl
theorem s121_26_1 : stepA E C B 148 r121_26 o121_26_1 (φ, H) = some (fput φ 130 (fget φ 1), H) := nrfl rfl
theorem s121_26_2 : stepA E C B 148 r121_26 o121_26_2 (φ, H) = some (fput φ 131 (fget φ 16), H) := nrfl rfl
theorem s121_26_3 : stepA E C B 148 r121_26 o121_26_3 (φ, H) = some (fput φ 132 (fget φ 3), H) := nrfl rfl
theorem s121_26_4 : stepA E C B 148 r121_26 o121_26_4 (φ, H) = some (fput φ 133 (fget φ 4), H) := nrfl rfl
theorem s121_26_5 : stepA E C B 148 r121_26 o121_26_5 (φ, H) = mutX (some 134) φ (C 121 [(fget φ 129), (fget φ 130), (fget φ 131), (fget φ 132), (fget φ 133)] H (B + 148 * 8)) := nrfl rfl
noncomputable def c121_80 : Code := kR c121_78
noncomputable def r121_27 : Array Oper := kO c121_80
noncomputable def o121_27_0 : Oper := opN r121_27 0
noncomputable def o121_27_1 : Oper := opN r121_27 1
noncomputable def o121_27_2 : Oper := opN r121_27 2
theorem x121_80 : execA E C (fg 121) B 148 E0 N c121_80 s = regX (runA E C B 148 r121_27 r121_27.toList s) (fun s => gcM E0 [16, 135, 136] (forget s.1 [16, 135, 136], s.2)) := x_reg (ops := r121_27) (by rfl) (by rfl) s
theorem r121_27_l : r121_27.toList = [o121_27_0, o121_27_1, o121_27_2] := nrfl rfl
theorem s121_27_0 : stepA E C B 148 r121_27 o121_27_0 (φ, H) = some (fput φ 135 (fget φ 16), H) := nrfl rfl
theorem s121_27_1 : stepA E C B 148 r121_27 o121_27_1 (φ, H) = stp (some 136) φ H (just (aBin E.T .add 3 (fget φ 135) (.int .i64 1))) := nrfl rfl
theorem s121_27_2 : stepA E C B 148 r121_27 o121_27_2 (φ, H) = some (fput φ 1 (fget φ 136), H) := nrfl rfl
theorem x121_78 : execA E C (fg 121) B 148 E0 N c121_78 s = seqX (execA E C (fg 121) B 148 E0 N c121_79 s) (execA E C (fg 121) B 148 E0 N c121_80) := x_seq (by rfl) s
theorem x121_76 : execA E C (fg 121) B 148 E0 N c121_76 s = seqX (execA E C (fg 121) B 148 E0 N c121_77 s) (execA E C (fg 121) B 148 E0 N c121_78) := x_seq (by rfl) s
noncomputable def c121_81 : Code := kE c121_75
noncomputable def c121_82 : Code := kL c121_81
noncomputable def r121_28 : Array Oper := kO c121_82
noncomputable def o121_28_0 : Oper := opN r121_28 0
noncomputable def o121_28_1 : Oper := opN r121_28 1
noncomputable def o121_28_2 : Oper := opN r121_28 2
noncomputable def o121_28_3 : Oper := opN r121_28 3
theorem x121_82 : execA E C (fg 121) B 148 E0 N c121_82 s = regX (runA E C B 148 r121_28 r121_28.toList s) (fun s => gcM E0 [18, 19, 20, 125, 137, 138, 139] (forget s.1 [18, 19, 20, 125, 137, 138, 139], s.2)) := x_reg (ops := r121_28) (by rfl) (by rfl) s
theorem r121_28_l : r121_28.toList = [o121_28_0, o121_28_1, o121_28_2, o121_28_3] := nrfl rfl
theorem s121_28_0 : stepA E C B 148 r121_28 o121_28_0 (φ, H) = some (fput φ 137 (fget φ 19), H) := nrfl rfl
theorem s121_28_1 : stepA E C B 148 r121_28 o121_28_1 (φ, H) = some (fput φ 138 (fget φ 20), H) := nrfl rfl
theorem s121_28_2 : stepA E C B 148 r121_28 o121_28_2 (φ, H) = stp (some 139) φ H (just (aBin E.T .geq 3 (fget φ 137) (fget φ 138))) := nrfl rfl
theorem s121_28_3 : stepA E C B 148 r121_28 o121_28_3 (φ, H) = some (fput φ 10 (fget φ 139), H) := nrfl rfl
noncomputable def c121_83 : Code := kR c121_81
noncomputable def c121_84 : Code := kL c121_83
noncomputable def r121_29 : Array Oper := kO c121_84
noncomputable def o121_29_0 : Oper := opN r121_29 0
noncomputable def o121_29_1 : Oper := opN r121_29 1
noncomputable def o121_29_2 : Oper := opN r121_29 2
noncomputable def o121_29_3 : Oper := opN r121_29 3
noncomputable def o121_29_4 : Oper := opN r121_29 4
noncomputable def o121_29_5 : Oper := opN r121_29 5
noncomputable def o121_29_6 : Oper := opN r121_29 6
theorem x121_84 : execA E C (fg 121) B 148 E0 N c121_84 s = regX (runA E C B 148 r121_29 r121_29.toList s) (fun s => gcM E0 [2, 140, 141, 142, 143, 144, 145, 146] (forget s.1 [2, 140, 141, 142, 143, 144, 145, 146], s.2)) := x_reg (ops := r121_29) (by rfl) (by rfl) s
theorem r121_29_l : r121_29.toList = [o121_29_0, o121_29_1, o121_29_2, o121_29_3, o121_29_4, o121_29_5, o121_29_6] := nrfl rfl
theorem s121_29_0 : stepA E C B 148 r121_29 o121_29_0 (φ, H) = some (fput φ 140 (fget φ 0), H) := nrfl rfl
theorem s121_29_1 : stepA E C B 148 r121_29 o121_29_1 (φ, H) = some (fput φ 141 (fget φ 16), H) := nrfl rfl
theorem s121_29_2 : stepA E C B 148 r121_29 o121_29_2 (φ, H) = stp (some 142) φ H (just (aBin E.T .add 3 (fget φ 141) (.int .i64 1))) := nrfl rfl
theorem s121_29_3 : stepA E C B 148 r121_29 o121_29_3 (φ, H) = some (fput φ 143 (fget φ 2), H) := nrfl rfl
theorem s121_29_4 : stepA E C B 148 r121_29 o121_29_4 (φ, H) = some (fput φ 144 (fget φ 3), H) := nrfl rfl
theorem s121_29_5 : stepA E C B 148 r121_29 o121_29_5 (φ, H) = some (fput φ 145 (fget φ 4), H) := nrfl rfl
theorem s121_29_6 : stepA E C B 148 r121_29 o121_29_6 (φ, H) = mutX (some 146) φ (C 121 [(fget φ 140), (fget φ 142), (fget φ 143), (fget φ 144), (fget φ 145)] H (B + 148 * 8)) := nrfl rfl
noncomputable def c121_85 : Code := kR c121_83
noncomputable def r121_30 : Array Oper := kO c121_85
noncomputable def o121_30_0 : Oper := opN r121_30 0
noncomputable def o121_30_1 : Oper := opN r121_30 1
theorem x121_85 : execA E C (fg 121) B 148 E0 N c121_85 s = regX (runA E C B 148 r121_30 r121_30.toList s) (fun s => gcM E0 [16, 147] (forget s.1 [16, 147], s.2)) := x_reg (ops := r121_30) (by rfl) (by rfl) s
theorem r121_30_l : r121_30.toList = [o121_30_0, o121_30_1] := nrfl rfl
theorem s121_30_0 : stepA E C B 148 r121_30 o121_30_0 (φ, H) = some (fput φ 147 (fget φ 16), H) := nrfl rfl
theorem s121_30_1 : stepA E C B 148 r121_30 o121_30_1 (φ, H) = some (fput φ 2 (fget φ 147), H) := nrfl rfl
theorem x121_83 : execA E C (fg 121) B 148 E0 N c121_83 s = seqX (execA E C (fg 121) B 148 E0 N c121_84 s) (execA E C (fg 121) B 148 E0 N c121_85) := x_seq (by rfl) s
theorem x121_81 : execA E C (fg 121) B 148 E0 N c121_81 s = seqX (execA E C (fg 121) B 148 E0 N c121_82 s) (execA E C (fg 121) B 148 E0 N c121_83) := x_seq (by rfl) s
theorem x121_75 : execA E C (fg 121) B 148 E0 N c121_75 (φ, H) = condX (fget φ 125) (execA E C (fg 121) B 148 E0 N c121_76 (φ, H)) (execA E C (fg 121) B 148 E0 N c121_81 (φ, H)) := x_cond (by rfl) _
theorem x121_73 : execA E C (fg 121) B 148 E0 N c121_73 s = seqX (execA E C (fg 121) B 148 E0 N c121_74 s) (execA E C (fg 121) B 148 E0 N c121_75) := x_seq (by rfl) s
theorem x121_71 : execA E C (fg 121) B 148 E0 N c121_71 s = seqX (execA E C (fg 121) B 148 E0 N c121_72 s) (execA E C (fg 121) B 148 E0 N c121_73) := x_seq (by rfl) s
theorem x121_69 : execA E C (fg 121) B 148 E0 N c121_69 s = seqX (execA E C (fg 121) B 148 E0 N c121_70 s) (execA E C (fg 121) B 148 E0 N c121_71) := x_seq (by rfl) s
theorem x121_67 : execA E C (fg 121) B 148 E0 N c121_67 s = seqX (execA E C (fg 121) B 148 E0 N c121_68 s) (execA E C (fg 121) B 148 E0 N c121_69) := x_seq (by rfl) s
theorem x121_65 : execA E C (fg 121) B 148 E0 N c121_65 s = seqX (execA E C (fg 121) B 148 E0 N c121_66 s) (execA E C (fg 121) B 148 E0 N c121_67) := x_seq (by rfl) s
theorem x121_55 : execA E C (fg 121) B 148 E0 N c121_55 s = seqX (execA E C (fg 121) B 148 E0 N c121_56 s) (execA E C (fg 121) B 148 E0 N c121_65) := x_seq (by rfl) s
theorem x121_45 : execA E C (fg 121) B 148 E0 N c121_45 s = seqX (execA E C (fg 121) B 148 E0 N c121_46 s) (execA E C (fg 121) B 148 E0 N c121_55) := x_seq (by rfl) s
theorem x121_35 : execA E C (fg 121) B 148 E0 N c121_35 s = seqX (execA E C (fg 121) B 148 E0 N c121_36 s) (execA E C (fg 121) B 148 E0 N c121_45) := x_seq (by rfl) s
theorem x121_33 : execA E C (fg 121) B 148 E0 N c121_33 s = seqX (execA E C (fg 121) B 148 E0 N c121_34 s) (execA E C (fg 121) B 148 E0 N c121_35) := x_seq (by rfl) s
theorem x121_25 : execA E C (fg 121) B 148 E0 N c121_25 s = seqX (execA E C (fg 121) B 148 E0 N c121_26 s) (execA E C (fg 121) B 148 E0 N c121_33) := x_seq (by rfl) s
theorem x121_17 : execA E C (fg 121) B 148 E0 N c121_17 s = seqX (execA E C (fg 121) B 148 E0 N c121_18 s) (execA E C (fg 121) B 148 E0 N c121_25) := x_seq (by rfl) s
theorem x121_9 : execA E C (fg 121) B 148 E0 N c121_9 s = seqX (execA E C (fg 121) B 148 E0 N c121_10 s) (execA E C (fg 121) B 148 E0 N c121_17) := x_seq (by rfl) s
theorem x121_7 : execA E C (fg 121) B 148 E0 N c121_7 s = seqX (execA E C (fg 121) B 148 E0 N c121_8 s) (execA E C (fg 121) B 148 E0 N c121_9) := x_seq (by rfl) s
theorem x121_6 : execA E C (fg 121) B 148 E0 N c121_6 s = blockX 1 (fun s => (forget s.1 [], s.2)) (execA E C (fg 121) B 148 E0 N c121_7 s) := x_block (by rfl) (by rfl) s
theorem x121_5 : execA E C (fg 121) B 148 E0 N c121_5 s = iterA (execA E C (fg 121) B 148 E0 N c121_6) (headA E0) N s := x_loop (by rfl) s
theorem x121_4 : execA E C (fg 121) B 148 E0 N c121_4 s = blockX 0 (fun s => (forget s.1 [], s.2)) (execA E C (fg 121) B 148 E0 N c121_5 s) := x_block (by rfl) (by rfl) s
theorem x121_2 : execA E C (fg 121) B 148 E0 N c121_2 s = seqX (execA E C (fg 121) B 148 E0 N c121_3 s) (execA E C (fg 121) B 148 E0 N c121_4) := x_seq (by rfl) s
theorem x121_0 : execA E C (fg 121) B 148 E0 N c121_0 s = seqX (execA E C (fg 121) B 148 E0 N c121_1 s) (execA E C (fg 121) B 148 E0 N c121_2) := x_seq (by rfl) s
theorem fi_121 : fInfo E 121 = some ⟨148, #[], c121_0⟩ := nrfl rfl
theorem b_121 (args : List AV) : bodyA E C fg N 121 args H B = bodyX E [] (execA E C (fg 121) B 148 H N c121_0 (frame0 args 0 [], H)) := bodyA_eq fi_121 args H
abbrev F_121 := And.intro (And.intro (And.intro (And.intro (And.intro (And.intro (And.intro (And.intro @x121_1 @r121_0_l) (And.intro @s121_0_0 @x121_3)) (And.intro (And.intro @r121_1_l @s121_1_0) (And.intro @x121_8 @r121_2_l))) (And.intro (And.intro (And.intro @s121_2_0 @s121_2_1) (And.intro @s121_2_2 @s121_2_3)) (And.intro (And.intro @x121_11 @r121_3_l) (And.intro @s121_3_0 @s121_3_1)))) (And.intro (And.intro (And.intro (And.intro @x121_14 @r121_4_l) (And.intro @s121_4_0 @s121_4_1)) (And.intro (And.intro @s121_4_2 @s121_4_3) (And.intro @s121_4_4 @x121_15))) (And.intro (And.intro (And.intro @x121_13 @x121_16) (And.intro @x121_12 @x121_10)) (And.intro (And.intro @x121_19 @r121_5_l) (And.intro @s121_5_0 (And.intro @s121_5_1 @x121_22)))))) (And.intro (And.intro (And.intro (And.intro (And.intro @r121_6_l @s121_6_0) (And.intro @s121_6_1 @s121_6_2)) (And.intro (And.intro @s121_6_3 @s121_6_4) (And.intro @x121_23 @x121_21))) (And.intro (And.intro (And.intro @x121_24 @x121_20) (And.intro @x121_18 @x121_27)) (And.intro (And.intro @r121_7_l @s121_7_0) (And.intro @s121_7_1 @x121_30)))) (And.intro (And.intro (And.intro (And.intro @r121_8_l @s121_8_0) (And.intro @s121_8_1 @s121_8_2)) (And.intro (And.intro @s121_8_3 @s121_8_4) (And.intro @x121_31 @r121_9_l))) (And.intro (And.intro (And.intro @s121_9_0 @s121_9_1) (And.intro @s121_9_2 @x121_29)) (And.intro (And.intro @x121_32 @x121_28) (And.intro @x121_26 (And.intro @x121_34 @r121_10_l))))))) (And.intro (And.intro (And.intro (And.intro (And.intro (And.intro @s121_10_0 @s121_10_1) (And.intro @s121_10_2 @s121_10_3)) (And.intro (And.intro @s121_10_4 @s121_10_5) (And.intro @s121_10_6 @s121_10_7))) (And.intro (And.intro (And.intro @s121_10_8 @s121_10_9) (And.intro @x121_37 @r121_11_l)) (And.intro (And.intro @s121_11_0 @s121_11_1) (And.intro @x121_40 @r121_12_l)))) (And.intro (And.intro (And.intro (And.intro @s121_12_0 @s121_12_1) (And.intro @s121_12_2 @s121_12_3)) (And.intro (And.intro @s121_12_4 @x121_42) (And.intro @r121_13_l @s121_13_0))) (And.intro (And.intro (And.intro @s121_13_1 @s121_13_2) (And.intro @s121_13_3 @s121_13_4)) (And.intro (And.intro @s121_13_5 @s121_13_6) (And.intro @x121_43 (And.intro @r121_14_l @s121_14_0)))))) (And.intro (And.intro (And.intro (And.intro (And.intro @x121_41 @x121_39) (And.intro @x121_44 @x121_38)) (And.intro (And.intro @x121_36 @x121_47) (And.intro @r121_15_l @s121_15_0))) (And.intro (And.intro (And.intro @s121_15_1 @s121_15_2) (And.intro @s121_15_3 @s121_15_4)) (And.intro (And.intro @s121_15_5 @s121_15_6) (And.intro @s121_15_7 (And.intro @x121_50 @r121_16_l))))) (And.intro (And.intro (And.intro (And.intro @s121_16_0 @s121_16_1) (And.intro @s121_16_2 @s121_16_3)) (And.intro (And.intro @s121_16_4 @x121_52) (And.intro @x121_53 @x121_51))) (And.intro (And.intro (And.intro @x121_49 @x121_54) (And.intro @x121_48 @x121_46)) (And.intro (And.intro @x121_57 @r121_17_l) (And.intro @r121_17_dr (And.intro @r121_17_an @s121_17_0)))))))) (And.intro (And.intro (And.intro (And.intro (And.intro (And.intro (And.intro @s121_17_1 @s121_17_2) (And.intro @s121_17_3 @s121_17_4)) (And.intro (And.intro @s121_17_5 @s121_17_6) (And.intro @s121_17_7 @s121_17_8))) (And.intro (And.intro (And.intro @s121_17_9 @s121_17_10) (And.intro @s121_17_11 @s121_17_12)) (And.intro (And.intro @s121_17_13 @s121_17_14) (And.intro @s121_17_15 @s121_17_16)))) (And.intro (And.intro (And.intro (And.intro @x121_60 @r121_18_l) (And.intro @s121_18_0 @s121_18_1)) (And.intro (And.intro @s121_18_2 @s121_18_3) (And.intro @s121_18_4 @s121_18_5))) (And.intro (And.intro (And.intro @s121_18_6 @x121_62) (And.intro @r121_19_l @s121_19_0)) (And.intro (And.intro @s121_19_1 @x121_63) (And.intro @x121_61 (And.intro @x121_59 @x121_64)))))) (And.intro (And.intro (And.intro (And.intro (And.intro @x121_58 @x121_56) (And.intro @x121_66 @r121_20_l)) (And.intro (And.intro @s121_20_0 @s121_20_1) (And.intro @s121_20_2 @s121_20_3))) (And.intro (And.intro (And.intro @s121_20_4 @s121_20_5) (And.intro @s121_20_6 @s121_20_7)) (And.intro (And.intro @s121_20_8 @s121_20_9) (And.intro @s121_20_10 (And.intro @x121_68 @r121_21_l))))) (And.intro (And.intro (And.intro (And.intro @s121_21_0 @s121_21_1) (And.intro @x121_70 @r121_22_l)) (And.intro (And.intro @s121_22_0 @s121_22_1) (And.intro @s121_22_2 @s121_22_3))) (And.intro (And.intro (And.intro @s121_22_4 @s121_22_5) (And.intro @s121_22_6 @s121_22_7)) (And.intro (And.intro @x121_72 @r121_23_l) (And.intro @s121_23_0 (And.intro @s121_23_1 @s121_23_2))))))) (And.intro (And.intro (And.intro (And.intro (And.intro (And.intro @x121_74 @r121_24_l) (And.intro @s121_24_0 @s121_24_1)) (And.intro (And.intro @s121_24_2 @x121_77) (And.intro @r121_25_l @s121_25_0))) (And.intro (And.intro (And.intro @s121_25_1 @s121_25_2) (And.intro @s121_25_3 @x121_79)) (And.intro (And.intro @r121_26_l @s121_26_0) (And.intro @s121_26_1 @s121_26_2)))) (And.intro (And.intro (And.intro (And.intro @s121_26_3 @s121_26_4) (And.intro @s121_26_5 @x121_80)) (And.intro (And.intro @r121_27_l @s121_27_0) (And.intro @s121_27_1 @s121_27_2))) (And.intro (And.intro (And.intro @x121_78 @x121_76) (And.intro @x121_82 @r121_28_l)) (And.intro (And.intro @s121_28_0 @s121_28_1) (And.intro @s121_28_2 (And.intro @s121_28_3 @x121_84)))))) (And.intro (And.intro (And.intro (And.intro (And.intro @r121_29_l @s121_29_0) (And.intro @s121_29_1 @s121_29_2)) (And.intro (And.intro @s121_29_3 @s121_29_4) (And.intro @s121_29_5 @s121_29_6))) (And.intro (And.intro (And.intro @x121_85 @r121_30_l) (And.intro @s121_30_0 @s121_30_1)) (And.intro (And.intro @x121_83 @x121_81) (And.intro @x121_75 (And.intro @x121_73 @x121_71))))) (And.intro (And.intro (And.intro (And.intro @x121_69 @x121_67) (And.intro @x121_65 @x121_55)) (And.intro (And.intro @x121_45 @x121_35) (And.intro @x121_33 @x121_25))) (And.intro (And.intro (And.intro @x121_17 @x121_9) (And.intro @x121_7 @x121_6)) (And.intro (And.intro @x121_5 @x121_4) (And.intro @x121_2 (And.intro @x121_0 @b_121))))))))
noncomputable def c133_0 : Code := kBody Proofs.Try.f133
noncomputable def c133_1 : Code := kL c133_0
noncomputable def r133_0 : Array Oper := kO c133_1
noncomputable def o133_0_0 : Oper := opN r133_0 0
noncomputable def o133_0_1 : Oper := opN r133_0 1
noncomputable def o133_0_2 : Oper := opN r133_0 2
theorem x133_1 : execA E C (fg 133) B 53 E0 N c133_1 s = regX (runA E C B 53 r133_0 r133_0.toList s) (fun s => gcM E0 [10, 11] (forget s.1 [10, 11], s.2)) := x_reg (ops := r133_0) (by rfl) (by rfl) s
theorem r133_0_l : r133_0.toList = [o133_0_0, o133_0_1, o133_0_2] := nrfl rfl
theorem s133_0_0 : stepA E C B 53 r133_0 o133_0_0 (φ, H) = some (fput φ 10 (fget φ 1), H) := nrfl rfl
theorem s133_0_1 : stepA E C B 53 r133_0 o133_0_1 (φ, H) = stp (some 11) φ H (just (aBin E.T .add 3 (fget φ 10) (.int .i64 1))) := nrfl rfl
theorem s133_0_2 : stepA E C B 53 r133_0 o133_0_2 (φ, H) = some (fput φ 8 (fget φ 11), H) := nrfl rfl
noncomputable def c133_2 : Code := kR c133_0
noncomputable def c133_3 : Code := kB c133_2
noncomputable def c133_4 : Code := kB c133_3
noncomputable def c133_5 : Code := kL c133_4
noncomputable def c133_6 : Code := kL c133_5
noncomputable def r133_1 : Array Oper := kO c133_6
noncomputable def o133_1_0 : Oper := opN r133_1 0
noncomputable def o133_1_1 : Oper := opN r133_1 1
noncomputable def o133_1_2 : Oper := opN r133_1 2
theorem x133_6 : execA E C (fg 133) B 53 E0 N c133_6 s = regX (runA E C B 53 r133_1 r133_1.toList s) (fun s => gcM E0 [12, 13] (forget s.1 [12, 13], s.2)) := x_reg (ops := r133_1) (by rfl) (by rfl) s
theorem r133_1_l : r133_1.toList = [o133_1_0, o133_1_1, o133_1_2] := nrfl rfl
theorem s133_1_0 : stepA E C B 53 r133_1 o133_1_0 (φ, H) = some (fput φ 12 (fget φ 8), H) := nrfl rfl
theorem s133_1_1 : stepA E C B 53 r133_1 o133_1_1 (φ, H) = some (fput φ 13 (fget φ 2), H) := nrfl rfl
theorem s133_1_2 : stepA E C B 53 r133_1 o133_1_2 (φ, H) = stp (some 14) φ H (just (aBin E.T .lss 3 (fget φ 12) (fget φ 13))) := nrfl rfl
noncomputable def c133_7 : Code := kR c133_5
noncomputable def c133_8 : Code := kT c133_7
theorem x133_8 : execA E C (fg 133) B 53 E0 N c133_8 s = some (.normal, s) := x_skip (by rfl) s
noncomputable def c133_9 : Code := kE c133_7
theorem x133_9 : execA E C (fg 133) B 53 E0 N c133_9 s = some (.exit 0, s) := x_exit (by rfl) s
theorem x133_7 : execA E C (fg 133) B 53 E0 N c133_7 (φ, H) = condX (fget φ 14) (execA E C (fg 133) B 53 E0 N c133_8 (φ, H)) (execA E C (fg 133) B 53 E0 N c133_9 (φ, H)) := x_cond (by rfl) _
theorem x133_5 : execA E C (fg 133) B 53 E0 N c133_5 s = seqX (execA E C (fg 133) B 53 E0 N c133_6 s) (execA E C (fg 133) B 53 E0 N c133_7) := x_seq (by rfl) s
noncomputable def c133_10 : Code := kR c133_4
noncomputable def c133_11 : Code := kL c133_10
noncomputable def c133_12 : Code := kB c133_11
noncomputable def c133_13 : Code := kL c133_12
noncomputable def r133_3 : Array Oper := kO c133_13
noncomputable def o133_3_0 : Oper := opN r133_3 0
noncomputable def o133_3_1 : Oper := opN r133_3 1
theorem x133_13 : execA E C (fg 133) B 53 E0 N c133_13 s = regX (runA E C B 53 r133_3 r133_3.toList s) (fun s => gcM E0 [14, 17] (forget s.1 [14, 17], s.2)) := x_reg (ops := r133_3) (by rfl) (by rfl) s
theorem r133_3_l : r133_3.toList = [o133_3_0, o133_3_1] := nrfl rfl
theorem s133_3_0 : stepA E C B 53 r133_3 o133_3_0 (φ, H) = some (fput φ 17 (fget φ 8), H) := nrfl rfl
theorem s133_3_1 : stepA E C B 53 r133_3 o133_3_1 (φ, H) = some (fput φ 9 (fget φ 17), H) := nrfl rfl
noncomputable def c133_14 : Code := kR c133_12
noncomputable def c133_15 : Code := kB c133_14
noncomputable def c133_16 : Code := kB c133_15
noncomputable def c133_17 : Code := kL c133_16
noncomputable def c133_18 : Code := kL c133_17
noncomputable def r133_4 : Array Oper := kO c133_18
noncomputable def o133_4_0 : Oper := opN r133_4 0
noncomputable def o133_4_1 : Oper := opN r133_4 1
noncomputable def o133_4_2 : Oper := opN r133_4 2
noncomputable def o133_4_3 : Oper := opN r133_4 3
noncomputable def o133_4_4 : Oper := opN r133_4 4
noncomputable def o133_4_5 : Oper := opN r133_4 5
noncomputable def o133_4_6 : Oper := opN r133_4 6
noncomputable def o133_4_7 : Oper := opN r133_4 7
noncomputable def o133_4_8 : Oper := opN r133_4 8
noncomputable def o133_4_9 : Oper := opN r133_4 9
noncomputable def o133_4_10 : Oper := opN r133_4 10
noncomputable def o133_4_11 : Oper := opN r133_4 11
noncomputable def o133_4_12 : Oper := opN r133_4 12
noncomputable def o133_4_13 : Oper := opN r133_4 13
noncomputable def o133_4_14 : Oper := opN r133_4 14
noncomputable def o133_4_15 : Oper := opN r133_4 15
noncomputable def o133_4_16 : Oper := opN r133_4 16
theorem x133_18 : execA E C (fg 133) B 53 E0 N c133_18 s = regX (drawA E C B 53 r133_4 s) (fun s => gcM E0 [18, 19, 20, 21, 22, 23, 24, 25, 26, 27, 28, 29, 30, 31, 32, 33] (forget s.1 [18, 19, 20, 21, 22, 23, 24, 25, 26, 27, 28, 29, 30, 31, 32, 33], s.2)) := x_draw (ops := r133_4) (by rfl) (by rfl) s
theorem r133_4_l : r133_4.toList = [o133_4_0, o133_4_1, o133_4_2, o133_4_3, o133_4_4, o133_4_5, o133_4_6, o133_4_7, o133_4_8, o133_4_9, o133_4_10, o133_4_11, o133_4_12, o133_4_13, o133_4_14, o133_4_15, o133_4_16] := nrfl rfl
theorem r133_4_st : statOk r133_4 = true := by kernel_rfl
theorem r133_4_dr : drawA E C B 53 r133_4 s = if neat 53 s = true then drX r133_4 (runT E C B 53 r133_4 r133_4.toList 0 s) else none := draw_eq r133_4_st s
theorem r133_4_an (l : List (Nat × Tr)) : dynOk r133_4 l = (!writing l || dynPairs [[], [], [0, 1], [0, 1, 2], [0, 1, 2, 3], [0, 1, 2, 3], [0, 1, 2, 3], [0, 1, 2, 3, 5, 6], [0, 1, 2, 3, 5, 6, 7], [0, 1, 2, 3], [0, 1, 2, 3], [0, 1, 2, 3, 10], [0, 1, 2, 3, 9, 10, 11], [0, 1, 2, 3, 9, 10, 11, 12], [0, 1, 2, 3, 4, 5, 6, 7, 8, 9, 10, 11, 12, 13], [0, 1, 2, 3, 4, 5, 6, 7, 8, 9, 10, 11, 12, 13, 14], [0, 1, 2, 3, 4, 5, 6, 7, 8, 9, 10, 11, 12, 13, 14, 15]] (touching l)) := dynOk_eq (by kernel_rfl) l
theorem s133_4_0 : stepT E C B 53 r133_4 o133_4_0 (φ, H) = some ((fput φ 18 (fget φ 9), H), ⟨false, [], []⟩) := stT_go rfl (goT_mv rfl rfl)
theorem s133_4_1 : stepT E C B 53 r133_4 o133_4_1 (φ, H) = some ((fput φ 19 (fget φ 1), H), ⟨false, [], []⟩) := stT_go rfl (goT_mv rfl rfl)
theorem s133_4_2 : stepT E C B 53 r133_4 o133_4_2 (φ, H) = stpT (some 20) φ H (just (aBin E.T .gtr 3 (fget φ 18) (fget φ 19))) := stT_go rfl (goT_R rfl rfl)
theorem s133_4_3 : stepT E C B 53 r133_4 o133_4_3 (φ, H) = some ((fput φ 21 (fget φ 20), H), ⟨false, [], []⟩) := stT_go rfl (goT_mv rfl rfl)
theorem s133_4_4 : stepT E C B 53 r133_4 o133_4_4 (φ, H) = gdT φ 21 true (fun φ => (some (fput φ 22 (.tup []), H)).map fun s => (s, ⟨false, [], []⟩)) (fun φ => some ((fput φ 22 (fget φ 3), H), ⟨false, [], []⟩)) := stT_gd (j := 3) (oj := o133_4_3) rfl rfl rfl (fun _ => rfl) (fun _ => goT_mv rfl rfl)
theorem s133_4_5 : stepT E C B 53 r133_4 o133_4_5 (φ, H) = gdT φ 21 true (fun φ => (some (fput φ 23 (.tup []), H)).map fun s => (s, ⟨false, [], []⟩)) (fun φ => some ((fput φ 23 (fget φ 0), H), ⟨false, [], []⟩)) := stT_gd (j := 3) (oj := o133_4_3) rfl rfl rfl (fun _ => rfl) (fun _ => goT_mv rfl rfl)
theorem s133_4_6 : stepT E C B 53 r133_4 o133_4_6 (φ, H) = gdT φ 21 true (fun φ => (some (fput φ 24 (.tup []), H)).map fun s => (s, ⟨false, [], []⟩)) (fun φ => some ((fput φ 24 (fget φ 9), H), ⟨false, [], []⟩)) := stT_gd (j := 3) (oj := o133_4_3) rfl rfl rfl (fun _ => rfl) (fun _ => goT_mv rfl rfl)
theorem s133_4_7 : stepT E C B 53 r133_4 o133_4_7 (φ, H) = gdT φ 21 true (fun φ => (some (fput φ 25 (.tup []), H)).map fun s => (s, ⟨false, [], []⟩)) (fun φ => stpT (some 25) φ H (just (aIndexAddr E.T 22 (fget φ 23) (fget φ 24)))) := stT_gd (j := 3) (oj := o133_4_3) rfl rfl rfl (fun _ => rfl) (fun _ => goT_R rfl rfl)
theorem s133_4_8 : stepT E C B 53 r133_4 o133_4_8 (φ, H) = gdT φ 21 true (fun φ => (some (fput φ 26 (.tup []), H)).map fun s => (s, ⟨false, [], []⟩)) (fun φ => stpT (some 26) φ H (just (aLoad E.T 3 (fget φ 25)))) := stT_gd (j := 3) (oj := o133_4_3) rfl rfl rfl (fun _ => rfl) (fun _ => goT_R rfl rfl)
theorem s133_4_9 : stepT E C B 53 r133_4 o133_4_9 (φ, H) = gdT φ 21 true (fun φ => (some (fput φ 27 (.tup []), H)).map fun s => (s, ⟨false, [], []⟩)) (fun φ => some ((fput φ 27 (fget φ 0), H), ⟨false, [], []⟩)) := stT_gd (j := 3) (oj := o133_4_3) rfl rfl rfl (fun _ => rfl) (fun _ => goT_mv rfl rfl)
theorem s133_4_10 : stepT E C B 53 r133_4 o133_4_10 (φ, H) = gdT φ 21 true (fun φ => (some (fput φ 28 (.tup []), H)).map fun s => (s, ⟨false, [], []⟩)) (fun φ => some ((fput φ 28 (fget φ 9), H), ⟨false, [], []⟩)) := stT_gd (j := 3) (oj := o133_4_3) rfl rfl rfl (fun _ => rfl) (fun _ => goT_mv rfl rfl)
theorem s133_4_11 : stepT E C B 53 r133_4 o133_4_11 (φ, H) = gdT φ 21 true (fun φ => (some (fput φ 29 (.tup []), H)).map fun s => (s, ⟨false, [], []⟩)) (fun φ => stpT (some 29) φ H (just (aBin E.T .sub 3 (fget φ 28) (.int .i64 1)))) := stT_gd (j := 3) (oj := o133_4_3) rfl rfl rfl (fun _ => rfl) (fun _ => goT_R rfl rfl)
theorem s133_4_12 : stepT E C B 53 r133_4 o133_4_12 (φ, H) = gdT φ 21 true (fun φ => (some (fput φ 30 (.tup []), H)).map fun s => (s, ⟨false, [], []⟩)) (fun φ => stpT (some 30) φ H (just (aIndexAddr E.T 22 (fget φ 27) (fget φ 29)))) := stT_gd (j := 3) (oj := o133_4_3) rfl rfl rfl (fun _ => rfl) (fun _ => goT_R rfl rfl)
theorem s133_4_13 : stepT E C B 53 r133_4 o133_4_13 (φ, H) = gdT φ 21 true (fun φ => (some (fput φ 31 (.tup []), H)).map fun s => (s, ⟨false, [], []⟩)) (fun φ => stpT (some 31) φ H (just (aLoad E.T 3 (fget φ 30)))) := stT_gd (j := 3) (oj := o133_4_3) rfl rfl rfl (fun _ => rfl) (fun _ => goT_R rfl rfl)
theorem s133_4_14 : stepT E C B 53 r133_4 o133_4_14 (φ, H) = gdT φ 21 true (fun φ => (some (fput φ 32 (.tup []), H)).map fun s => (s, ⟨false, [], []⟩)) (fun φ => callVT E C (B + 53 * 8) (some 32) (fun j => B + j * 53 + 32) φ H (fget φ 22) [(fget φ 26), (fget φ 31)] true) := stT_gd (j := 3) (oj := o133_4_3) rfl rfl rfl (fun _ => rfl) (fun _ => goT_V rfl rfl)
theorem s133_4_15 : stepT E C B 53 r133_4 o133_4_15 (φ, H) = gdT φ 21 true (fun φ => (some (fput φ 33 (.tup []), H)).map fun s => (s, ⟨false, [], []⟩)) (fun φ => stpT (some 33) φ H (just (aBin E.T .lss 3 (fget φ 32) (.int .i64 0)))) := stT_gd (j := 3) (oj := o133_4_3) rfl rfl rfl (fun _ => rfl) (fun _ => goT_R rfl rfl)
theorem s133_4_16 : stepT E C B 53 r133_4 o133_4_16 (φ, H) = stpT (some 34) φ H (opPick (fget φ 21) (fget φ 33) (.bool false)) := stT_go rfl (goT_R rfl rfl)
noncomputable def c133_19 : Code := kR c133_17
noncomputable def c133_20 : Code := kT c133_19
theorem x133_20 : execA E C (fg 133) B 53 E0 N c133_20 s = some (.normal, s) := x_skip (by rfl) s
noncomputable def c133_21 : Code := kE c133_19
theorem x133_21 : execA E C (fg 133) B 53 E0 N c133_21 s = some (.exit 2, s) := x_exit (by rfl) s
theorem x133_19 : execA E C (fg 133) B 53 E0 N c133_19 (φ, H) = condX (fget φ 34) (execA E C (fg 133) B 53 E0 N c133_20 (φ, H)) (execA E C (fg 133) B 53 E0 N c133_21 (φ, H)) := x_cond (by rfl) _
theorem x133_17 : execA E C (fg 133) B 53 E0 N c133_17 s = seqX (execA E C (fg 133) B 53 E0 N c133_18 s) (execA E C (fg 133) B 53 E0 N c133_19) := x_seq (by rfl) s
noncomputable def c133_22 : Code := kR c133_16
noncomputable def c133_23 : Code := kL c133_22
noncomputable def c133_24 : Code := kB c133_23
noncomputable def r133_6 : Array Oper := kO c133_24
noncomputable def o133_6_0 : Oper := opN r133_6 0
noncomputable def o133_6_1 : Oper := opN r133_6 1
noncomputable def o133_6_2 : Oper := opN r133_6 2
noncomputable def o133_6_3 : Oper := opN r133_6 3
noncomputable def o133_6_4 : Oper := opN r133_6 4
noncomputable def o133_6_5 : Oper := opN r133_6 5
noncomputable def o133_6_6 : Oper := opN r133_6 6
noncomputable def o133_6_7 : Oper := opN r133_6 7
noncomputable def o133_6_8 : Oper := opN r133_6 8
noncomputable def o133_6_9 : Oper := opN r133_6 9
noncomputable def o133_6_10 : Oper := opN r133_6 10
noncomputable def o133_6_11 : Oper := opN r133_6 11
noncomputable def o133_6_12 : Oper := opN r133_6 12
noncomputable def o133_6_13 : Oper := opN r133_6 13
noncomputable def o133_6_14 : Oper := opN r133_6 14
noncomputable def o133_6_15 : Oper := opN r133_6 15
noncomputable def o133_6_16 : Oper := opN r133_6 16
noncomputable def o133_6_17 : Oper := opN r133_6 17
theorem x133_24 : execA E C (fg 133) B 53 E0 N c133_24 s = regX (drawA E C B 53 r133_6 s) (fun s => gcM E0 [34, 37, 38, 39, 40, 41, 42, 43, 44, 45, 46, 47, 48, 49, 50, 51, 52] (forget s.1 [34, 37, 38, 39, 40, 41, 42, 43, 44, 45, 46, 47, 48, 49, 50, 51, 52], s.2)) := x_draw (ops := r133_6) (by rfl) (by rfl) s
theorem r133_6_l : r133_6.toList = [o133_6_0, o133_6_1, o133_6_2, o133_6_3, o133_6_4, o133_6_5, o133_6_6, o133_6_7, o133_6_8, o133_6_9, o133_6_10, o133_6_11, o133_6_12, o133_6_13, o133_6_14, o133_6_15, o133_6_16, o133_6_17] := nrfl rfl
theorem r133_6_st : statOk r133_6 = true := by kernel_rfl
theorem r133_6_dr : drawA E C B 53 r133_6 s = if neat 53 s = true then drX r133_6 (runT E C B 53 r133_6 r133_6.toList 0 s) else none := draw_eq r133_6_st s
theorem r133_6_an (l : List (Nat × Tr)) : dynOk r133_6 l = (!writing l || dynPairs [[], [], [], [], [3], [], [], [6], [5, 6, 7], [5, 6, 7, 8], [], [], [10, 11], [10, 11, 12], [0, 1, 5, 6, 7, 8, 9, 10, 11, 12, 13], [0, 1, 5, 6, 7, 8, 9, 10, 11, 12, 13, 14], [0, 1, 2, 3, 4, 5, 6, 7, 8, 9, 10, 11, 12, 13, 14, 15], [0, 1, 2, 3, 4, 5, 6, 7, 8, 9, 10, 11, 12, 13, 14, 15, 16]] (touching l)) := dynOk_eq (by kernel_rfl) l
theorem s133_6_0 : stepT E C B 53 r133_6 o133_6_0 (φ, H) = some ((fput φ 37 (fget φ 0), H), ⟨false, [], []⟩) := stT_go rfl (goT_mv rfl rfl)
theorem s133_6_1 : stepT E C B 53 r133_6 o133_6_1 (φ, H) = some ((fput φ 38 (fget φ 9), H), ⟨false, [], []⟩) := stT_go rfl (goT_mv rfl rfl)
theorem s133_6_2 : stepT E C B 53 r133_6 o133_6_2 (φ, H) = some ((fput φ 39 (fget φ 0), H), ⟨false, [], []⟩) := stT_go rfl (goT_mv rfl rfl)
theorem s133_6_3 : stepT E C B 53 r133_6 o133_6_3 (φ, H) = some ((fput φ 40 (fget φ 9), H), ⟨false, [], []⟩) := stT_go rfl (goT_mv rfl rfl)
theorem s133_6_4 : stepT E C B 53 r133_6 o133_6_4 (φ, H) = stpT (some 41) φ H (just (aBin E.T .sub 3 (fget φ 40) (.int .i64 1))) := stT_go rfl (goT_R rfl rfl)
theorem s133_6_5 : stepT E C B 53 r133_6 o133_6_5 (φ, H) = some ((fput φ 42 (fget φ 0), H), ⟨false, [], []⟩) := stT_go rfl (goT_mv rfl rfl)
theorem s133_6_6 : stepT E C B 53 r133_6 o133_6_6 (φ, H) = some ((fput φ 43 (fget φ 9), H), ⟨false, [], []⟩) := stT_go rfl (goT_mv rfl rfl)
theorem s133_6_7 : stepT E C B 53 r133_6 o133_6_7 (φ, H) = stpT (some 44) φ H (just (aBin E.T .sub 3 (fget φ 43) (.int .i64 1))) := stT_go rfl (goT_R rfl rfl)
theorem s133_6_8 : stepT E C B 53 r133_6 o133_6_8 (φ, H) = stpT (some 45) φ H (just (aIndexAddr E.T 22 (fget φ 42) (fget φ 44))) := stT_go rfl (goT_R rfl rfl)
theorem s133_6_9 : stepT E C B 53 r133_6 o133_6_9 (φ, H) = stpT (some 46) φ H (just (aLoad E.T 3 (fget φ 45))) := stT_go rfl (goT_R rfl rfl)
theorem s133_6_10 : stepT E C B 53 r133_6 o133_6_10 (φ, H) = some ((fput φ 47 (fget φ 0), H), ⟨false, [], []⟩) := stT_go rfl (goT_mv rfl rfl)
theorem s133_6_11 : stepT E C B 53 r133_6 o133_6_11 (φ, H) = some ((fput φ 48 (fget φ 9), H), ⟨false, [], []⟩) := stT_go rfl (goT_mv rfl rfl)
theorem s133_6_12 : stepT E C B 53 r133_6 o133_6_12 (φ, H) = stpT (some 49) φ H (just (aIndexAddr E.T 22 (fget φ 47) (fget φ 48))) := stT_go rfl (goT_R rfl rfl)
theorem s133_6_13 : stepT E C B 53 r133_6 o133_6_13 (φ, H) = stpT (some 50) φ H (just (aLoad E.T 3 (fget φ 49))) := stT_go rfl (goT_R rfl rfl)
theorem s133_6_14 : stepT E C B 53 r133_6 o133_6_14 (φ, H) = stpT (some 51) φ H (just (aIndexAddr E.T 22 (fget φ 37) (fget φ 38))) := stT_go rfl (goT_R rfl rfl)
theorem s133_6_15 : stepT E C B 53 r133_6 o133_6_15 (φ, H) = stpT none φ H (opStore E.T 3 (fget φ 51) (fget φ 46)) := stT_go rfl (goT_R rfl rfl)
theorem s133_6_16 : stepT E C B 53 r133_6 o133_6_16 (φ, H) = stpT (some 52) φ H (just (aIndexAddr E.T 22 (fget φ 39) (fget φ 41))) := stT_go rfl (goT_R rfl rfl)
theorem s133_6_17 : stepT E C B 53 r133_6 o133_6_17 (φ, H) = stpT none φ H (opStore E.T 3 (fget φ 52) (fget φ 50)) := stT_go rfl (goT_R rfl rfl)
theorem x133_23 : execA E C (fg 133) B 53 E0 N c133_23 s = blockX 3 (fun s => (forget s.1 [], s.2)) (execA E C (fg 133) B 53 E0 N c133_24 s) := x_block (by rfl) (by rfl) s
noncomputable def c133_25 : Code := kR c133_22
noncomputable def r133_5 : Array Oper := kO c133_25
noncomputable def o133_5_0 : Oper := opN r133_5 0
noncomputable def o133_5_1 : Oper := opN r133_5 1
noncomputable def o133_5_2 : Oper := opN r133_5 2
theorem x133_25 : execA E C (fg 133) B 53 E0 N c133_25 s = regX (runA E C B 53 r133_5 r133_5.toList s) (fun s => gcM E0 [35, 36] (forget s.1 [35, 36], s.2)) := x_reg (ops := r133_5) (by rfl) (by rfl) s
theorem r133_5_l : r133_5.toList = [o133_5_0, o133_5_1, o133_5_2] := nrfl rfl
theorem s133_5_0 : stepA E C B 53 r133_5 o133_5_0 (φ, H) = some (fput φ 35 (fget φ 9), H) := nrfl rfl
theorem s133_5_1 : stepA E C B 53 r133_5 o133_5_1 (φ, H) = stp (some 36) φ H (just (aBin E.T .sub 3 (fget φ 35) (.int .i64 1))) := nrfl rfl
theorem s133_5_2 : stepA E C B 53 r133_5 o133_5_2 (φ, H) = some (fput φ 9 (fget φ 36), H) := nrfl rfl
theorem x133_22 : execA E C (fg 133) B 53 E0 N c133_22 s = seqX (execA E C (fg 133) B 53 E0 N c133_23 s) (execA E C (fg 133) B 53 E0 N c133_25) := x_seq (by rfl) s
theorem x133_16 : execA E C (fg 133) B 53 E0 N c133_16 s = seqX (execA E C (fg 133) B 53 E0 N c133_17 s) (execA E C (fg 133) B 53 E0 N c133_22) := x_seq (by rfl) s
theorem x133_15 : execA E C (fg 133) B 53 E0 N c133_15 s = iterA (execA E C (fg 133) B 53 E0 N c133_16) (headA E0) N s := x_loop (by rfl) s
theorem x133_14 : execA E C (fg 133) B 53 E0 N c133_14 s = blockX 2 (fun s => (forget s.1 [9, 34], s.2)) (execA E C (fg 133) B 53 E0 N c133_15 s) := x_block (by rfl) (by rfl) s
theorem x133_12 : execA E C (fg 133) B 53 E0 N c133_12 s = seqX (execA E C (fg 133) B 53 E0 N c133_13 s) (execA E C (fg 133) B 53 E0 N c133_14) := x_seq (by rfl) s
theorem x133_11 : execA E C (fg 133) B 53 E0 N c133_11 s = blockX 1 (fun s => (forget s.1 [], s.2)) (execA E C (fg 133) B 53 E0 N c133_12 s) := x_block (by rfl) (by rfl) s
noncomputable def c133_26 : Code := kR c133_10
noncomputable def r133_2 : Array Oper := kO c133_26
noncomputable def o133_2_0 : Oper := opN r133_2 0
noncomputable def o133_2_1 : Oper := opN r133_2 1
noncomputable def o133_2_2 : Oper := opN r133_2 2
theorem x133_26 : execA E C (fg 133) B 53 E0 N c133_26 s = regX (runA E C B 53 r133_2 r133_2.toList s) (fun s => gcM E0 [15, 16] (forget s.1 [15, 16], s.2)) := x_reg (ops := r133_2) (by rfl) (by rfl) s
theorem r133_2_l : r133_2.toList = [o133_2_0, o133_2_1, o133_2_2] := nrfl rfl
theorem s133_2_0 : stepA E C B 53 r133_2 o133_2_0 (φ, H) = some (fput φ 15 (fget φ 8), H) := nrfl rfl
theorem s133_2_1 : stepA E C B 53 r133_2 o133_2_1 (φ, H) = stp (some 16) φ H (just (aBin E.T .add 3 (fget φ 15) (.int .i64 1))) := nrfl rfl
theorem s133_2_2 : stepA E C B 53 r133_2 o133_2_2 (φ, H) = some (fput φ 8 (fget φ 16), H) := nrfl rfl
theorem x133_10 : execA E C (fg 133) B 53 E0 N c133_10 s = seqX (execA E C (fg 133) B 53 E0 N c133_11 s) (execA E C (fg 133) B 53 E0 N c133_26) := x_seq (by rfl) s
theorem x133_4 : execA E C (fg 133) B 53 E0 N c133_4 s = seqX (execA E C (fg 133) B 53 E0 N c133_5 s) (execA E C (fg 133) B 53 E0 N c133_10) := x_seq (by rfl) s
theorem x133_3 : execA E C (fg 133) B 53 E0 N c133_3 s = iterA (execA E C (fg 133) B 53 E0 N c133_4) (headA E0) N s := x_loop (by rfl) s
theorem x133_2 : execA E C (fg 133) B 53 E0 N c133_2 s = blockX 0 (fun s => (forget s.1 [0, 1, 2, 3, 8, 14], s.2)) (execA E C (fg 133) B 53 E0 N c133_3 s) := x_block (by rfl) (by rfl) s
theorem x133_0 : execA E C (fg 133) B 53 E0 N c133_0 s = seqX (execA E C (fg 133) B 53 E0 N c133_1 s) (execA E C (fg 133) B 53 E0 N c133_2) := x_seq (by rfl) s
theorem fi_133 : fInfo E 133 = some ⟨53, #[], c133_0⟩ := nrfl rfl
theorem b_133 (args : List AV) : bodyA E C fg N 133 args H B = bodyX E [] (execA E C (fg 133) B 53 H N c133_0 (frame0 args 0 [], H)) := bodyA_eq fi_133 args H
abbrev F_133 := And.intro (And.intro (And.intro (And.intro (And.intro (And.intro @x133_1 @r133_0_l) (And.intro @s133_0_0 (And.intro @s133_0_1 @s133_0_2))) (And.intro (And.intro @x133_6 (And.intro @r133_1_l @s133_1_0)) (And.intro @s133_1_1 (And.intro @s133_1_2 @x133_8)))) (And.intro (And.intro (And.intro @x133_9 @x133_7) (And.intro @x133_5 (And.intro @x133_13 @r133_3_l))) (And.intro (And.intro @s133_3_0 (And.intro @s133_3_1 @x133_18)) (And.intro @r133_4_l (And.intro @r133_4_dr @r133_4_an))))) (And.intro (And.intro (And.intro (And.intro @s133_4_0 @s133_4_1) (And.intro @s133_4_2 (And.intro @s133_4_3 @s133_4_4))) (And.intro (And.intro @s133_4_5 (And.intro @s133_4_6 @s133_4_7)) (And.intro @s133_4_8 (And.intro @s133_4_9 @s133_4_10)))) (And.intro (And.intro (And.intro @s133_4_11 @s133_4_12) (And.intro @s133_4_13 (And.intro @s133_4_14 @s133_4_15))) (And.intro (And.intro @s133_4_16 (And.intro @x133_20 @x133_21)) (And.intro @x133_19 (And.intro @x133_17 @x133_24)))))) (And.intro (And.intro (And.intro (And.intro (And.intro @r133_6_l @r133_6_dr) (And.intro @r133_6_an (And.intro @s133_6_0 @s133_6_1))) (And.intro (And.intro @s133_6_2 (And.intro @s133_6_3 @s133_6_4)) (And.intro @s133_6_5 (And.intro @s133_6_6 @s133_6_7)))) (And.intro (And.intro (And.intro @s133_6_8 @s133_6_9) (And.intro @s133_6_10 (And.intro @s133_6_11 @s133_6_12))) (And.intro (And.intro @s133_6_13 (And.intro @s133_6_14 @s133_6_15)) (And.intro @s133_6_16 (And.intro @s133_6_17 @x133_23))))) (And.intro (And.intro (And.intro (And.intro @x133_25 @r133_5_l) (And.intro @s133_5_0 (And.intro @s133_5_1 @s133_5_2))) (And.intro (And.intro @x133_22 (And.intro @x133_16 @x133_15)) (And.intro @x133_14 (And.intro @x133_12 @x133_11)))) (And.intro (And.intro (And.intro @x133_26 @r133_2_l) (And.intro @s133_2_0 (And.intro @s133_2_1 @s133_2_2))) (And.intro (And.intro @x133_10 (And.intro @x133_4 @x133_3)) (And.intro @x133_2 (And.intro @x133_0 @b_133))))))
noncomputable def c73_0 : Code := kBody Proofs.Try.f73
noncomputable def c73_1 : Code := kL c73_0
noncomputable def r73_0 : Array Oper := kO c73_1
noncomputable def o73_0_0 : Oper := opN r73_0 0
theorem x73_1 : execA E C (fg 73) B 9 E0 N c73_1 s = regX (runA E C B 9 r73_0 r73_0.toList s) (fun s => gcM E0 [4] (forget s.1 [4], s.2)) := x_reg (ops := r73_0) (by rfl) (by rfl) s
theorem r73_0_l : r73_0.toList = [o73_0_0] := nrfl rfl
theorem s73_0_0 : stepA E C B 9 r73_0 o73_0_0 (φ, H) = some (fput φ 4 (.bool false), H) := nrfl rfl
noncomputable def c73_2 : Code := kR c73_0
noncomputable def c73_3 : Code := kL c73_2
noncomputable def r73_1 : Array Oper := kO c73_3
noncomputable def o73_1_0 : Oper := opN r73_1 0
noncomputable def o73_1_1 : Oper := opN r73_1 1
noncomputable def o73_1_2 : Oper := opN r73_1 2
noncomputable def o73_1_3 : Oper := opN r73_1 3
noncomputable def o73_1_4 : Oper := opN r73_1 4
theorem x73_3 : execA E C (fg 73) B 9 E0 N c73_3 s = regX (runA E C B 9 r73_1 r73_1.toList s) (fun s => gcM E0 [0, 1, 5, 6, 7, 8] (forget s.1 [0, 1, 5, 6, 7, 8], s.2)) := x_reg (ops := r73_1) (by rfl) (by rfl) s
theorem r73_1_l : r73_1.toList = [o73_1_0, o73_1_1, o73_1_2, o73_1_3, o73_1_4] := nrfl rfl
theorem s73_1_0 : stepA E C B 9 r73_1 o73_1_0 (φ, H) = some (fput φ 5 (fget φ 0), H) := nrfl rfl
theorem s73_1_1 : stepA E C B 9 r73_1 o73_1_1 (φ, H) = some (fput φ 6 (fget φ 1), H) := nrfl rfl
theorem s73_1_2 : stepA E C B 9 r73_1 o73_1_2 (φ, H) = stp (some 7) φ H (aCall C (fun j => B + j * 9 + 7) true 64 [(fget φ 5), (fget φ 6)]) := nrfl rfl
theorem s73_1_3 : stepA E C B 9 r73_1 o73_1_3 (φ, H) = stp (some 8) φ H (just (aBin E.T .geq 3 (fget φ 7) (.int .i64 0))) := nrfl rfl
theorem s73_1_4 : stepA E C B 9 r73_1 o73_1_4 (φ, H) = some (fput φ 4 (fget φ 8), H) := nrfl rfl
noncomputable def c73_4 : Code := kR c73_2
theorem x73_4 : execA E C (fg 73) B 9 E0 N c73_4 s = some (.ret, s) := x_ret (by rfl) s
theorem x73_2 : execA E C (fg 73) B 9 E0 N c73_2 s = seqX (execA E C (fg 73) B 9 E0 N c73_3 s) (execA E C (fg 73) B 9 E0 N c73_4) := x_seq (by rfl) s
theorem x73_0 : execA E C (fg 73) B 9 E0 N c73_0 s = seqX (execA E C (fg 73) B 9 E0 N c73_1 s) (execA E C (fg 73) B 9 E0 N c73_2) := x_seq (by rfl) s
theorem fi_73 : fInfo E 73 = some ⟨9, #[.tmp 4], c73_0⟩ := nrfl rfl
theorem b_73 (args : List AV) : bodyA E C fg N 73 args H B = bodyX E [.tmp 4] (execA E C (fg 73) B 9 H N c73_0 (frame0 args 0 [], H)) := bodyA_eq fi_73 args H
abbrev F_73 := And.intro (And.intro (And.intro @x73_1 (And.intro @r73_0_l @s73_0_0)) (And.intro (And.intro @x73_3 @r73_1_l) (And.intro @s73_1_0 @s73_1_1))) (And.intro (And.intro @s73_1_2 (And.intro @s73_1_3 @s73_1_4)) (And.intro (And.intro @x73_4 @x73_2) (And.intro @x73_0 @b_73)))
noncomputable def c64_0 : Code := kBody Proofs.Try.f64
noncomputable def c64_1 : Code := kL c64_0
noncomputable def r64_0 : Array Oper := kO c64_1
noncomputable def o64_0_0 : Oper := opN r64_0 0
theorem x64_1 : execA E C (fg 64) B 19 E0 N c64_1 s = regX (runA E C B 19 r64_0 r64_0.toList s) (fun s => gcM E0 [4] (forget s.1 [4], s.2)) := x_reg (ops := r64_0) (by rfl) (by rfl) s
theorem r64_0_l : r64_0.toList = [o64_0_0] := nrfl rfl
theorem s64_0_0 : stepA E C B 19 r64_0 o64_0_0 (φ, H) = some (fput φ 4 (.int .i64 0), H) := nrfl rfl
noncomputable def c64_2 : Code := kR c64_0
noncomputable def c64_3 : Code := kL c64_2
noncomputable def c64_4 : Code := kL c64_3
noncomputable def r64_1 : Array Oper := kO c64_4
noncomputable def o64_1_0 : Oper := opN r64_1 0
noncomputable def o64_1_1 : Oper := opN r64_1 1
noncomputable def o64_1_2 : Oper := opN r64_1 2
theorem x64_4 : execA E C (fg 64) B 19 E0 N c64_4 s = regX (runA E C B 19 r64_1 r64_1.toList s) (fun s => gcM E0 [6] (forget s.1 [6], s.2)) := x_reg (ops := r64_1) (by rfl) (by rfl) s
theorem r64_1_l : r64_1.toList = [o64_1_0, o64_1_1, o64_1_2] := nrfl rfl
theorem s64_1_0 : stepA E C B 19 r64_1 o64_1_0 (φ, H) = some (fput φ 6 (fget φ 0), H) := nrfl rfl
theorem s64_1_1 : stepA E C B 19 r64_1 o64_1_1 (φ, H) = stp (some 7) φ H (aBuiltin E.T (B + 7) .len #[39] [(fget φ 6)]) := nrfl rfl
theorem s64_1_2 : stepA E C B 19 r64_1 o64_1_2 (φ, H) = some (fput φ 8 (.int .i64 0), H) := nrfl rfl
noncomputable def c64_5 : Code := kR c64_3
noncomputable def c64_6 : Code := kB c64_5
noncomputable def c64_7 : Code := kB c64_6
noncomputable def c64_8 : Code := kL c64_7
noncomputable def r64_2 : Array Oper := kO c64_8
noncomputable def o64_2_0 : Oper := opN r64_2 0
theorem x64_8 : execA E C (fg 64) B 19 E0 N c64_8 s = regX (runA E C B 19 r64_2 r64_2.toList s) (fun s => gcM E0 [] (forget s.1 [], s.2)) := x_reg (ops := r64_2) (by rfl) (by rfl) s
theorem r64_2_l : r64_2.toList = [o64_2_0] := nrfl rfl
theorem s64_2_0 : stepA E C B 19 r64_2 o64_2_0 (φ, H) = stp (some 9) φ H (just (aBin E.T .lss 3 (fget φ 8) (fget φ 7))) := nrfl rfl
noncomputable def c64_9 : Code := kR c64_7
noncomputable def c64_10 : Code := kL c64_9
noncomputable def c64_11 : Code := kT c64_10
theorem x64_11 : execA E C (fg 64) B 19 E0 N c64_11 s = some (.normal, s) := x_skip (by rfl) s
noncomputable def c64_12 : Code := kE c64_10
theorem x64_12 : execA E C (fg 64) B 19 E0 N c64_12 s = some (.exit 0, s) := x_exit (by rfl) s
theorem x64_10 : execA E C (fg 64) B 19 E0 N c64_10 (φ, H) = condX (fget φ 9) (execA E C (fg 64) B 19 E0 N c64_11 (φ, H)) (execA E C (fg 64) B 19 E0 N c64_12 (φ, H)) := x_cond (by rfl) _
noncomputable def c64_13 : Code := kR c64_9
noncomputable def c64_14 : Code := kL c64_13
noncomputable def c64_15 : Code := kB c64_14
noncomputable def c64_16 : Code := kL c64_15
noncomputable def r64_3 : Array Oper := kO c64_16
noncomputable def o64_3_0 : Oper := opN r64_3 0
noncomputable def o64_3_1 : Oper := opN r64_3 1
theorem x64_16 : execA E C (fg 64) B 19 E0 N c64_16 s = regX (runA E C B 19 r64_3 r64_3.toList s) (fun s => gcM E0 [9, 10] (forget s.1 [9, 10], s.2)) := x_reg (ops := r64_3) (by rfl) (by rfl) s
theorem r64_3_l : r64_3.toList = [o64_3_0, o64_3_1] := nrfl rfl
theorem s64_3_0 : stepA E C B 19 r64_3 o64_3_0 (φ, H) = some (fput φ 10 (fget φ 8), H) := nrfl rfl
theorem s64_3_1 : stepA E C B 19 r64_3 o64_3_1 (φ, H) = some (fput φ 5 (fget φ 10), H) := nrfl rfl
noncomputable def c64_17 : Code := kR c64_15
noncomputable def c64_18 : Code := kL c64_17
noncomputable def r64_4 : Array Oper := kO c64_18
noncomputable def o64_4_0 : Oper := opN r64_4 0
noncomputable def o64_4_1 : Oper := opN r64_4 1
noncomputable def o64_4_2 : Oper := opN r64_4 2
noncomputable def o64_4_3 : Oper := opN r64_4 3
noncomputable def o64_4_4 : Oper := opN r64_4 4
noncomputable def o64_4_5 : Oper := opN r64_4 5
theorem x64_18 : execA E C (fg 64) B 19 E0 N c64_18 s = regX (runA E C B 19 r64_4 r64_4.toList s) (fun s => gcM E0 [11, 12, 13, 14, 15] (forget s.1 [11, 12, 13, 14, 15], s.2)) := x_reg (ops := r64_4) (by rfl) (by rfl) s
theorem r64_4_l : r64_4.toList = [o64_4_0, o64_4_1, o64_4_2, o64_4_3, o64_4_4, o64_4_5] := nrfl rfl
theorem s64_4_0 : stepA E C B 19 r64_4 o64_4_0 (φ, H) = some (fput φ 11 (fget φ 1), H) := nrfl rfl
theorem s64_4_1 : stepA E C B 19 r64_4 o64_4_1 (φ, H) = some (fput φ 12 (fget φ 0), H) := nrfl rfl
theorem s64_4_2 : stepA E C B 19 r64_4 o64_4_2 (φ, H) = some (fput φ 13 (fget φ 5), H) := nrfl rfl
theorem s64_4_3 : stepA E C B 19 r64_4 o64_4_3 (φ, H) = stp (some 14) φ H (just (aIndexAddr E.T 39 (fget φ 12) (fget φ 13))) := nrfl rfl
theorem s64_4_4 : stepA E C B 19 r64_4 o64_4_4 (φ, H) = stp (some 15) φ H (just (aLoad E.T 22 (fget φ 14))) := nrfl rfl
theorem s64_4_5 : stepA E C B 19 r64_4 o64_4_5 (φ, H) = callV E C (B + 19 * 8) (some 16) (fun j => B + j * 19 + 16) φ H (fget φ 11) [(fget φ 15)] true := nrfl rfl
noncomputable def c64_19 : Code := kR c64_17
noncomputable def c64_20 : Code := kT c64_19
noncomputable def c64_21 : Code := kL c64_20
noncomputable def r64_5 : Array Oper := kO c64_21
noncomputable def o64_5_0 : Oper := opN r64_5 0
noncomputable def o64_5_1 : Oper := opN r64_5 1
theorem x64_21 : execA E C (fg 64) B 19 E0 N c64_21 s = regX (runA E C B 19 r64_5 r64_5.toList s) (fun s => gcM E0 [0, 1, 5, 7, 8, 16, 17] (forget s.1 [0, 1, 5, 7, 8, 16, 17], s.2)) := x_reg (ops := r64_5) (by rfl) (by rfl) s
theorem r64_5_l : r64_5.toList = [o64_5_0, o64_5_1] := nrfl rfl
theorem s64_5_0 : stepA E C B 19 r64_5 o64_5_0 (φ, H) = some (fput φ 17 (fget φ 5), H) := nrfl rfl
theorem s64_5_1 : stepA E C B 19 r64_5 o64_5_1 (φ, H) = some (fput φ 4 (fget φ 17), H) := nrfl rfl
noncomputable def c64_22 : Code := kR c64_20
theorem x64_22 : execA E C (fg 64) B 19 E0 N c64_22 s = some (.ret, s) := x_ret (by rfl) s
theorem x64_20 : execA E C (fg 64) B 19 E0 N c64_20 s = seqX (execA E C (fg 64) B 19 E0 N c64_21 s) (execA E C (fg 64) B 19 E0 N c64_22) := x_seq (by rfl) s
noncomputable def c64_23 : Code := kE c64_19
theorem x64_23 : execA E C (fg 64) B 19 E0 N c64_23 s = some (.normal, s) := x_skip (by rfl) s
theorem x64_19 : execA E C (fg 64) B 19 E0 N c64_19 (φ, H) = condX (fget φ 16) (execA E C (fg 64) B 19 E0 N c64_20 (φ, H)) (execA E C (fg 64) B 19 E0 N c64_23 (φ, H)) := x_cond (by rfl) _
theorem x64_17 : execA E C (fg 64) B 19 E0 N c64_17 s = seqX (execA E C (fg 64) B 19 E0 N c64_18 s) (execA E C (fg 64) B 19 E0 N c64_19) := x_seq (by rfl) s
theorem x64_15 : execA E C (fg 64) B 19 E0 N c64_15 s = seqX (execA E C (fg 64) B 19 E0 N c64_16 s) (execA E C (fg 64) B 19 E0 N c64_17) := x_seq (by rfl) s
theorem x64_14 : execA E C (fg 64) B 19 E0 N c64_14 s = blockX 1 (fun s => (forget s.1 [5, 16], s.2)) (execA E C (fg 64) B 19 E0 N c64_15 s) := x_block (by rfl) (by rfl) s
noncomputable def c64_24 : Code := kR c64_13
noncomputable def r64_6 : Array Oper := kO c64_24
noncomputable def o64_6_0 : Oper := opN r64_6 0
noncomputable def o64_6_1 : Oper := opN r64_6 1
theorem x64_24 : execA E C (fg 64) B 19 E0 N c64_24 s = regX (runA E C B 19 r64_6 r64_6.toList s) (fun s => gcM E0 [18] (forget s.1 [18], s.2)) := x_reg (ops := r64_6) (by rfl) (by rfl) s
theorem r64_6_l : r64_6.toList = [o64_6_0, o64_6_1] := nrfl rfl
theorem s64_6_0 : stepA E C B 19 r64_6 o64_6_0 (φ, H) = stp (some 18) φ H (just (aBin E.T .add 3 (fget φ 8) (.int .i64 1))) := nrfl rfl
theorem s64_6_1 : stepA E C B 19 r64_6 o64_6_1 (φ, H) = some (fput φ 8 (fget φ 18), H) := nrfl rfl
theorem x64_13 : execA E C (fg 64) B 19 E0 N c64_13 s = seqX (execA E C (fg 64) B 19 E0 N c64_14 s) (execA E C (fg 64) B 19 E0 N c64_24) := x_seq (by rfl) s
theorem x64_9 : execA E C (fg 64) B 19 E0 N c64_9 s = seqX (execA E C (fg 64) B 19 E0 N c64_10 s) (execA E C (fg 64) B 19 E0 N c64_13) := x_seq (by rfl) s
theorem x64_7 : execA E C (fg 64) B 19 E0 N c64_7 s = seqX (execA E C (fg 64) B 19 E0 N c64_8 s) (execA E C (fg 64) B 19 E0 N c64_9) := x_seq (by rfl) s
theorem x64_6 : execA E C (fg 64) B 19 E0 N c64_6 s = iterA (execA E C (fg 64) B 19 E0 N c64_7) (headA E0) N s := x_loop (by rfl) s
theorem x64_5 : execA E C (fg 64) B 19 E0 N c64_5 s = blockX 0 (fun s => (forget s.1 [0, 1, 7, 8, 9], s.2)) (execA E C (fg 64) B 19 E0 N c64_6 s) := x_block (by rfl) (by rfl) s
theorem x64_3 : execA E C (fg 64) B 19 E0 N c64_3 s = seqX (execA E C (fg 64) B 19 E0 N c64_4 s) (execA E C (fg 64) B 19 E0 N c64_5) := x_seq (by rfl) s
noncomputable def c64_25 : Code := kR c64_2
noncomputable def c64_26 : Code := kL c64_25
noncomputable def r64_7 : Array Oper := kO c64_26
noncomputable def o64_7_0 : Oper := opN r64_7 0
theorem x64_26 : execA E C (fg 64) B 19 E0 N c64_26 s = regX (runA E C B 19 r64_7 r64_7.toList s) (fun s => gcM E0 [] (forget s.1 [], s.2)) := x_reg (ops := r64_7) (by rfl) (by rfl) s
theorem r64_7_l : r64_7.toList = [o64_7_0] := nrfl rfl
theorem s64_7_0 : stepA E C B 19 r64_7 o64_7_0 (φ, H) = some (fput φ 4 (.int .i64 (-1)), H) := nrfl rfl
noncomputable def c64_27 : Code := kR c64_25
theorem x64_27 : execA E C (fg 64) B 19 E0 N c64_27 s = some (.ret, s) := x_ret (by rfl) s
theorem x64_25 : execA E C (fg 64) B 19 E0 N c64_25 s = seqX (execA E C (fg 64) B 19 E0 N c64_26 s) (execA E C (fg 64) B 19 E0 N c64_27) := x_seq (by rfl) s
theorem x64_2 : execA E C (fg 64) B 19 E0 N c64_2 s = seqX (execA E C (fg 64) B 19 E0 N c64_3 s) (execA E C (fg 64) B 19 E0 N c64_25) := x_seq (by rfl) s
theorem x64_0 : execA E C (fg 64) B 19 E0 N c64_0 s = seqX (execA E C (fg 64) B 19 E0 N c64_1 s) (execA E C (fg 64) B 19 E0 N c64_2) := x_seq (by rfl) s
theorem fi_64 : fInfo E 64 = some ⟨19, #[.tmp 4], c64_0⟩ := nrfl rfl
theorem b_64 (args : List AV) : bodyA E C fg N 64 args H B = bodyX E [.tmp 4] (execA E C (fg 64) B 19 H N c64_0 (frame0 args 0 [], H)) := bodyA_eq fi_64 args H
abbrev F_64 := And.intro (And.intro (And.intro (And.intro (And.intro @x64_1 (And.intro @r64_0_l @s64_0_0)) (And.intro @x64_4 (And.intro @r64_1_l @s64_1_0))) (And.intro (And.intro @s64_1_1 (And.intro @s64_1_2 @x64_8)) (And.intro (And.intro @r64_2_l @s64_2_0) (And.intro @x64_11 @x64_12)))) (And.intro (And.intro (And.intro @x64_10 (And.intro @x64_16 @r64_3_l)) (And.intro (And.intro @s64_3_0 @s64_3_1) (And.intro @x64_18 @r64_4_l))) (And.intro (And.intro @s64_4_0 (And.intro @s64_4_1 @s64_4_2)) (And.intro (And.intro @s64_4_3 @s64_4_4) (And.intro @s64_4_5 @x64_21))))) (And.intro (And.intro (And.intro (And.intro @r64_5_l (And.intro @s64_5_0 @s64_5_1)) (And.intro (And.intro @x64_22 @x64_20) (And.intro @x64_23 @x64_19))) (And.intro (And.intro @x64_17 (And.intro @x64_15 @x64_14)) (And.intro (And.intro @x64_24 @r64_6_l) (And.intro @s64_6_0 @s64_6_1)))) (And.intro (And.intro (And.intro @x64_13 (And.intro @x64_9 @x64_7)) (And.intro (And.intro @x64_6 @x64_5) (And.intro @x64_3 @x64_26))) (And.intro (And.intro @r64_7_l (And.intro @s64_7_0 @x64_27)) (And.intro (And.intro @x64_25 @x64_2) (And.intro @x64_0 @b_64)))))
end Go.AM.Ytfmnoohhhokicaa
end
