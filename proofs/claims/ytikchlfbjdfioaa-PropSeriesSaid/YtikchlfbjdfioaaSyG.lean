/- Of each function the parts of its text and an equation for each of them: printed by sym.py (own work). -/
import Derived.Test.YtikchlfbjdfioaaAmSy
import Derived.Test.YtikchlfbjdfioaaEnv
import Derived.KernelRfl
import Derived.Test.YtikchlfbjdfioaaSyA

namespace Go.AM.Ytikchlfbjdfioaa
open Go Go.AM
set_option maxRecDepth 100000
variable {C : Callee} {B N : Nat} {E0 : AHeap} (φ : AFr) (H : AHeap) (s : St)

/-! ### f67: novaculite/prop.reduced -/
noncomputable def c67_0 : Code := kBody Proofs.Try.f67
noncomputable def c67_1 : Code := kL c67_0
noncomputable def r67_0 : Array Oper := kO c67_1
noncomputable def o67_0_0 : Oper := opN r67_0 0
theorem x67_1 : execA E C (fg 67) B 25 E0 N c67_1 s = regX (runA E C B 25 r67_0 r67_0.toList s) (fun s => gcM E0 [] (forget s.1 [], s.2)) := x_reg (ops := r67_0) (by rfl) (by rfl) s
theorem r67_0_l : r67_0.toList = [o67_0_0] := nrfl rfl
theorem s67_0_0 : stepA E C B 25 r67_0 o67_0_0 (φ, H) = stp (some 4) φ H (opBox (B + 4) (zeroCells E.T 56)) := nrfl rfl
noncomputable def c67_2 : Code := kR c67_0
noncomputable def c67_3 : Code := kL c67_2
noncomputable def r67_1 : Array Oper := kO c67_3
noncomputable def o67_1_0 : Oper := opN r67_1 0
noncomputable def o67_1_1 : Oper := opN r67_1 1
noncomputable def o67_1_2 : Oper := opN r67_1 2
noncomputable def o67_1_3 : Oper := opN r67_1 3
noncomputable def o67_1_4 : Oper := opN r67_1 4
noncomputable def o67_1_5 : Oper := opN r67_1 5
noncomputable def o67_1_6 : Oper := opN r67_1 6
theorem x67_3 : execA E C (fg 67) B 25 E0 N c67_3 s = regX (runA E C B 25 r67_1 r67_1.toList s) (fun s => gcM E0 [7, 8, 9, 10, 11] (forget s.1 [7, 8, 9, 10, 11], s.2)) := x_reg (ops := r67_1) (by rfl) (by rfl) s
theorem r67_1_l : r67_1.toList = [o67_1_0, o67_1_1, o67_1_2, o67_1_3, o67_1_4, o67_1_5, o67_1_6] := nrfl rfl
theorem s67_1_0 : stepA E C B 25 r67_1 o67_1_0 (φ, H) = some (fput φ 7 (fget φ 0), H) := nrfl rfl
theorem s67_1_1 : stepA E C B 25 r67_1 o67_1_1 (φ, H) = some (fput φ 8 (fget φ 0), H) := nrfl rfl
theorem s67_1_2 : stepA E C B 25 r67_1 o67_1_2 (φ, H) = stp (some 9) φ H (justO (aUn .neg (fget φ 8))) := nrfl rfl
theorem s67_1_3 : stepA E C B 25 r67_1 o67_1_3 (φ, H) = stp (some 10) φ H (aBuiltin E.T (B + 10) .max #[3, 3] [(fget φ 7), (fget φ 9)]) := nrfl rfl
theorem s67_1_4 : stepA E C B 25 r67_1 o67_1_4 (φ, H) = some (fput φ 11 (fget φ 1), H) := nrfl rfl
theorem s67_1_5 : stepA E C B 25 r67_1 o67_1_5 (φ, H) = some (fput φ 5 (fget φ 10), H) := nrfl rfl
theorem s67_1_6 : stepA E C B 25 r67_1 o67_1_6 (φ, H) = some (fput φ 6 (fget φ 11), H) := nrfl rfl
noncomputable def c67_4 : Code := kR c67_2
noncomputable def c67_5 : Code := kL c67_4
noncomputable def c67_6 : Code := kB c67_5
noncomputable def c67_7 : Code := kB c67_6
noncomputable def c67_8 : Code := kL c67_7
noncomputable def c67_9 : Code := kL c67_8
noncomputable def r67_2 : Array Oper := kO c67_9
noncomputable def o67_2_0 : Oper := opN r67_2 0
noncomputable def o67_2_1 : Oper := opN r67_2 1
theorem x67_9 : execA E C (fg 67) B 25 E0 N c67_9 s = regX (runA E C B 25 r67_2 r67_2.toList s) (fun s => gcM E0 [12] (forget s.1 [12], s.2)) := x_reg (ops := r67_2) (by rfl) (by rfl) s
theorem r67_2_l : r67_2.toList = [o67_2_0, o67_2_1] := nrfl rfl
theorem s67_2_0 : stepA E C B 25 r67_2 o67_2_0 (φ, H) = some (fput φ 12 (fget φ 6), H) := nrfl rfl
theorem s67_2_1 : stepA E C B 25 r67_2 o67_2_1 (φ, H) = stp (some 13) φ H (just (aBin E.T .neq 3 (fget φ 12) (.int .i64 0))) := nrfl rfl
noncomputable def c67_10 : Code := kR c67_8
noncomputable def c67_11 : Code := kT c67_10
theorem x67_11 : execA E C (fg 67) B 25 E0 N c67_11 s = some (.normal, s) := x_skip (by rfl) s
noncomputable def c67_12 : Code := kE c67_10
theorem x67_12 : execA E C (fg 67) B 25 E0 N c67_12 s = some (.exit 0, s) := x_exit (by rfl) s
theorem x67_10 : execA E C (fg 67) B 25 E0 N c67_10 (φ, H) = condX (fget φ 13) (execA E C (fg 67) B 25 E0 N c67_11 (φ, H)) (execA E C (fg 67) B 25 E0 N c67_12 (φ, H)) := x_cond (by rfl) _
theorem x67_8 : execA E C (fg 67) B 25 E0 N c67_8 s = seqX (execA E C (fg 67) B 25 E0 N c67_9 s) (execA E C (fg 67) B 25 E0 N c67_10) := x_seq (by rfl) s
noncomputable def c67_13 : Code := kR c67_7
noncomputable def c67_14 : Code := kB c67_13
noncomputable def r67_3 : Array Oper := kO c67_14
noncomputable def o67_3_0 : Oper := opN r67_3 0
noncomputable def o67_3_1 : Oper := opN r67_3 1
noncomputable def o67_3_2 : Oper := opN r67_3 2
noncomputable def o67_3_3 : Oper := opN r67_3 3
noncomputable def o67_3_4 : Oper := opN r67_3 4
noncomputable def o67_3_5 : Oper := opN r67_3 5
theorem x67_14 : execA E C (fg 67) B 25 E0 N c67_14 s = regX (drawA E C B 25 r67_3 s) (fun s => gcM E0 [13, 14, 15, 16, 17] (forget s.1 [13, 14, 15, 16, 17], s.2)) := x_draw (ops := r67_3) (by rfl) (by rfl) s
theorem r67_3_l : r67_3.toList = [o67_3_0, o67_3_1, o67_3_2, o67_3_3, o67_3_4, o67_3_5] := nrfl rfl
theorem r67_3_st : statOk r67_3 = true := by kernel_rfl
theorem r67_3_dr : drawA E C B 25 r67_3 s = if neat 25 s = true then drX r67_3 (runT E C B 25 r67_3 r67_3.toList 0 s) else none := draw_eq r67_3_st s
theorem r67_3_an (l : List (Nat × Tr)) : dynOk r67_3 l = (!writing l || dynPairs [[], [], [], [1, 2], [0, 1], [0, 1, 2, 3, 4]] (touching l)) := dynOk_eq (by kernel_rfl) l
theorem s67_3_0 : stepT E C B 25 r67_3 o67_3_0 (φ, H) = some ((fput φ 14 (fget φ 6), H), ⟨false, [], []⟩) := stT_go rfl (goT_mv rfl rfl)
theorem s67_3_1 : stepT E C B 25 r67_3 o67_3_1 (φ, H) = some ((fput φ 15 (fget φ 5), H), ⟨false, [], []⟩) := stT_go rfl (goT_mv rfl rfl)
theorem s67_3_2 : stepT E C B 25 r67_3 o67_3_2 (φ, H) = some ((fput φ 16 (fget φ 6), H), ⟨false, [], []⟩) := stT_go rfl (goT_mv rfl rfl)
theorem s67_3_3 : stepT E C B 25 r67_3 o67_3_3 (φ, H) = stpT (some 17) φ H (just (aBin E.T .rem 3 (fget φ 15) (fget φ 16))) := stT_go rfl (goT_R rfl rfl)
theorem s67_3_4 : stepT E C B 25 r67_3 o67_3_4 (φ, H) = some ((fput φ 5 (fget φ 14), H), ⟨false, [], []⟩) := stT_go rfl (goT_mv rfl rfl)
theorem s67_3_5 : stepT E C B 25 r67_3 o67_3_5 (φ, H) = some ((fput φ 6 (fget φ 17), H), ⟨false, [], []⟩) := stT_go rfl (goT_mv rfl rfl)
theorem x67_13 : execA E C (fg 67) B 25 E0 N c67_13 s = blockX 1 (fun s => (forget s.1 [], s.2)) (execA E C (fg 67) B 25 E0 N c67_14 s) := x_block (by rfl) (by rfl) s
theorem x67_7 : execA E C (fg 67) B 25 E0 N c67_7 s = seqX (execA E C (fg 67) B 25 E0 N c67_8 s) (execA E C (fg 67) B 25 E0 N c67_13) := x_seq (by rfl) s
-- a loop of f67: x67_6; body c67_7; slots [6, 5, 4, 1, 0]
theorem x67_6 : execA E C (fg 67) B 25 E0 N c67_6 s = iterA (execA E C (fg 67) B 25 E0 N c67_7) (headA E0) N s := x_loop (by rfl) s
theorem x67_5 : execA E C (fg 67) B 25 E0 N c67_5 s = blockX 0 (fun s => (forget s.1 [6, 13], s.2)) (execA E C (fg 67) B 25 E0 N c67_6 s) := x_block (by rfl) (by rfl) s
noncomputable def c67_15 : Code := kR c67_4
noncomputable def c67_16 : Code := kL c67_15
noncomputable def r67_4 : Array Oper := kO c67_16
noncomputable def o67_4_0 : Oper := opN r67_4 0
noncomputable def o67_4_1 : Oper := opN r67_4 1
noncomputable def o67_4_2 : Oper := opN r67_4 2
noncomputable def o67_4_3 : Oper := opN r67_4 3
noncomputable def o67_4_4 : Oper := opN r67_4 4
noncomputable def o67_4_5 : Oper := opN r67_4 5
noncomputable def o67_4_6 : Oper := opN r67_4 6
noncomputable def o67_4_7 : Oper := opN r67_4 7
theorem x67_16 : execA E C (fg 67) B 25 E0 N c67_16 s = regX (drawA E C B 25 r67_4 s) (fun s => gcM E0 [0, 1, 5, 18, 19, 20, 21, 22, 23, 24] (forget s.1 [0, 1, 5, 18, 19, 20, 21, 22, 23, 24], s.2)) := x_draw (ops := r67_4) (by rfl) (by rfl) s
theorem r67_4_l : r67_4.toList = [o67_4_0, o67_4_1, o67_4_2, o67_4_3, o67_4_4, o67_4_5, o67_4_6, o67_4_7] := nrfl rfl
theorem r67_4_st : statOk r67_4 = true := by kernel_rfl
theorem r67_4_dr : drawA E C B 25 r67_4 s = if neat 25 s = true then drX r67_4 (runT E C B 25 r67_4 r67_4.toList 0 s) else none := draw_eq r67_4_st s
theorem r67_4_an (l : List (Nat × Tr)) : dynOk r67_4 l = (!writing l || dynPairs [[], [], [0, 1], [], [], [3, 4], [0, 1, 2, 3, 4, 5], [0, 1, 2, 3, 4, 5, 6]] (touching l)) := dynOk_eq (by kernel_rfl) l
theorem s67_4_0 : stepT E C B 25 r67_4 o67_4_0 (φ, H) = some ((fput φ 18 (fget φ 0), H), ⟨false, [], []⟩) := stT_go rfl (goT_mv rfl rfl)
theorem s67_4_1 : stepT E C B 25 r67_4 o67_4_1 (φ, H) = some ((fput φ 19 (fget φ 5), H), ⟨false, [], []⟩) := stT_go rfl (goT_mv rfl rfl)
theorem s67_4_2 : stepT E C B 25 r67_4 o67_4_2 (φ, H) = stpT (some 20) φ H (just (aBin E.T .quo 3 (fget φ 18) (fget φ 19))) := stT_go rfl (goT_R rfl rfl)
theorem s67_4_3 : stepT E C B 25 r67_4 o67_4_3 (φ, H) = some ((fput φ 21 (fget φ 1), H), ⟨false, [], []⟩) := stT_go rfl (goT_mv rfl rfl)
theorem s67_4_4 : stepT E C B 25 r67_4 o67_4_4 (φ, H) = some ((fput φ 22 (fget φ 5), H), ⟨false, [], []⟩) := stT_go rfl (goT_mv rfl rfl)
theorem s67_4_5 : stepT E C B 25 r67_4 o67_4_5 (φ, H) = stpT (some 23) φ H (just (aBin E.T .quo 3 (fget φ 21) (fget φ 22))) := stT_go rfl (goT_R rfl rfl)
theorem s67_4_6 : stepT E C B 25 r67_4 o67_4_6 (φ, H) = stpT (some 24) φ H (justO (aBuild E.T 56 (evO E φ) [(0, Operand.tmp 20), (1, Operand.tmp 23)])) := stT_go rfl (goT_R rfl rfl)
theorem s67_4_7 : stepT E C B 25 r67_4 o67_4_7 (φ, H) = stpT none φ H (opStore E.T 56 (fget φ 4) (fget φ 24)) := stT_go rfl (goT_R rfl rfl)
noncomputable def c67_17 : Code := kR c67_15
theorem x67_17 : execA E C (fg 67) B 25 E0 N c67_17 s = some (.ret, s) := x_ret (by rfl) s
theorem x67_15 : execA E C (fg 67) B 25 E0 N c67_15 s = seqX (execA E C (fg 67) B 25 E0 N c67_16 s) (execA E C (fg 67) B 25 E0 N c67_17) := x_seq (by rfl) s
theorem x67_4 : execA E C (fg 67) B 25 E0 N c67_4 s = seqX (execA E C (fg 67) B 25 E0 N c67_5 s) (execA E C (fg 67) B 25 E0 N c67_15) := x_seq (by rfl) s
theorem x67_2 : execA E C (fg 67) B 25 E0 N c67_2 s = seqX (execA E C (fg 67) B 25 E0 N c67_3 s) (execA E C (fg 67) B 25 E0 N c67_4) := x_seq (by rfl) s
theorem x67_0 : execA E C (fg 67) B 25 E0 N c67_0 s = seqX (execA E C (fg 67) B 25 E0 N c67_1 s) (execA E C (fg 67) B 25 E0 N c67_2) := x_seq (by rfl) s
theorem fi_67 : fInfo E 67 = some ⟨25, #[.cell 4 56], c67_0⟩ := nrfl rfl
theorem b_67 (args : List AV) : bodyA E C fg N 67 args H B = bodyX E [.cell 4 56] (execA E C (fg 67) B 25 H N c67_0 (frame0 args 0 [], H)) := bodyA_eq fi_67 args H
/-! ### f52: (novaculite/prop.Frac).add -/
noncomputable def c52_0 : Code := kBody Proofs.Try.f52
noncomputable def c52_1 : Code := kL c52_0
noncomputable def r52_0 : Array Oper := kO c52_1
noncomputable def o52_0_0 : Oper := opN r52_0 0
noncomputable def o52_0_1 : Oper := opN r52_0 1
theorem x52_1 : execA E C (fg 52) B 21 E0 N c52_1 s = regX (runA E C B 21 r52_0 r52_0.toList s) (fun s => gcM E0 [0] (forget s.1 [0], s.2)) := x_reg (ops := r52_0) (by rfl) (by rfl) s
theorem r52_0_l : r52_0.toList = [o52_0_0, o52_0_1] := nrfl rfl
theorem s52_0_0 : stepA E C B 21 r52_0 o52_0_0 (φ, H) = stp (some 3) φ H (opBox (B + 3) (acells (fget φ 0))) := nrfl rfl
theorem s52_0_1 : stepA E C B 21 r52_0 o52_0_1 (φ, H) = stp (some 6) φ H (opBox (B + 6) (zeroCells E.T 56)) := nrfl rfl
noncomputable def c52_2 : Code := kR c52_0
noncomputable def c52_3 : Code := kL c52_2
noncomputable def r52_1 : Array Oper := kO c52_3
noncomputable def o52_1_0 : Oper := opN r52_1 0
noncomputable def o52_1_1 : Oper := opN r52_1 1
noncomputable def o52_1_2 : Oper := opN r52_1 2
noncomputable def o52_1_3 : Oper := opN r52_1 3
noncomputable def o52_1_4 : Oper := opN r52_1 4
noncomputable def o52_1_5 : Oper := opN r52_1 5
noncomputable def o52_1_6 : Oper := opN r52_1 6
noncomputable def o52_1_7 : Oper := opN r52_1 7
noncomputable def o52_1_8 : Oper := opN r52_1 8
noncomputable def o52_1_9 : Oper := opN r52_1 9
noncomputable def o52_1_10 : Oper := opN r52_1 10
noncomputable def o52_1_11 : Oper := opN r52_1 11
noncomputable def o52_1_12 : Oper := opN r52_1 12
noncomputable def o52_1_13 : Oper := opN r52_1 13
noncomputable def o52_1_14 : Oper := opN r52_1 14
theorem x52_3 : execA E C (fg 52) B 21 E0 N c52_3 s = regX (runA E C B 21 r52_1 r52_1.toList s) (fun s => gcM E0 [1, 2, 3, 7, 8, 9, 10, 11, 12, 13, 14, 15, 16, 17, 18, 19, 20] (forget s.1 [1, 2, 3, 7, 8, 9, 10, 11, 12, 13, 14, 15, 16, 17, 18, 19, 20], s.2)) := x_reg (ops := r52_1) (by rfl) (by rfl) s
theorem r52_1_l : r52_1.toList = [o52_1_0, o52_1_1, o52_1_2, o52_1_3, o52_1_4, o52_1_5, o52_1_6, o52_1_7, o52_1_8, o52_1_9, o52_1_10, o52_1_11, o52_1_12, o52_1_13, o52_1_14] := nrfl rfl
theorem s52_1_0 : stepA E C B 21 r52_1 o52_1_0 (φ, H) = stp (some 7) φ H (just (aFieldAddr E.T 56 (fget φ 3) 0)) := nrfl rfl
theorem s52_1_1 : stepA E C B 21 r52_1 o52_1_1 (φ, H) = stp (some 8) φ H (just (aLoad E.T 3 (fget φ 7))) := nrfl rfl
theorem s52_1_2 : stepA E C B 21 r52_1 o52_1_2 (φ, H) = some (fput φ 9 (fget φ 2), H) := nrfl rfl
theorem s52_1_3 : stepA E C B 21 r52_1 o52_1_3 (φ, H) = stp (some 10) φ H (just (aBin E.T .mul 3 (fget φ 8) (fget φ 9))) := nrfl rfl
theorem s52_1_4 : stepA E C B 21 r52_1 o52_1_4 (φ, H) = some (fput φ 11 (fget φ 1), H) := nrfl rfl
theorem s52_1_5 : stepA E C B 21 r52_1 o52_1_5 (φ, H) = stp (some 12) φ H (just (aFieldAddr E.T 56 (fget φ 3) 1)) := nrfl rfl
theorem s52_1_6 : stepA E C B 21 r52_1 o52_1_6 (φ, H) = stp (some 13) φ H (just (aLoad E.T 3 (fget φ 12))) := nrfl rfl
theorem s52_1_7 : stepA E C B 21 r52_1 o52_1_7 (φ, H) = stp (some 14) φ H (just (aBin E.T .mul 3 (fget φ 11) (fget φ 13))) := nrfl rfl
theorem s52_1_8 : stepA E C B 21 r52_1 o52_1_8 (φ, H) = stp (some 15) φ H (just (aBin E.T .add 3 (fget φ 10) (fget φ 14))) := nrfl rfl
theorem s52_1_9 : stepA E C B 21 r52_1 o52_1_9 (φ, H) = stp (some 16) φ H (just (aFieldAddr E.T 56 (fget φ 3) 1)) := nrfl rfl
theorem s52_1_10 : stepA E C B 21 r52_1 o52_1_10 (φ, H) = stp (some 17) φ H (just (aLoad E.T 3 (fget φ 16))) := nrfl rfl
theorem s52_1_11 : stepA E C B 21 r52_1 o52_1_11 (φ, H) = some (fput φ 18 (fget φ 2), H) := nrfl rfl
theorem s52_1_12 : stepA E C B 21 r52_1 o52_1_12 (φ, H) = stp (some 19) φ H (just (aBin E.T .mul 3 (fget φ 17) (fget φ 18))) := nrfl rfl
theorem s52_1_13 : stepA E C B 21 r52_1 o52_1_13 (φ, H) = stp (some 20) φ H (aCall C (fun j => B + j * 21 + 20) true 67 [(fget φ 15), (fget φ 19)]) := nrfl rfl
theorem s52_1_14 : stepA E C B 21 r52_1 o52_1_14 (φ, H) = stp none φ H (opStore E.T 56 (fget φ 6) (fget φ 20)) := nrfl rfl
noncomputable def c52_4 : Code := kR c52_2
theorem x52_4 : execA E C (fg 52) B 21 E0 N c52_4 s = some (.ret, s) := x_ret (by rfl) s
theorem x52_2 : execA E C (fg 52) B 21 E0 N c52_2 s = seqX (execA E C (fg 52) B 21 E0 N c52_3 s) (execA E C (fg 52) B 21 E0 N c52_4) := x_seq (by rfl) s
theorem x52_0 : execA E C (fg 52) B 21 E0 N c52_0 s = seqX (execA E C (fg 52) B 21 E0 N c52_1 s) (execA E C (fg 52) B 21 E0 N c52_2) := x_seq (by rfl) s
theorem fi_52 : fInfo E 52 = some ⟨21, #[.cell 6 56], c52_0⟩ := nrfl rfl
theorem b_52 (args : List AV) : bodyA E C fg N 52 args H B = bodyX E [.cell 6 56] (execA E C (fg 52) B 21 H N c52_0 (frame0 args 0 [], H)) := bodyA_eq fi_52 args H
/-! ### f26: novaculite/prop.Harmonic -/
noncomputable def c26_0 : Code := kBody Proofs.Try.f26
noncomputable def c26_1 : Code := kL c26_0
noncomputable def r26_0 : Array Oper := kO c26_1
noncomputable def o26_0_0 : Oper := opN r26_0 0
noncomputable def o26_0_1 : Oper := opN r26_0 1
theorem x26_1 : execA E C (fg 26) B 24 E0 N c26_1 s = regX (runA E C B 24 r26_0 r26_0.toList s) (fun s => gcM E0 [3] (forget s.1 [3], s.2)) := x_reg (ops := r26_0) (by rfl) (by rfl) s
theorem r26_0_l : r26_0.toList = [o26_0_0, o26_0_1] := nrfl rfl
theorem s26_0_0 : stepA E C B 24 r26_0 o26_0_0 (φ, H) = stp (some 2) φ H (opBox (B + 2) (zeroCells E.T 56)) := nrfl rfl
theorem s26_0_1 : stepA E C B 24 r26_0 o26_0_1 (φ, H) = some (fput φ 3 (.int .i64 0), H) := nrfl rfl
noncomputable def c26_2 : Code := kR c26_0
noncomputable def c26_3 : Code := kL c26_2
noncomputable def c26_4 : Code := kL c26_3
noncomputable def r26_1 : Array Oper := kO c26_4
noncomputable def o26_1_0 : Oper := opN r26_1 0
noncomputable def o26_1_1 : Oper := opN r26_1 1
noncomputable def o26_1_2 : Oper := opN r26_1 2
noncomputable def o26_1_3 : Oper := opN r26_1 3
noncomputable def o26_1_4 : Oper := opN r26_1 4
noncomputable def o26_1_5 : Oper := opN r26_1 5
theorem x26_4 : execA E C (fg 26) B 24 E0 N c26_4 s = regX (runA E C B 24 r26_1 r26_1.toList s) (fun s => gcM E0 [6, 7, 8, 9, 10] (forget s.1 [6, 7, 8, 9, 10], s.2)) := x_reg (ops := r26_1) (by rfl) (by rfl) s
theorem r26_1_l : r26_1.toList = [o26_1_0, o26_1_1, o26_1_2, o26_1_3, o26_1_4, o26_1_5] := nrfl rfl
theorem s26_1_0 : stepA E C B 24 r26_1 o26_1_0 (φ, H) = some (fput φ 6 (fget φ 0), H) := nrfl rfl
theorem s26_1_1 : stepA E C B 24 r26_1 o26_1_1 (φ, H) = stp (some 7) φ H (just (aBin E.T .lss 3 (fget φ 6) (.int .i64 1))) := nrfl rfl
theorem s26_1_2 : stepA E C B 24 r26_1 o26_1_2 (φ, H) = some (fput φ 8 (fget φ 7), H) := nrfl rfl
theorem s26_1_3 : stepA E C B 24 r26_1 o26_1_3 (φ, H) = gd φ 8 false (fun φ => some (fput φ 9 (.tup []), H)) (fun φ => some (fput φ 9 (fget φ 0), H)) := s_gd (j := 2) (oj := o26_1_2) rfl rfl rfl (fun _ => rfl) (fun _ => rfl)
theorem s26_1_4 : stepA E C B 24 r26_1 o26_1_4 (φ, H) = gd φ 8 false (fun φ => some (fput φ 10 (.tup []), H)) (fun φ => stp (some 10) φ H (just (aBin E.T .gtr 3 (fget φ 9) (.int .i64 12)))) := s_gd (j := 2) (oj := o26_1_2) rfl rfl rfl (fun _ => rfl) (fun _ => rfl)
theorem s26_1_5 : stepA E C B 24 r26_1 o26_1_5 (φ, H) = stp (some 11) φ H (opPick (fget φ 8) (.bool true) (fget φ 10)) := nrfl rfl
noncomputable def c26_5 : Code := kR c26_3
noncomputable def c26_6 : Code := kT c26_5
noncomputable def c26_7 : Code := kL c26_6
noncomputable def r26_2 : Array Oper := kO c26_7
noncomputable def o26_2_0 : Oper := opN r26_2 0
noncomputable def o26_2_1 : Oper := opN r26_2 1
noncomputable def o26_2_2 : Oper := opN r26_2 2
theorem x26_7 : execA E C (fg 26) B 24 E0 N c26_7 s = regX (runA E C B 24 r26_2 r26_2.toList s) (fun s => gcM E0 [0, 11, 12] (forget s.1 [0, 11, 12], s.2)) := x_reg (ops := r26_2) (by rfl) (by rfl) s
theorem r26_2_l : r26_2.toList = [o26_2_0, o26_2_1, o26_2_2] := nrfl rfl
theorem s26_2_0 : stepA E C B 24 r26_2 o26_2_0 (φ, H) = stp (some 12) φ H (justO (aBuild E.T 56 (evO E φ) [])) := nrfl rfl
theorem s26_2_1 : stepA E C B 24 r26_2 o26_2_1 (φ, H) = stp none φ H (opStore E.T 56 (fget φ 2) (fget φ 12)) := nrfl rfl
theorem s26_2_2 : stepA E C B 24 r26_2 o26_2_2 (φ, H) = some (fput φ 3 (.int .i64 1), H) := nrfl rfl
noncomputable def c26_8 : Code := kR c26_6
theorem x26_8 : execA E C (fg 26) B 24 E0 N c26_8 s = some (.ret, s) := x_ret (by rfl) s
theorem x26_6 : execA E C (fg 26) B 24 E0 N c26_6 s = seqX (execA E C (fg 26) B 24 E0 N c26_7 s) (execA E C (fg 26) B 24 E0 N c26_8) := x_seq (by rfl) s
noncomputable def c26_9 : Code := kE c26_5
theorem x26_9 : execA E C (fg 26) B 24 E0 N c26_9 s = some (.normal, s) := x_skip (by rfl) s
theorem x26_5 : execA E C (fg 26) B 24 E0 N c26_5 (φ, H) = condX (fget φ 11) (execA E C (fg 26) B 24 E0 N c26_6 (φ, H)) (execA E C (fg 26) B 24 E0 N c26_9 (φ, H)) := x_cond (by rfl) _
theorem x26_3 : execA E C (fg 26) B 24 E0 N c26_3 s = seqX (execA E C (fg 26) B 24 E0 N c26_4 s) (execA E C (fg 26) B 24 E0 N c26_5) := x_seq (by rfl) s
noncomputable def c26_10 : Code := kR c26_2
noncomputable def c26_11 : Code := kL c26_10
noncomputable def r26_3 : Array Oper := kO c26_11
noncomputable def o26_3_0 : Oper := opN r26_3 0
noncomputable def o26_3_1 : Oper := opN r26_3 1
noncomputable def o26_3_2 : Oper := opN r26_3 2
theorem x26_11 : execA E C (fg 26) B 24 E0 N c26_11 s = regX (runA E C B 24 r26_3 r26_3.toList s) (fun s => gcM E0 [11, 13] (forget s.1 [11, 13], s.2)) := x_reg (ops := r26_3) (by rfl) (by rfl) s
theorem r26_3_l : r26_3.toList = [o26_3_0, o26_3_1, o26_3_2] := nrfl rfl
theorem s26_3_0 : stepA E C B 24 r26_3 o26_3_0 (φ, H) = stp (some 13) φ H (justO (aBuild E.T 56 (evO E φ) [(0, Operand.const (Value.int .i64 0)), (1, Operand.const (Value.int .i64 1))])) := nrfl rfl
theorem s26_3_1 : stepA E C B 24 r26_3 o26_3_1 (φ, H) = stp (some 4) φ H (opBox (B + 4) (zeroCells E.T 56)) := nrfl rfl
theorem s26_3_2 : stepA E C B 24 r26_3 o26_3_2 (φ, H) = stp none φ H (opStore E.T 56 (fget φ 4) (fget φ 13)) := nrfl rfl
noncomputable def c26_12 : Code := kR c26_10
noncomputable def c26_13 : Code := kL c26_12
noncomputable def c26_14 : Code := kL c26_13
noncomputable def r26_4 : Array Oper := kO c26_14
noncomputable def o26_4_0 : Oper := opN r26_4 0
noncomputable def o26_4_1 : Oper := opN r26_4 1
theorem x26_14 : execA E C (fg 26) B 24 E0 N c26_14 s = regX (runA E C B 24 r26_4 r26_4.toList s) (fun s => gcM E0 [0] (forget s.1 [0], s.2)) := x_reg (ops := r26_4) (by rfl) (by rfl) s
theorem r26_4_l : r26_4.toList = [o26_4_0, o26_4_1] := nrfl rfl
theorem s26_4_0 : stepA E C B 24 r26_4 o26_4_0 (φ, H) = some (fput φ 14 (fget φ 0), H) := nrfl rfl
theorem s26_4_1 : stepA E C B 24 r26_4 o26_4_1 (φ, H) = some (fput φ 15 (.int .i64 0), H) := nrfl rfl
noncomputable def c26_15 : Code := kR c26_13
noncomputable def c26_16 : Code := kB c26_15
noncomputable def c26_17 : Code := kB c26_16
noncomputable def c26_18 : Code := kL c26_17
noncomputable def r26_5 : Array Oper := kO c26_18
noncomputable def o26_5_0 : Oper := opN r26_5 0
theorem x26_18 : execA E C (fg 26) B 24 E0 N c26_18 s = regX (runA E C B 24 r26_5 r26_5.toList s) (fun s => gcM E0 [] (forget s.1 [], s.2)) := x_reg (ops := r26_5) (by rfl) (by rfl) s
theorem r26_5_l : r26_5.toList = [o26_5_0] := nrfl rfl
theorem s26_5_0 : stepA E C B 24 r26_5 o26_5_0 (φ, H) = stp (some 16) φ H (just (aBin E.T .lss 3 (fget φ 15) (fget φ 14))) := nrfl rfl
noncomputable def c26_19 : Code := kR c26_17
noncomputable def c26_20 : Code := kL c26_19
noncomputable def c26_21 : Code := kT c26_20
theorem x26_21 : execA E C (fg 26) B 24 E0 N c26_21 s = some (.normal, s) := x_skip (by rfl) s
noncomputable def c26_22 : Code := kE c26_20
theorem x26_22 : execA E C (fg 26) B 24 E0 N c26_22 s = some (.exit 0, s) := x_exit (by rfl) s
theorem x26_20 : execA E C (fg 26) B 24 E0 N c26_20 (φ, H) = condX (fget φ 16) (execA E C (fg 26) B 24 E0 N c26_21 (φ, H)) (execA E C (fg 26) B 24 E0 N c26_22 (φ, H)) := x_cond (by rfl) _
noncomputable def c26_23 : Code := kR c26_19
noncomputable def c26_24 : Code := kL c26_23
noncomputable def c26_25 : Code := kB c26_24
noncomputable def c26_26 : Code := kL c26_25
noncomputable def r26_6 : Array Oper := kO c26_26
noncomputable def o26_6_0 : Oper := opN r26_6 0
noncomputable def o26_6_1 : Oper := opN r26_6 1
theorem x26_26 : execA E C (fg 26) B 24 E0 N c26_26 s = regX (runA E C B 24 r26_6 r26_6.toList s) (fun s => gcM E0 [16, 17] (forget s.1 [16, 17], s.2)) := x_reg (ops := r26_6) (by rfl) (by rfl) s
theorem r26_6_l : r26_6.toList = [o26_6_0, o26_6_1] := nrfl rfl
theorem s26_6_0 : stepA E C B 24 r26_6 o26_6_0 (φ, H) = some (fput φ 17 (fget φ 15), H) := nrfl rfl
theorem s26_6_1 : stepA E C B 24 r26_6 o26_6_1 (φ, H) = some (fput φ 5 (fget φ 17), H) := nrfl rfl
noncomputable def c26_27 : Code := kR c26_25
noncomputable def r26_7 : Array Oper := kO c26_27
noncomputable def o26_7_0 : Oper := opN r26_7 0
noncomputable def o26_7_1 : Oper := opN r26_7 1
noncomputable def o26_7_2 : Oper := opN r26_7 2
noncomputable def o26_7_3 : Oper := opN r26_7 3
noncomputable def o26_7_4 : Oper := opN r26_7 4
theorem x26_27 : execA E C (fg 26) B 24 E0 N c26_27 s = regX (runA E C B 24 r26_7 r26_7.toList s) (fun s => gcM E0 [5, 18, 19, 20, 21] (forget s.1 [5, 18, 19, 20, 21], s.2)) := x_reg (ops := r26_7) (by rfl) (by rfl) s
theorem r26_7_l : r26_7.toList = [o26_7_0, o26_7_1, o26_7_2, o26_7_3, o26_7_4] := nrfl rfl
theorem s26_7_0 : stepA E C B 24 r26_7 o26_7_0 (φ, H) = stp (some 18) φ H (just (aLoad E.T 56 (fget φ 4))) := nrfl rfl
theorem s26_7_1 : stepA E C B 24 r26_7 o26_7_1 (φ, H) = some (fput φ 19 (fget φ 5), H) := nrfl rfl
theorem s26_7_2 : stepA E C B 24 r26_7 o26_7_2 (φ, H) = stp (some 20) φ H (just (aBin E.T .add 3 (fget φ 19) (.int .i64 1))) := nrfl rfl
theorem s26_7_3 : stepA E C B 24 r26_7 o26_7_3 (φ, H) = stp (some 21) φ H (aCall C (fun j => B + j * 24 + 21) true 52 [(fget φ 18), (.int .i64 1), (fget φ 20)]) := nrfl rfl
theorem s26_7_4 : stepA E C B 24 r26_7 o26_7_4 (φ, H) = stp none φ H (opStore E.T 56 (fget φ 4) (fget φ 21)) := nrfl rfl
theorem x26_25 : execA E C (fg 26) B 24 E0 N c26_25 s = seqX (execA E C (fg 26) B 24 E0 N c26_26 s) (execA E C (fg 26) B 24 E0 N c26_27) := x_seq (by rfl) s
theorem x26_24 : execA E C (fg 26) B 24 E0 N c26_24 s = blockX 1 (fun s => (forget s.1 [], s.2)) (execA E C (fg 26) B 24 E0 N c26_25 s) := x_block (by rfl) (by rfl) s
noncomputable def c26_28 : Code := kR c26_23
noncomputable def r26_8 : Array Oper := kO c26_28
noncomputable def o26_8_0 : Oper := opN r26_8 0
noncomputable def o26_8_1 : Oper := opN r26_8 1
theorem x26_28 : execA E C (fg 26) B 24 E0 N c26_28 s = regX (runA E C B 24 r26_8 r26_8.toList s) (fun s => gcM E0 [22] (forget s.1 [22], s.2)) := x_reg (ops := r26_8) (by rfl) (by rfl) s
theorem r26_8_l : r26_8.toList = [o26_8_0, o26_8_1] := nrfl rfl
theorem s26_8_0 : stepA E C B 24 r26_8 o26_8_0 (φ, H) = stp (some 22) φ H (just (aBin E.T .add 3 (fget φ 15) (.int .i64 1))) := nrfl rfl
theorem s26_8_1 : stepA E C B 24 r26_8 o26_8_1 (φ, H) = some (fput φ 15 (fget φ 22), H) := nrfl rfl
theorem x26_23 : execA E C (fg 26) B 24 E0 N c26_23 s = seqX (execA E C (fg 26) B 24 E0 N c26_24 s) (execA E C (fg 26) B 24 E0 N c26_28) := x_seq (by rfl) s
theorem x26_19 : execA E C (fg 26) B 24 E0 N c26_19 s = seqX (execA E C (fg 26) B 24 E0 N c26_20 s) (execA E C (fg 26) B 24 E0 N c26_23) := x_seq (by rfl) s
theorem x26_17 : execA E C (fg 26) B 24 E0 N c26_17 s = seqX (execA E C (fg 26) B 24 E0 N c26_18 s) (execA E C (fg 26) B 24 E0 N c26_19) := x_seq (by rfl) s
-- a loop of f26: x26_16; body c26_17; slots [15, 14, 4, 2]
theorem x26_16 : execA E C (fg 26) B 24 E0 N c26_16 s = iterA (execA E C (fg 26) B 24 E0 N c26_17) (headA E0) N s := x_loop (by rfl) s
theorem x26_15 : execA E C (fg 26) B 24 E0 N c26_15 s = blockX 0 (fun s => (forget s.1 [14, 15, 16], s.2)) (execA E C (fg 26) B 24 E0 N c26_16 s) := x_block (by rfl) (by rfl) s
theorem x26_13 : execA E C (fg 26) B 24 E0 N c26_13 s = seqX (execA E C (fg 26) B 24 E0 N c26_14 s) (execA E C (fg 26) B 24 E0 N c26_15) := x_seq (by rfl) s
noncomputable def c26_29 : Code := kR c26_12
noncomputable def c26_30 : Code := kL c26_29
noncomputable def r26_9 : Array Oper := kO c26_30
noncomputable def o26_9_0 : Oper := opN r26_9 0
noncomputable def o26_9_1 : Oper := opN r26_9 1
noncomputable def o26_9_2 : Oper := opN r26_9 2
theorem x26_30 : execA E C (fg 26) B 24 E0 N c26_30 s = regX (runA E C B 24 r26_9 r26_9.toList s) (fun s => gcM E0 [4, 23] (forget s.1 [4, 23], s.2)) := x_reg (ops := r26_9) (by rfl) (by rfl) s
theorem r26_9_l : r26_9.toList = [o26_9_0, o26_9_1, o26_9_2] := nrfl rfl
theorem s26_9_0 : stepA E C B 24 r26_9 o26_9_0 (φ, H) = stp (some 23) φ H (just (aLoad E.T 56 (fget φ 4))) := nrfl rfl
theorem s26_9_1 : stepA E C B 24 r26_9 o26_9_1 (φ, H) = stp none φ H (opStore E.T 56 (fget φ 2) (fget φ 23)) := nrfl rfl
theorem s26_9_2 : stepA E C B 24 r26_9 o26_9_2 (φ, H) = some (fput φ 3 (.int .i64 0), H) := nrfl rfl
noncomputable def c26_31 : Code := kR c26_29
theorem x26_31 : execA E C (fg 26) B 24 E0 N c26_31 s = some (.ret, s) := x_ret (by rfl) s
theorem x26_29 : execA E C (fg 26) B 24 E0 N c26_29 s = seqX (execA E C (fg 26) B 24 E0 N c26_30 s) (execA E C (fg 26) B 24 E0 N c26_31) := x_seq (by rfl) s
theorem x26_12 : execA E C (fg 26) B 24 E0 N c26_12 s = seqX (execA E C (fg 26) B 24 E0 N c26_13 s) (execA E C (fg 26) B 24 E0 N c26_29) := x_seq (by rfl) s
theorem x26_10 : execA E C (fg 26) B 24 E0 N c26_10 s = seqX (execA E C (fg 26) B 24 E0 N c26_11 s) (execA E C (fg 26) B 24 E0 N c26_12) := x_seq (by rfl) s
theorem x26_2 : execA E C (fg 26) B 24 E0 N c26_2 s = seqX (execA E C (fg 26) B 24 E0 N c26_3 s) (execA E C (fg 26) B 24 E0 N c26_10) := x_seq (by rfl) s
theorem x26_0 : execA E C (fg 26) B 24 E0 N c26_0 s = seqX (execA E C (fg 26) B 24 E0 N c26_1 s) (execA E C (fg 26) B 24 E0 N c26_2) := x_seq (by rfl) s
theorem fi_26 : fInfo E 26 = some ⟨24, #[.cell 2 56, .tmp 3], c26_0⟩ := nrfl rfl
theorem b_26 (args : List AV) : bodyA E C fg N 26 args H B = bodyX E [.cell 2 56, .tmp 3] (execA E C (fg 26) B 24 H N c26_0 (frame0 args 0 [], H)) := bodyA_eq fi_26 args H
/-! ### f27: novaculite/novaculitelaw07.frac -/
noncomputable def c27_0 : Code := kBody Proofs.Try.f27
noncomputable def c27_1 : Code := kL c27_0
noncomputable def r27_0 : Array Oper := kO c27_1
noncomputable def o27_0_0 : Oper := opN r27_0 0
theorem x27_1 : execA E C (fg 27) B 8 E0 N c27_1 s = regX (runA E C B 8 r27_0 r27_0.toList s) (fun s => gcM E0 [] (forget s.1 [], s.2)) := x_reg (ops := r27_0) (by rfl) (by rfl) s
theorem r27_0_l : r27_0.toList = [o27_0_0] := nrfl rfl
theorem s27_0_0 : stepA E C B 8 r27_0 o27_0_0 (φ, H) = stp (some 4) φ H (opBox (B + 4) (zeroCells E.T 56)) := nrfl rfl
noncomputable def c27_2 : Code := kR c27_0
noncomputable def c27_3 : Code := kL c27_2
noncomputable def r27_1 : Array Oper := kO c27_3
noncomputable def o27_1_0 : Oper := opN r27_1 0
noncomputable def o27_1_1 : Oper := opN r27_1 1
noncomputable def o27_1_2 : Oper := opN r27_1 2
noncomputable def o27_1_3 : Oper := opN r27_1 3
theorem x27_3 : execA E C (fg 27) B 8 E0 N c27_3 s = regX (runA E C B 8 r27_1 r27_1.toList s) (fun s => gcM E0 [0, 1, 5, 6, 7] (forget s.1 [0, 1, 5, 6, 7], s.2)) := x_reg (ops := r27_1) (by rfl) (by rfl) s
theorem r27_1_l : r27_1.toList = [o27_1_0, o27_1_1, o27_1_2, o27_1_3] := nrfl rfl
theorem s27_1_0 : stepA E C B 8 r27_1 o27_1_0 (φ, H) = some (fput φ 5 (fget φ 0), H) := nrfl rfl
theorem s27_1_1 : stepA E C B 8 r27_1 o27_1_1 (φ, H) = some (fput φ 6 (fget φ 1), H) := nrfl rfl
theorem s27_1_2 : stepA E C B 8 r27_1 o27_1_2 (φ, H) = stp (some 7) φ H (justO (aBuild E.T 56 (evO E φ) [(0, Operand.tmp 5), (1, Operand.tmp 6)])) := nrfl rfl
theorem s27_1_3 : stepA E C B 8 r27_1 o27_1_3 (φ, H) = stp none φ H (opStore E.T 56 (fget φ 4) (fget φ 7)) := nrfl rfl
noncomputable def c27_4 : Code := kR c27_2
theorem x27_4 : execA E C (fg 27) B 8 E0 N c27_4 s = some (.ret, s) := x_ret (by rfl) s
theorem x27_2 : execA E C (fg 27) B 8 E0 N c27_2 s = seqX (execA E C (fg 27) B 8 E0 N c27_3 s) (execA E C (fg 27) B 8 E0 N c27_4) := x_seq (by rfl) s
theorem x27_0 : execA E C (fg 27) B 8 E0 N c27_0 s = seqX (execA E C (fg 27) B 8 E0 N c27_1 s) (execA E C (fg 27) B 8 E0 N c27_2) := x_seq (by rfl) s
theorem fi_27 : fInfo E 27 = some ⟨8, #[.cell 4 56], c27_0⟩ := nrfl rfl
theorem b_27 (args : List AV) : bodyA E C fg N 27 args H B = bodyX E [.cell 4 56] (execA E C (fg 27) B 8 H N c27_0 (frame0 args 0 [], H)) := bodyA_eq fi_27 args H
/-! ### f28: novaculite/novaculitelaw07.ratio -/
noncomputable def c28_0 : Code := kBody Proofs.Try.f28
noncomputable def c28_1 : Code := kL c28_0
noncomputable def r28_0 : Array Oper := kO c28_1
noncomputable def o28_0_0 : Oper := opN r28_0 0
theorem x28_1 : execA E C (fg 28) B 16 E0 N c28_1 s = regX (runA E C B 16 r28_0 r28_0.toList s) (fun s => gcM E0 [] (forget s.1 [], s.2)) := x_reg (ops := r28_0) (by rfl) (by rfl) s
theorem r28_0_l : r28_0.toList = [o28_0_0] := nrfl rfl
theorem s28_0_0 : stepA E C B 16 r28_0 o28_0_0 (φ, H) = stp (some 4) φ H (opBox (B + 4) (zeroCells E.T 56)) := nrfl rfl
noncomputable def c28_2 : Code := kR c28_0
noncomputable def c28_3 : Code := kL c28_2
noncomputable def r28_1 : Array Oper := kO c28_3
noncomputable def o28_1_0 : Oper := opN r28_1 0
noncomputable def o28_1_1 : Oper := opN r28_1 1
noncomputable def o28_1_2 : Oper := opN r28_1 2
noncomputable def o28_1_3 : Oper := opN r28_1 3
theorem x28_3 : execA E C (fg 28) B 16 E0 N c28_3 s = regX (runA E C B 16 r28_1 r28_1.toList s) (fun s => gcM E0 [6, 7, 8] (forget s.1 [6, 7, 8], s.2)) := x_reg (ops := r28_1) (by rfl) (by rfl) s
theorem r28_1_l : r28_1.toList = [o28_1_0, o28_1_1, o28_1_2, o28_1_3] := nrfl rfl
theorem s28_1_0 : stepA E C B 16 r28_1 o28_1_0 (φ, H) = some (fput φ 6 (fget φ 0), H) := nrfl rfl
theorem s28_1_1 : stepA E C B 16 r28_1 o28_1_1 (φ, H) = some (fput φ 7 (fget φ 1), H) := nrfl rfl
theorem s28_1_2 : stepA E C B 16 r28_1 o28_1_2 (φ, H) = stp (some 8) φ H (aCall C (fun j => B + j * 16 + 8) true 53 [(fget φ 6), (fget φ 7)]) := nrfl rfl
theorem s28_1_3 : stepA E C B 16 r28_1 o28_1_3 (φ, H) = some (fput φ 5 (fget φ 8), H) := nrfl rfl
noncomputable def c28_4 : Code := kR c28_2
noncomputable def c28_5 : Code := kL c28_4
noncomputable def r28_2 : Array Oper := kO c28_5
noncomputable def o28_2_0 : Oper := opN r28_2 0
noncomputable def o28_2_1 : Oper := opN r28_2 1
noncomputable def o28_2_2 : Oper := opN r28_2 2
noncomputable def o28_2_3 : Oper := opN r28_2 3
noncomputable def o28_2_4 : Oper := opN r28_2 4
noncomputable def o28_2_5 : Oper := opN r28_2 5
noncomputable def o28_2_6 : Oper := opN r28_2 6
noncomputable def o28_2_7 : Oper := opN r28_2 7
theorem x28_5 : execA E C (fg 28) B 16 E0 N c28_5 s = regX (drawA E C B 16 r28_2 s) (fun s => gcM E0 [0, 1, 5, 9, 10, 11, 12, 13, 14, 15] (forget s.1 [0, 1, 5, 9, 10, 11, 12, 13, 14, 15], s.2)) := x_draw (ops := r28_2) (by rfl) (by rfl) s
theorem r28_2_l : r28_2.toList = [o28_2_0, o28_2_1, o28_2_2, o28_2_3, o28_2_4, o28_2_5, o28_2_6, o28_2_7] := nrfl rfl
theorem r28_2_st : statOk r28_2 = true := by kernel_rfl
theorem r28_2_dr : drawA E C B 16 r28_2 s = if neat 16 s = true then drX r28_2 (runT E C B 16 r28_2 r28_2.toList 0 s) else none := draw_eq r28_2_st s
theorem r28_2_an (l : List (Nat × Tr)) : dynOk r28_2 l = (!writing l || dynPairs [[], [], [0, 1], [], [], [3, 4], [0, 1, 2, 3, 4, 5], [0, 1, 2, 3, 4, 5, 6]] (touching l)) := dynOk_eq (by kernel_rfl) l
theorem s28_2_0 : stepT E C B 16 r28_2 o28_2_0 (φ, H) = some ((fput φ 9 (fget φ 0), H), ⟨false, [], []⟩) := stT_go rfl (goT_mv rfl rfl)
theorem s28_2_1 : stepT E C B 16 r28_2 o28_2_1 (φ, H) = some ((fput φ 10 (fget φ 5), H), ⟨false, [], []⟩) := stT_go rfl (goT_mv rfl rfl)
theorem s28_2_2 : stepT E C B 16 r28_2 o28_2_2 (φ, H) = stpT (some 11) φ H (just (aBin E.T .quo 3 (fget φ 9) (fget φ 10))) := stT_go rfl (goT_R rfl rfl)
theorem s28_2_3 : stepT E C B 16 r28_2 o28_2_3 (φ, H) = some ((fput φ 12 (fget φ 1), H), ⟨false, [], []⟩) := stT_go rfl (goT_mv rfl rfl)
theorem s28_2_4 : stepT E C B 16 r28_2 o28_2_4 (φ, H) = some ((fput φ 13 (fget φ 5), H), ⟨false, [], []⟩) := stT_go rfl (goT_mv rfl rfl)
theorem s28_2_5 : stepT E C B 16 r28_2 o28_2_5 (φ, H) = stpT (some 14) φ H (just (aBin E.T .quo 3 (fget φ 12) (fget φ 13))) := stT_go rfl (goT_R rfl rfl)
theorem s28_2_6 : stepT E C B 16 r28_2 o28_2_6 (φ, H) = stpT (some 15) φ H (aCall C (fun j => B + j * 16 + 15) true 27 [(fget φ 11), (fget φ 14)]) := stT_go rfl (goT_R rfl rfl)
theorem s28_2_7 : stepT E C B 16 r28_2 o28_2_7 (φ, H) = stpT none φ H (opStore E.T 56 (fget φ 4) (fget φ 15)) := stT_go rfl (goT_R rfl rfl)
noncomputable def c28_6 : Code := kR c28_4
theorem x28_6 : execA E C (fg 28) B 16 E0 N c28_6 s = some (.ret, s) := x_ret (by rfl) s
theorem x28_4 : execA E C (fg 28) B 16 E0 N c28_4 s = seqX (execA E C (fg 28) B 16 E0 N c28_5 s) (execA E C (fg 28) B 16 E0 N c28_6) := x_seq (by rfl) s
theorem x28_2 : execA E C (fg 28) B 16 E0 N c28_2 s = seqX (execA E C (fg 28) B 16 E0 N c28_3 s) (execA E C (fg 28) B 16 E0 N c28_4) := x_seq (by rfl) s
theorem x28_0 : execA E C (fg 28) B 16 E0 N c28_0 s = seqX (execA E C (fg 28) B 16 E0 N c28_1 s) (execA E C (fg 28) B 16 E0 N c28_2) := x_seq (by rfl) s
theorem fi_28 : fInfo E 28 = some ⟨16, #[.cell 4 56], c28_0⟩ := nrfl rfl
theorem b_28 (args : List AV) : bodyA E C fg N 28 args H B = bodyX E [.cell 4 56] (execA E C (fg 28) B 16 H N c28_0 (frame0 args 0 [], H)) := bodyA_eq fi_28 args H
/-! ### f53: novaculite/novaculitelaw07.common -/
noncomputable def c53_0 : Code := kBody Proofs.Try.f53
noncomputable def c53_1 : Code := kL c53_0
noncomputable def r53_0 : Array Oper := kO c53_1
noncomputable def o53_0_0 : Oper := opN r53_0 0
theorem x53_1 : execA E C (fg 53) B 20 E0 N c53_1 s = regX (runA E C B 20 r53_0 r53_0.toList s) (fun s => gcM E0 [4] (forget s.1 [4], s.2)) := x_reg (ops := r53_0) (by rfl) (by rfl) s
theorem r53_0_l : r53_0.toList = [o53_0_0] := nrfl rfl
theorem s53_0_0 : stepA E C B 20 r53_0 o53_0_0 (φ, H) = some (fput φ 4 (.int .i64 0), H) := nrfl rfl
noncomputable def c53_2 : Code := kR c53_0
noncomputable def c53_3 : Code := kL c53_2
noncomputable def r53_1 : Array Oper := kO c53_3
noncomputable def o53_1_0 : Oper := opN r53_1 0
noncomputable def o53_1_1 : Oper := opN r53_1 1
noncomputable def o53_1_2 : Oper := opN r53_1 2
noncomputable def o53_1_3 : Oper := opN r53_1 3
noncomputable def o53_1_4 : Oper := opN r53_1 4
noncomputable def o53_1_5 : Oper := opN r53_1 5
noncomputable def o53_1_6 : Oper := opN r53_1 6
noncomputable def o53_1_7 : Oper := opN r53_1 7
noncomputable def o53_1_8 : Oper := opN r53_1 8
noncomputable def o53_1_9 : Oper := opN r53_1 9
theorem x53_3 : execA E C (fg 53) B 20 E0 N c53_3 s = regX (runA E C B 20 r53_1 r53_1.toList s) (fun s => gcM E0 [5, 6, 7, 8, 9, 10, 11, 12] (forget s.1 [5, 6, 7, 8, 9, 10, 11, 12], s.2)) := x_reg (ops := r53_1) (by rfl) (by rfl) s
theorem r53_1_l : r53_1.toList = [o53_1_0, o53_1_1, o53_1_2, o53_1_3, o53_1_4, o53_1_5, o53_1_6, o53_1_7, o53_1_8, o53_1_9] := nrfl rfl
theorem s53_1_0 : stepA E C B 20 r53_1 o53_1_0 (φ, H) = some (fput φ 5 (fget φ 0), H) := nrfl rfl
theorem s53_1_1 : stepA E C B 20 r53_1 o53_1_1 (φ, H) = some (fput φ 6 (fget φ 0), H) := nrfl rfl
theorem s53_1_2 : stepA E C B 20 r53_1 o53_1_2 (φ, H) = stp (some 7) φ H (justO (aUn .neg (fget φ 6))) := nrfl rfl
theorem s53_1_3 : stepA E C B 20 r53_1 o53_1_3 (φ, H) = stp (some 8) φ H (aBuiltin E.T (B + 8) .max #[3, 3] [(fget φ 5), (fget φ 7)]) := nrfl rfl
theorem s53_1_4 : stepA E C B 20 r53_1 o53_1_4 (φ, H) = some (fput φ 9 (fget φ 1), H) := nrfl rfl
theorem s53_1_5 : stepA E C B 20 r53_1 o53_1_5 (φ, H) = some (fput φ 10 (fget φ 1), H) := nrfl rfl
theorem s53_1_6 : stepA E C B 20 r53_1 o53_1_6 (φ, H) = stp (some 11) φ H (justO (aUn .neg (fget φ 10))) := nrfl rfl
theorem s53_1_7 : stepA E C B 20 r53_1 o53_1_7 (φ, H) = stp (some 12) φ H (aBuiltin E.T (B + 12) .max #[3, 3] [(fget φ 9), (fget φ 11)]) := nrfl rfl
theorem s53_1_8 : stepA E C B 20 r53_1 o53_1_8 (φ, H) = some (fput φ 0 (fget φ 8), H) := nrfl rfl
theorem s53_1_9 : stepA E C B 20 r53_1 o53_1_9 (φ, H) = some (fput φ 1 (fget φ 12), H) := nrfl rfl
noncomputable def c53_4 : Code := kR c53_2
noncomputable def c53_5 : Code := kL c53_4
noncomputable def c53_6 : Code := kB c53_5
noncomputable def c53_7 : Code := kB c53_6
noncomputable def c53_8 : Code := kL c53_7
noncomputable def c53_9 : Code := kL c53_8
noncomputable def r53_2 : Array Oper := kO c53_9
noncomputable def o53_2_0 : Oper := opN r53_2 0
noncomputable def o53_2_1 : Oper := opN r53_2 1
theorem x53_9 : execA E C (fg 53) B 20 E0 N c53_9 s = regX (runA E C B 20 r53_2 r53_2.toList s) (fun s => gcM E0 [13] (forget s.1 [13], s.2)) := x_reg (ops := r53_2) (by rfl) (by rfl) s
theorem r53_2_l : r53_2.toList = [o53_2_0, o53_2_1] := nrfl rfl
theorem s53_2_0 : stepA E C B 20 r53_2 o53_2_0 (φ, H) = some (fput φ 13 (fget φ 1), H) := nrfl rfl
theorem s53_2_1 : stepA E C B 20 r53_2 o53_2_1 (φ, H) = stp (some 14) φ H (just (aBin E.T .neq 3 (fget φ 13) (.int .i64 0))) := nrfl rfl
noncomputable def c53_10 : Code := kR c53_8
noncomputable def c53_11 : Code := kT c53_10
theorem x53_11 : execA E C (fg 53) B 20 E0 N c53_11 s = some (.normal, s) := x_skip (by rfl) s
noncomputable def c53_12 : Code := kE c53_10
theorem x53_12 : execA E C (fg 53) B 20 E0 N c53_12 s = some (.exit 0, s) := x_exit (by rfl) s
theorem x53_10 : execA E C (fg 53) B 20 E0 N c53_10 (φ, H) = condX (fget φ 14) (execA E C (fg 53) B 20 E0 N c53_11 (φ, H)) (execA E C (fg 53) B 20 E0 N c53_12 (φ, H)) := x_cond (by rfl) _
theorem x53_8 : execA E C (fg 53) B 20 E0 N c53_8 s = seqX (execA E C (fg 53) B 20 E0 N c53_9 s) (execA E C (fg 53) B 20 E0 N c53_10) := x_seq (by rfl) s
noncomputable def c53_13 : Code := kR c53_7
noncomputable def c53_14 : Code := kB c53_13
noncomputable def r53_3 : Array Oper := kO c53_14
noncomputable def o53_3_0 : Oper := opN r53_3 0
noncomputable def o53_3_1 : Oper := opN r53_3 1
noncomputable def o53_3_2 : Oper := opN r53_3 2
noncomputable def o53_3_3 : Oper := opN r53_3 3
noncomputable def o53_3_4 : Oper := opN r53_3 4
noncomputable def o53_3_5 : Oper := opN r53_3 5
theorem x53_14 : execA E C (fg 53) B 20 E0 N c53_14 s = regX (drawA E C B 20 r53_3 s) (fun s => gcM E0 [14, 15, 16, 17, 18] (forget s.1 [14, 15, 16, 17, 18], s.2)) := x_draw (ops := r53_3) (by rfl) (by rfl) s
theorem r53_3_l : r53_3.toList = [o53_3_0, o53_3_1, o53_3_2, o53_3_3, o53_3_4, o53_3_5] := nrfl rfl
theorem r53_3_st : statOk r53_3 = true := by kernel_rfl
theorem r53_3_dr : drawA E C B 20 r53_3 s = if neat 20 s = true then drX r53_3 (runT E C B 20 r53_3 r53_3.toList 0 s) else none := draw_eq r53_3_st s
theorem r53_3_an (l : List (Nat × Tr)) : dynOk r53_3 l = (!writing l || dynPairs [[], [], [], [1, 2], [0, 1], [0, 1, 2, 3, 4]] (touching l)) := dynOk_eq (by kernel_rfl) l
theorem s53_3_0 : stepT E C B 20 r53_3 o53_3_0 (φ, H) = some ((fput φ 15 (fget φ 1), H), ⟨false, [], []⟩) := stT_go rfl (goT_mv rfl rfl)
theorem s53_3_1 : stepT E C B 20 r53_3 o53_3_1 (φ, H) = some ((fput φ 16 (fget φ 0), H), ⟨false, [], []⟩) := stT_go rfl (goT_mv rfl rfl)
theorem s53_3_2 : stepT E C B 20 r53_3 o53_3_2 (φ, H) = some ((fput φ 17 (fget φ 1), H), ⟨false, [], []⟩) := stT_go rfl (goT_mv rfl rfl)
theorem s53_3_3 : stepT E C B 20 r53_3 o53_3_3 (φ, H) = stpT (some 18) φ H (just (aBin E.T .rem 3 (fget φ 16) (fget φ 17))) := stT_go rfl (goT_R rfl rfl)
theorem s53_3_4 : stepT E C B 20 r53_3 o53_3_4 (φ, H) = some ((fput φ 0 (fget φ 15), H), ⟨false, [], []⟩) := stT_go rfl (goT_mv rfl rfl)
theorem s53_3_5 : stepT E C B 20 r53_3 o53_3_5 (φ, H) = some ((fput φ 1 (fget φ 18), H), ⟨false, [], []⟩) := stT_go rfl (goT_mv rfl rfl)
theorem x53_13 : execA E C (fg 53) B 20 E0 N c53_13 s = blockX 1 (fun s => (forget s.1 [], s.2)) (execA E C (fg 53) B 20 E0 N c53_14 s) := x_block (by rfl) (by rfl) s
theorem x53_7 : execA E C (fg 53) B 20 E0 N c53_7 s = seqX (execA E C (fg 53) B 20 E0 N c53_8 s) (execA E C (fg 53) B 20 E0 N c53_13) := x_seq (by rfl) s
-- a loop of f53: x53_6; body c53_7; slots [1, 0]
theorem x53_6 : execA E C (fg 53) B 20 E0 N c53_6 s = iterA (execA E C (fg 53) B 20 E0 N c53_7) (headA E0) N s := x_loop (by rfl) s
theorem x53_5 : execA E C (fg 53) B 20 E0 N c53_5 s = blockX 0 (fun s => (forget s.1 [1, 14], s.2)) (execA E C (fg 53) B 20 E0 N c53_6 s) := x_block (by rfl) (by rfl) s
noncomputable def c53_15 : Code := kR c53_4
noncomputable def c53_16 : Code := kL c53_15
noncomputable def r53_4 : Array Oper := kO c53_16
noncomputable def o53_4_0 : Oper := opN r53_4 0
noncomputable def o53_4_1 : Oper := opN r53_4 1
theorem x53_16 : execA E C (fg 53) B 20 E0 N c53_16 s = regX (runA E C B 20 r53_4 r53_4.toList s) (fun s => gcM E0 [0, 19] (forget s.1 [0, 19], s.2)) := x_reg (ops := r53_4) (by rfl) (by rfl) s
theorem r53_4_l : r53_4.toList = [o53_4_0, o53_4_1] := nrfl rfl
theorem s53_4_0 : stepA E C B 20 r53_4 o53_4_0 (φ, H) = some (fput φ 19 (fget φ 0), H) := nrfl rfl
theorem s53_4_1 : stepA E C B 20 r53_4 o53_4_1 (φ, H) = some (fput φ 4 (fget φ 19), H) := nrfl rfl
noncomputable def c53_17 : Code := kR c53_15
theorem x53_17 : execA E C (fg 53) B 20 E0 N c53_17 s = some (.ret, s) := x_ret (by rfl) s
theorem x53_15 : execA E C (fg 53) B 20 E0 N c53_15 s = seqX (execA E C (fg 53) B 20 E0 N c53_16 s) (execA E C (fg 53) B 20 E0 N c53_17) := x_seq (by rfl) s
theorem x53_4 : execA E C (fg 53) B 20 E0 N c53_4 s = seqX (execA E C (fg 53) B 20 E0 N c53_5 s) (execA E C (fg 53) B 20 E0 N c53_15) := x_seq (by rfl) s
theorem x53_2 : execA E C (fg 53) B 20 E0 N c53_2 s = seqX (execA E C (fg 53) B 20 E0 N c53_3 s) (execA E C (fg 53) B 20 E0 N c53_4) := x_seq (by rfl) s
theorem x53_0 : execA E C (fg 53) B 20 E0 N c53_0 s = seqX (execA E C (fg 53) B 20 E0 N c53_1 s) (execA E C (fg 53) B 20 E0 N c53_2) := x_seq (by rfl) s
theorem fi_53 : fInfo E 53 = some ⟨20, #[.tmp 4], c53_0⟩ := nrfl rfl
theorem b_53 (args : List AV) : bodyA E C fg N 53 args H B = bodyX E [.tmp 4] (execA E C (fg 53) B 20 H N c53_0 (frame0 args 0 [], H)) := bodyA_eq fi_53 args H
/-! ### f31: novaculite/novaculitelaw07.list -/
noncomputable def c31_0 : Code := kBody Proofs.Try.f31
noncomputable def c31_1 : Code := kL c31_0
noncomputable def r31_0 : Array Oper := kO c31_1
noncomputable def o31_0_0 : Oper := opN r31_0 0
theorem x31_1 : execA E C (fg 31) B 4 E0 N c31_1 s = regX (runA E C B 4 r31_0 r31_0.toList s) (fun s => gcM E0 [2] (forget s.1 [2], s.2)) := x_reg (ops := r31_0) (by rfl) (by rfl) s
theorem r31_0_l : r31_0.toList = [o31_0_0] := nrfl rfl
theorem s31_0_0 : stepA E C B 4 r31_0 o31_0_0 (φ, H) = some (fput φ 2 (.nilsl), H) := nrfl rfl
noncomputable def c31_2 : Code := kR c31_0
noncomputable def c31_3 : Code := kL c31_2
noncomputable def r31_1 : Array Oper := kO c31_3
noncomputable def o31_1_0 : Oper := opN r31_1 0
noncomputable def o31_1_1 : Oper := opN r31_1 1
theorem x31_3 : execA E C (fg 31) B 4 E0 N c31_3 s = regX (runA E C B 4 r31_1 r31_1.toList s) (fun s => gcM E0 [0, 3] (forget s.1 [0, 3], s.2)) := x_reg (ops := r31_1) (by rfl) (by rfl) s
theorem r31_1_l : r31_1.toList = [o31_1_0, o31_1_1] := nrfl rfl
theorem s31_1_0 : stepA E C B 4 r31_1 o31_1_0 (φ, H) = some (fput φ 3 (fget φ 0), H) := nrfl rfl
theorem s31_1_1 : stepA E C B 4 r31_1 o31_1_1 (φ, H) = some (fput φ 2 (fget φ 3), H) := nrfl rfl
noncomputable def c31_4 : Code := kR c31_2
theorem x31_4 : execA E C (fg 31) B 4 E0 N c31_4 s = some (.ret, s) := x_ret (by rfl) s
theorem x31_2 : execA E C (fg 31) B 4 E0 N c31_2 s = seqX (execA E C (fg 31) B 4 E0 N c31_3 s) (execA E C (fg 31) B 4 E0 N c31_4) := x_seq (by rfl) s
theorem x31_0 : execA E C (fg 31) B 4 E0 N c31_0 s = seqX (execA E C (fg 31) B 4 E0 N c31_1 s) (execA E C (fg 31) B 4 E0 N c31_2) := x_seq (by rfl) s
theorem fi_31 : fInfo E 31 = some ⟨4, #[.tmp 2], c31_0⟩ := nrfl rfl
theorem b_31 (args : List AV) : bodyA E C fg N 31 args H B = bodyX E [.tmp 2] (execA E C (fg 31) B 4 H N c31_0 (frame0 args 0 [], H)) := bodyA_eq fi_31 args H
/-! ### f54: novaculite/prop.Loads -/
noncomputable def c54_0 : Code := kBody Proofs.Try.f54
noncomputable def c54_1 : Code := kL c54_0
noncomputable def r54_0 : Array Oper := kO c54_1
noncomputable def o54_0_0 : Oper := opN r54_0 0
theorem x54_1 : execA E C (fg 54) B 49 E0 N c54_1 s = regX (runA E C B 49 r54_0 r54_0.toList s) (fun s => gcM E0 [4] (forget s.1 [4], s.2)) := x_reg (ops := r54_0) (by rfl) (by rfl) s
theorem r54_0_l : r54_0.toList = [o54_0_0] := nrfl rfl
theorem s54_0_0 : stepA E C B 49 r54_0 o54_0_0 (φ, H) = some (fput φ 4 (.int .i64 0), H) := nrfl rfl
noncomputable def c54_2 : Code := kR c54_0
noncomputable def c54_3 : Code := kL c54_2
noncomputable def c54_4 : Code := kB c54_3
noncomputable def c54_5 : Code := kL c54_4
noncomputable def r54_1 : Array Oper := kO c54_5
noncomputable def o54_1_0 : Oper := opN r54_1 0
noncomputable def o54_1_1 : Oper := opN r54_1 1
noncomputable def o54_1_2 : Oper := opN r54_1 2
noncomputable def o54_1_3 : Oper := opN r54_1 3
theorem x54_5 : execA E C (fg 54) B 49 E0 N c54_5 s = regX (runA E C B 49 r54_1 r54_1.toList s) (fun s => gcM E0 [8, 9, 10] (forget s.1 [8, 9, 10], s.2)) := x_reg (ops := r54_1) (by rfl) (by rfl) s
theorem r54_1_l : r54_1.toList = [o54_1_0, o54_1_1, o54_1_2, o54_1_3] := nrfl rfl
theorem s54_1_0 : stepA E C B 49 r54_1 o54_1_0 (φ, H) = some (fput φ 8 (fget φ 0), H) := nrfl rfl
theorem s54_1_1 : stepA E C B 49 r54_1 o54_1_1 (φ, H) = stp (some 9) φ H (aBuiltin E.T (B + 9) .len #[36] [(fget φ 8)]) := nrfl rfl
theorem s54_1_2 : stepA E C B 49 r54_1 o54_1_2 (φ, H) = stp (some 10) φ H (just (aBin E.T .eql 3 (fget φ 9) (.int .i64 0))) := nrfl rfl
theorem s54_1_3 : stepA E C B 49 r54_1 o54_1_3 (φ, H) = some (fput φ 7 (fget φ 10), H) := nrfl rfl
noncomputable def c54_6 : Code := kR c54_4
noncomputable def c54_7 : Code := kT c54_6
noncomputable def c54_8 : Code := kL c54_7
noncomputable def r54_2 : Array Oper := kO c54_8
noncomputable def o54_2_0 : Oper := opN r54_2 0
theorem x54_8 : execA E C (fg 54) B 49 E0 N c54_8 s = regX (runA E C B 49 r54_2 r54_2.toList s) (fun s => gcM E0 [0, 1, 7] (forget s.1 [0, 1, 7], s.2)) := x_reg (ops := r54_2) (by rfl) (by rfl) s
theorem r54_2_l : r54_2.toList = [o54_2_0] := nrfl rfl
theorem s54_2_0 : stepA E C B 49 r54_2 o54_2_0 (φ, H) = some (fput φ 4 (.int .i64 4), H) := nrfl rfl
noncomputable def c54_9 : Code := kR c54_7
theorem x54_9 : execA E C (fg 54) B 49 E0 N c54_9 s = some (.ret, s) := x_ret (by rfl) s
theorem x54_7 : execA E C (fg 54) B 49 E0 N c54_7 s = seqX (execA E C (fg 54) B 49 E0 N c54_8 s) (execA E C (fg 54) B 49 E0 N c54_9) := x_seq (by rfl) s
noncomputable def c54_10 : Code := kE c54_6
noncomputable def c54_11 : Code := kL c54_10
noncomputable def r54_3 : Array Oper := kO c54_11
noncomputable def o54_3_0 : Oper := opN r54_3 0
noncomputable def o54_3_1 : Oper := opN r54_3 1
noncomputable def o54_3_2 : Oper := opN r54_3 2
noncomputable def o54_3_3 : Oper := opN r54_3 3
theorem x54_11 : execA E C (fg 54) B 49 E0 N c54_11 s = regX (runA E C B 49 r54_3 r54_3.toList s) (fun s => gcM E0 [7, 12, 13, 14] (forget s.1 [7, 12, 13, 14], s.2)) := x_reg (ops := r54_3) (by rfl) (by rfl) s
theorem r54_3_l : r54_3.toList = [o54_3_0, o54_3_1, o54_3_2, o54_3_3] := nrfl rfl
theorem s54_3_0 : stepA E C B 49 r54_3 o54_3_0 (φ, H) = some (fput φ 12 (fget φ 0), H) := nrfl rfl
theorem s54_3_1 : stepA E C B 49 r54_3 o54_3_1 (φ, H) = stp (some 13) φ H (aBuiltin E.T (B + 13) .len #[36] [(fget φ 12)]) := nrfl rfl
theorem s54_3_2 : stepA E C B 49 r54_3 o54_3_2 (φ, H) = stp (some 14) φ H (just (aBin E.T .gtr 3 (fget φ 13) (.int .i64 5))) := nrfl rfl
theorem s54_3_3 : stepA E C B 49 r54_3 o54_3_3 (φ, H) = some (fput φ 11 (fget φ 14), H) := nrfl rfl
noncomputable def c54_12 : Code := kR c54_10
noncomputable def c54_13 : Code := kT c54_12
noncomputable def c54_14 : Code := kL c54_13
noncomputable def r54_4 : Array Oper := kO c54_14
noncomputable def o54_4_0 : Oper := opN r54_4 0
theorem x54_14 : execA E C (fg 54) B 49 E0 N c54_14 s = regX (runA E C B 49 r54_4 r54_4.toList s) (fun s => gcM E0 [0, 1, 11] (forget s.1 [0, 1, 11], s.2)) := x_reg (ops := r54_4) (by rfl) (by rfl) s
theorem r54_4_l : r54_4.toList = [o54_4_0] := nrfl rfl
theorem s54_4_0 : stepA E C B 49 r54_4 o54_4_0 (φ, H) = some (fput φ 4 (.int .i64 3), H) := nrfl rfl
noncomputable def c54_15 : Code := kR c54_13
theorem x54_15 : execA E C (fg 54) B 49 E0 N c54_15 s = some (.ret, s) := x_ret (by rfl) s
theorem x54_13 : execA E C (fg 54) B 49 E0 N c54_13 s = seqX (execA E C (fg 54) B 49 E0 N c54_14 s) (execA E C (fg 54) B 49 E0 N c54_15) := x_seq (by rfl) s
noncomputable def c54_16 : Code := kE c54_12
noncomputable def c54_17 : Code := kL c54_16
noncomputable def r54_5 : Array Oper := kO c54_17
noncomputable def o54_5_0 : Oper := opN r54_5 0
noncomputable def o54_5_1 : Oper := opN r54_5 1
noncomputable def o54_5_2 : Oper := opN r54_5 2
noncomputable def o54_5_3 : Oper := opN r54_5 3
noncomputable def o54_5_4 : Oper := opN r54_5 4
noncomputable def o54_5_5 : Oper := opN r54_5 5
theorem x54_17 : execA E C (fg 54) B 49 E0 N c54_17 s = regX (runA E C B 49 r54_5 r54_5.toList s) (fun s => gcM E0 [11, 16, 17, 18, 19, 20] (forget s.1 [11, 16, 17, 18, 19, 20], s.2)) := x_reg (ops := r54_5) (by rfl) (by rfl) s
theorem r54_5_l : r54_5.toList = [o54_5_0, o54_5_1, o54_5_2, o54_5_3, o54_5_4, o54_5_5] := nrfl rfl
theorem s54_5_0 : stepA E C B 49 r54_5 o54_5_0 (φ, H) = some (fput φ 16 (fget φ 1), H) := nrfl rfl
theorem s54_5_1 : stepA E C B 49 r54_5 o54_5_1 (φ, H) = stp (some 17) φ H (aBuiltin E.T (B + 17) .len #[36] [(fget φ 16)]) := nrfl rfl
theorem s54_5_2 : stepA E C B 49 r54_5 o54_5_2 (φ, H) = some (fput φ 18 (fget φ 0), H) := nrfl rfl
theorem s54_5_3 : stepA E C B 49 r54_5 o54_5_3 (φ, H) = stp (some 19) φ H (aBuiltin E.T (B + 19) .len #[36] [(fget φ 18)]) := nrfl rfl
theorem s54_5_4 : stepA E C B 49 r54_5 o54_5_4 (φ, H) = stp (some 20) φ H (just (aBin E.T .neq 3 (fget φ 17) (fget φ 19))) := nrfl rfl
theorem s54_5_5 : stepA E C B 49 r54_5 o54_5_5 (φ, H) = some (fput φ 15 (fget φ 20), H) := nrfl rfl
noncomputable def c54_18 : Code := kR c54_16
noncomputable def c54_19 : Code := kT c54_18
noncomputable def c54_20 : Code := kL c54_19
noncomputable def r54_6 : Array Oper := kO c54_20
noncomputable def o54_6_0 : Oper := opN r54_6 0
theorem x54_20 : execA E C (fg 54) B 49 E0 N c54_20 s = regX (runA E C B 49 r54_6 r54_6.toList s) (fun s => gcM E0 [0, 1, 15] (forget s.1 [0, 1, 15], s.2)) := x_reg (ops := r54_6) (by rfl) (by rfl) s
theorem r54_6_l : r54_6.toList = [o54_6_0] := nrfl rfl
theorem s54_6_0 : stepA E C B 49 r54_6 o54_6_0 (φ, H) = some (fput φ 4 (.int .i64 5), H) := nrfl rfl
noncomputable def c54_21 : Code := kR c54_19
theorem x54_21 : execA E C (fg 54) B 49 E0 N c54_21 s = some (.ret, s) := x_ret (by rfl) s
theorem x54_19 : execA E C (fg 54) B 49 E0 N c54_19 s = seqX (execA E C (fg 54) B 49 E0 N c54_20 s) (execA E C (fg 54) B 49 E0 N c54_21) := x_seq (by rfl) s
noncomputable def c54_22 : Code := kE c54_18
theorem x54_22 : execA E C (fg 54) B 49 E0 N c54_22 s = some (.normal, s) := x_skip (by rfl) s
theorem x54_18 : execA E C (fg 54) B 49 E0 N c54_18 (φ, H) = condX (fget φ 15) (execA E C (fg 54) B 49 E0 N c54_19 (φ, H)) (execA E C (fg 54) B 49 E0 N c54_22 (φ, H)) := x_cond (by rfl) _
theorem x54_16 : execA E C (fg 54) B 49 E0 N c54_16 s = seqX (execA E C (fg 54) B 49 E0 N c54_17 s) (execA E C (fg 54) B 49 E0 N c54_18) := x_seq (by rfl) s
theorem x54_12 : execA E C (fg 54) B 49 E0 N c54_12 (φ, H) = condX (fget φ 11) (execA E C (fg 54) B 49 E0 N c54_13 (φ, H)) (execA E C (fg 54) B 49 E0 N c54_16 (φ, H)) := x_cond (by rfl) _
theorem x54_10 : execA E C (fg 54) B 49 E0 N c54_10 s = seqX (execA E C (fg 54) B 49 E0 N c54_11 s) (execA E C (fg 54) B 49 E0 N c54_12) := x_seq (by rfl) s
theorem x54_6 : execA E C (fg 54) B 49 E0 N c54_6 (φ, H) = condX (fget φ 7) (execA E C (fg 54) B 49 E0 N c54_7 (φ, H)) (execA E C (fg 54) B 49 E0 N c54_10 (φ, H)) := x_cond (by rfl) _
theorem x54_4 : execA E C (fg 54) B 49 E0 N c54_4 s = seqX (execA E C (fg 54) B 49 E0 N c54_5 s) (execA E C (fg 54) B 49 E0 N c54_6) := x_seq (by rfl) s
theorem x54_3 : execA E C (fg 54) B 49 E0 N c54_3 s = blockX 0 (fun s => (forget s.1 [15], s.2)) (execA E C (fg 54) B 49 E0 N c54_4 s) := x_block (by rfl) (by rfl) s
noncomputable def c54_23 : Code := kR c54_2
noncomputable def c54_24 : Code := kL c54_23
noncomputable def c54_25 : Code := kL c54_24
noncomputable def r54_7 : Array Oper := kO c54_25
noncomputable def o54_7_0 : Oper := opN r54_7 0
noncomputable def o54_7_1 : Oper := opN r54_7 1
noncomputable def o54_7_2 : Oper := opN r54_7 2
theorem x54_25 : execA E C (fg 54) B 49 E0 N c54_25 s = regX (runA E C B 49 r54_7 r54_7.toList s) (fun s => gcM E0 [1] (forget s.1 [1], s.2)) := x_reg (ops := r54_7) (by rfl) (by rfl) s
theorem r54_7_l : r54_7.toList = [o54_7_0, o54_7_1, o54_7_2] := nrfl rfl
theorem s54_7_0 : stepA E C B 49 r54_7 o54_7_0 (φ, H) = some (fput φ 21 (fget φ 1), H) := nrfl rfl
theorem s54_7_1 : stepA E C B 49 r54_7 o54_7_1 (φ, H) = stp (some 22) φ H (aBuiltin E.T (B + 22) .len #[36] [(fget φ 21)]) := nrfl rfl
theorem s54_7_2 : stepA E C B 49 r54_7 o54_7_2 (φ, H) = some (fput φ 23 (.int .i64 0), H) := nrfl rfl
noncomputable def c54_26 : Code := kR c54_24
noncomputable def c54_27 : Code := kB c54_26
noncomputable def c54_28 : Code := kB c54_27
noncomputable def c54_29 : Code := kL c54_28
noncomputable def r54_8 : Array Oper := kO c54_29
noncomputable def o54_8_0 : Oper := opN r54_8 0
theorem x54_29 : execA E C (fg 54) B 49 E0 N c54_29 s = regX (runA E C B 49 r54_8 r54_8.toList s) (fun s => gcM E0 [] (forget s.1 [], s.2)) := x_reg (ops := r54_8) (by rfl) (by rfl) s
theorem r54_8_l : r54_8.toList = [o54_8_0] := nrfl rfl
theorem s54_8_0 : stepA E C B 49 r54_8 o54_8_0 (φ, H) = stp (some 24) φ H (just (aBin E.T .lss 3 (fget φ 23) (fget φ 22))) := nrfl rfl
noncomputable def c54_30 : Code := kR c54_28
noncomputable def c54_31 : Code := kL c54_30
noncomputable def c54_32 : Code := kT c54_31
theorem x54_32 : execA E C (fg 54) B 49 E0 N c54_32 s = some (.normal, s) := x_skip (by rfl) s
noncomputable def c54_33 : Code := kE c54_31
theorem x54_33 : execA E C (fg 54) B 49 E0 N c54_33 s = some (.exit 1, s) := x_exit (by rfl) s
theorem x54_31 : execA E C (fg 54) B 49 E0 N c54_31 (φ, H) = condX (fget φ 24) (execA E C (fg 54) B 49 E0 N c54_32 (φ, H)) (execA E C (fg 54) B 49 E0 N c54_33 (φ, H)) := x_cond (by rfl) _
noncomputable def c54_34 : Code := kR c54_30
noncomputable def c54_35 : Code := kL c54_34
noncomputable def c54_36 : Code := kB c54_35
noncomputable def c54_37 : Code := kL c54_36
noncomputable def r54_9 : Array Oper := kO c54_37
noncomputable def o54_9_0 : Oper := opN r54_9 0
noncomputable def o54_9_1 : Oper := opN r54_9 1
noncomputable def o54_9_2 : Oper := opN r54_9 2
noncomputable def o54_9_3 : Oper := opN r54_9 3
noncomputable def o54_9_4 : Oper := opN r54_9 4
theorem x54_37 : execA E C (fg 54) B 49 E0 N c54_37 s = regX (runA E C B 49 r54_9 r54_9.toList s) (fun s => gcM E0 [24, 25, 26, 27] (forget s.1 [24, 25, 26, 27], s.2)) := x_reg (ops := r54_9) (by rfl) (by rfl) s
theorem r54_9_l : r54_9.toList = [o54_9_0, o54_9_1, o54_9_2, o54_9_3, o54_9_4] := nrfl rfl
theorem s54_9_0 : stepA E C B 49 r54_9 o54_9_0 (φ, H) = some (fput φ 25 (fget φ 23), H) := nrfl rfl
theorem s54_9_1 : stepA E C B 49 r54_9 o54_9_1 (φ, H) = stp (some 26) φ H (just (aIndexAddr E.T 36 (fget φ 21) (fget φ 23))) := nrfl rfl
theorem s54_9_2 : stepA E C B 49 r54_9 o54_9_2 (φ, H) = stp (some 27) φ H (just (aLoad E.T 3 (fget φ 26))) := nrfl rfl
theorem s54_9_3 : stepA E C B 49 r54_9 o54_9_3 (φ, H) = some (fput φ 5 (fget φ 25), H) := nrfl rfl
theorem s54_9_4 : stepA E C B 49 r54_9 o54_9_4 (φ, H) = some (fput φ 6 (fget φ 27), H) := nrfl rfl
noncomputable def c54_38 : Code := kR c54_36
noncomputable def c54_39 : Code := kL c54_38
noncomputable def r54_10 : Array Oper := kO c54_39
noncomputable def o54_10_0 : Oper := opN r54_10 0
noncomputable def o54_10_1 : Oper := opN r54_10 1
noncomputable def o54_10_2 : Oper := opN r54_10 2
noncomputable def o54_10_3 : Oper := opN r54_10 3
noncomputable def o54_10_4 : Oper := opN r54_10 4
noncomputable def o54_10_5 : Oper := opN r54_10 5
noncomputable def o54_10_6 : Oper := opN r54_10 6
noncomputable def o54_10_7 : Oper := opN r54_10 7
noncomputable def o54_10_8 : Oper := opN r54_10 8
noncomputable def o54_10_9 : Oper := opN r54_10 9
noncomputable def o54_10_10 : Oper := opN r54_10 10
noncomputable def o54_10_11 : Oper := opN r54_10 11
noncomputable def o54_10_12 : Oper := opN r54_10 12
noncomputable def o54_10_13 : Oper := opN r54_10 13
noncomputable def o54_10_14 : Oper := opN r54_10 14
noncomputable def o54_10_15 : Oper := opN r54_10 15
noncomputable def o54_10_16 : Oper := opN r54_10 16
noncomputable def o54_10_17 : Oper := opN r54_10 17
noncomputable def o54_10_18 : Oper := opN r54_10 18
noncomputable def o54_10_19 : Oper := opN r54_10 19
theorem x54_39 : execA E C (fg 54) B 49 E0 N c54_39 s = regX (runA E C B 49 r54_10 r54_10.toList s) (fun s => gcM E0 [5, 6, 28, 29, 30, 31, 32, 33, 34, 35, 36, 37, 38, 39, 40, 41, 42, 43, 44, 45, 46] (forget s.1 [5, 6, 28, 29, 30, 31, 32, 33, 34, 35, 36, 37, 38, 39, 40, 41, 42, 43, 44, 45, 46], s.2)) := x_reg (ops := r54_10) (by rfl) (by rfl) s
theorem r54_10_l : r54_10.toList = [o54_10_0, o54_10_1, o54_10_2, o54_10_3, o54_10_4, o54_10_5, o54_10_6, o54_10_7, o54_10_8, o54_10_9, o54_10_10, o54_10_11, o54_10_12, o54_10_13, o54_10_14, o54_10_15, o54_10_16, o54_10_17, o54_10_18, o54_10_19] := nrfl rfl
theorem s54_10_0 : stepA E C B 49 r54_10 o54_10_0 (φ, H) = some (fput φ 28 (fget φ 0), H) := nrfl rfl
theorem s54_10_1 : stepA E C B 49 r54_10 o54_10_1 (φ, H) = some (fput φ 29 (fget φ 5), H) := nrfl rfl
theorem s54_10_2 : stepA E C B 49 r54_10 o54_10_2 (φ, H) = stp (some 30) φ H (just (aIndexAddr E.T 36 (fget φ 28) (fget φ 29))) := nrfl rfl
theorem s54_10_3 : stepA E C B 49 r54_10 o54_10_3 (φ, H) = stp (some 31) φ H (just (aLoad E.T 3 (fget φ 30))) := nrfl rfl
theorem s54_10_4 : stepA E C B 49 r54_10 o54_10_4 (φ, H) = stp (some 32) φ H (just (aBin E.T .lss 3 (fget φ 31) (.int .i64 1))) := nrfl rfl
theorem s54_10_5 : stepA E C B 49 r54_10 o54_10_5 (φ, H) = some (fput φ 33 (fget φ 32), H) := nrfl rfl
theorem s54_10_6 : stepA E C B 49 r54_10 o54_10_6 (φ, H) = gd φ 33 false (fun φ => some (fput φ 34 (.tup []), H)) (fun φ => some (fput φ 34 (fget φ 0), H)) := s_gd (j := 5) (oj := o54_10_5) rfl rfl rfl (fun _ => rfl) (fun _ => rfl)
theorem s54_10_7 : stepA E C B 49 r54_10 o54_10_7 (φ, H) = gd φ 33 false (fun φ => some (fput φ 35 (.tup []), H)) (fun φ => some (fput φ 35 (fget φ 5), H)) := s_gd (j := 5) (oj := o54_10_5) rfl rfl rfl (fun _ => rfl) (fun _ => rfl)
theorem s54_10_8 : stepA E C B 49 r54_10 o54_10_8 (φ, H) = gd φ 33 false (fun φ => some (fput φ 36 (.tup []), H)) (fun φ => stp (some 36) φ H (just (aIndexAddr E.T 36 (fget φ 34) (fget φ 35)))) := s_gd (j := 5) (oj := o54_10_5) rfl rfl rfl (fun _ => rfl) (fun _ => rfl)
theorem s54_10_9 : stepA E C B 49 r54_10 o54_10_9 (φ, H) = gd φ 33 false (fun φ => some (fput φ 37 (.tup []), H)) (fun φ => stp (some 37) φ H (just (aLoad E.T 3 (fget φ 36)))) := s_gd (j := 5) (oj := o54_10_5) rfl rfl rfl (fun _ => rfl) (fun _ => rfl)
theorem s54_10_10 : stepA E C B 49 r54_10 o54_10_10 (φ, H) = gd φ 33 false (fun φ => some (fput φ 38 (.tup []), H)) (fun φ => stp (some 38) φ H (just (aBin E.T .gtr 3 (fget φ 37) (.int .i64 4194304)))) := s_gd (j := 5) (oj := o54_10_5) rfl rfl rfl (fun _ => rfl) (fun _ => rfl)
theorem s54_10_11 : stepA E C B 49 r54_10 o54_10_11 (φ, H) = stp (some 39) φ H (opPick (fget φ 33) (.bool true) (fget φ 38)) := nrfl rfl
theorem s54_10_12 : stepA E C B 49 r54_10 o54_10_12 (φ, H) = some (fput φ 40 (fget φ 39), H) := nrfl rfl
theorem s54_10_13 : stepA E C B 49 r54_10 o54_10_13 (φ, H) = gd φ 40 false (fun φ => some (fput φ 41 (.tup []), H)) (fun φ => some (fput φ 41 (fget φ 6), H)) := s_gd (j := 12) (oj := o54_10_12) rfl rfl rfl (fun _ => rfl) (fun _ => rfl)
theorem s54_10_14 : stepA E C B 49 r54_10 o54_10_14 (φ, H) = gd φ 40 false (fun φ => some (fput φ 42 (.tup []), H)) (fun φ => stp (some 42) φ H (just (aBin E.T .lss 3 (fget φ 41) (.int .i64 1)))) := s_gd (j := 12) (oj := o54_10_12) rfl rfl rfl (fun _ => rfl) (fun _ => rfl)
theorem s54_10_15 : stepA E C B 49 r54_10 o54_10_15 (φ, H) = stp (some 43) φ H (opPick (fget φ 40) (.bool true) (fget φ 42)) := nrfl rfl
theorem s54_10_16 : stepA E C B 49 r54_10 o54_10_16 (φ, H) = some (fput φ 44 (fget φ 43), H) := nrfl rfl
theorem s54_10_17 : stepA E C B 49 r54_10 o54_10_17 (φ, H) = gd φ 44 false (fun φ => some (fput φ 45 (.tup []), H)) (fun φ => some (fput φ 45 (fget φ 6), H)) := s_gd (j := 16) (oj := o54_10_16) rfl rfl rfl (fun _ => rfl) (fun _ => rfl)
theorem s54_10_18 : stepA E C B 49 r54_10 o54_10_18 (φ, H) = gd φ 44 false (fun φ => some (fput φ 46 (.tup []), H)) (fun φ => stp (some 46) φ H (just (aBin E.T .gtr 3 (fget φ 45) (.int .i64 9)))) := s_gd (j := 16) (oj := o54_10_16) rfl rfl rfl (fun _ => rfl) (fun _ => rfl)
theorem s54_10_19 : stepA E C B 49 r54_10 o54_10_19 (φ, H) = stp (some 47) φ H (opPick (fget φ 44) (.bool true) (fget φ 46)) := nrfl rfl
noncomputable def c54_40 : Code := kR c54_38
noncomputable def c54_41 : Code := kT c54_40
noncomputable def c54_42 : Code := kL c54_41
noncomputable def r54_11 : Array Oper := kO c54_42
noncomputable def o54_11_0 : Oper := opN r54_11 0
theorem x54_42 : execA E C (fg 54) B 49 E0 N c54_42 s = regX (runA E C B 49 r54_11 r54_11.toList s) (fun s => gcM E0 [0, 21, 22, 23, 47] (forget s.1 [0, 21, 22, 23, 47], s.2)) := x_reg (ops := r54_11) (by rfl) (by rfl) s
theorem r54_11_l : r54_11.toList = [o54_11_0] := nrfl rfl
theorem s54_11_0 : stepA E C B 49 r54_11 o54_11_0 (φ, H) = some (fput φ 4 (.int .i64 1), H) := nrfl rfl
noncomputable def c54_43 : Code := kR c54_41
theorem x54_43 : execA E C (fg 54) B 49 E0 N c54_43 s = some (.ret, s) := x_ret (by rfl) s
theorem x54_41 : execA E C (fg 54) B 49 E0 N c54_41 s = seqX (execA E C (fg 54) B 49 E0 N c54_42 s) (execA E C (fg 54) B 49 E0 N c54_43) := x_seq (by rfl) s
noncomputable def c54_44 : Code := kE c54_40
theorem x54_44 : execA E C (fg 54) B 49 E0 N c54_44 s = some (.normal, s) := x_skip (by rfl) s
theorem x54_40 : execA E C (fg 54) B 49 E0 N c54_40 (φ, H) = condX (fget φ 47) (execA E C (fg 54) B 49 E0 N c54_41 (φ, H)) (execA E C (fg 54) B 49 E0 N c54_44 (φ, H)) := x_cond (by rfl) _
theorem x54_38 : execA E C (fg 54) B 49 E0 N c54_38 s = seqX (execA E C (fg 54) B 49 E0 N c54_39 s) (execA E C (fg 54) B 49 E0 N c54_40) := x_seq (by rfl) s
theorem x54_36 : execA E C (fg 54) B 49 E0 N c54_36 s = seqX (execA E C (fg 54) B 49 E0 N c54_37 s) (execA E C (fg 54) B 49 E0 N c54_38) := x_seq (by rfl) s
theorem x54_35 : execA E C (fg 54) B 49 E0 N c54_35 s = blockX 2 (fun s => (forget s.1 [47], s.2)) (execA E C (fg 54) B 49 E0 N c54_36 s) := x_block (by rfl) (by rfl) s
noncomputable def c54_45 : Code := kR c54_34
noncomputable def r54_12 : Array Oper := kO c54_45
noncomputable def o54_12_0 : Oper := opN r54_12 0
noncomputable def o54_12_1 : Oper := opN r54_12 1
theorem x54_45 : execA E C (fg 54) B 49 E0 N c54_45 s = regX (runA E C B 49 r54_12 r54_12.toList s) (fun s => gcM E0 [48] (forget s.1 [48], s.2)) := x_reg (ops := r54_12) (by rfl) (by rfl) s
theorem r54_12_l : r54_12.toList = [o54_12_0, o54_12_1] := nrfl rfl
theorem s54_12_0 : stepA E C B 49 r54_12 o54_12_0 (φ, H) = stp (some 48) φ H (just (aBin E.T .add 3 (fget φ 23) (.int .i64 1))) := nrfl rfl
theorem s54_12_1 : stepA E C B 49 r54_12 o54_12_1 (φ, H) = some (fput φ 23 (fget φ 48), H) := nrfl rfl
theorem x54_34 : execA E C (fg 54) B 49 E0 N c54_34 s = seqX (execA E C (fg 54) B 49 E0 N c54_35 s) (execA E C (fg 54) B 49 E0 N c54_45) := x_seq (by rfl) s
theorem x54_30 : execA E C (fg 54) B 49 E0 N c54_30 s = seqX (execA E C (fg 54) B 49 E0 N c54_31 s) (execA E C (fg 54) B 49 E0 N c54_34) := x_seq (by rfl) s
theorem x54_28 : execA E C (fg 54) B 49 E0 N c54_28 s = seqX (execA E C (fg 54) B 49 E0 N c54_29 s) (execA E C (fg 54) B 49 E0 N c54_30) := x_seq (by rfl) s
-- a loop of f54: x54_27; body c54_28; slots [23, 22, 21, 0]
theorem x54_27 : execA E C (fg 54) B 49 E0 N c54_27 s = iterA (execA E C (fg 54) B 49 E0 N c54_28) (headA E0) N s := x_loop (by rfl) s
theorem x54_26 : execA E C (fg 54) B 49 E0 N c54_26 s = blockX 1 (fun s => (forget s.1 [0, 21, 22, 23, 24], s.2)) (execA E C (fg 54) B 49 E0 N c54_27 s) := x_block (by rfl) (by rfl) s
theorem x54_24 : execA E C (fg 54) B 49 E0 N c54_24 s = seqX (execA E C (fg 54) B 49 E0 N c54_25 s) (execA E C (fg 54) B 49 E0 N c54_26) := x_seq (by rfl) s
noncomputable def c54_46 : Code := kR c54_23
noncomputable def c54_47 : Code := kL c54_46
noncomputable def r54_13 : Array Oper := kO c54_47
noncomputable def o54_13_0 : Oper := opN r54_13 0
theorem x54_47 : execA E C (fg 54) B 49 E0 N c54_47 s = regX (runA E C B 49 r54_13 r54_13.toList s) (fun s => gcM E0 [] (forget s.1 [], s.2)) := x_reg (ops := r54_13) (by rfl) (by rfl) s
theorem r54_13_l : r54_13.toList = [o54_13_0] := nrfl rfl
theorem s54_13_0 : stepA E C B 49 r54_13 o54_13_0 (φ, H) = some (fput φ 4 (.int .i64 0), H) := nrfl rfl
noncomputable def c54_48 : Code := kR c54_46
theorem x54_48 : execA E C (fg 54) B 49 E0 N c54_48 s = some (.ret, s) := x_ret (by rfl) s
theorem x54_46 : execA E C (fg 54) B 49 E0 N c54_46 s = seqX (execA E C (fg 54) B 49 E0 N c54_47 s) (execA E C (fg 54) B 49 E0 N c54_48) := x_seq (by rfl) s
theorem x54_23 : execA E C (fg 54) B 49 E0 N c54_23 s = seqX (execA E C (fg 54) B 49 E0 N c54_24 s) (execA E C (fg 54) B 49 E0 N c54_46) := x_seq (by rfl) s
theorem x54_2 : execA E C (fg 54) B 49 E0 N c54_2 s = seqX (execA E C (fg 54) B 49 E0 N c54_3 s) (execA E C (fg 54) B 49 E0 N c54_23) := x_seq (by rfl) s
theorem x54_0 : execA E C (fg 54) B 49 E0 N c54_0 s = seqX (execA E C (fg 54) B 49 E0 N c54_1 s) (execA E C (fg 54) B 49 E0 N c54_2) := x_seq (by rfl) s
theorem fi_54 : fInfo E 54 = some ⟨49, #[.tmp 4], c54_0⟩ := nrfl rfl
theorem b_54 (args : List AV) : bodyA E C fg N 54 args H B = bodyX E [.tmp 4] (execA E C (fg 54) B 49 H N c54_0 (frame0 args 0 [], H)) := bodyA_eq fi_54 args H
/-! ### f55: novaculite/prop.placed -/
noncomputable def c55_0 : Code := kBody Proofs.Try.f55
noncomputable def c55_1 : Code := kL c55_0
noncomputable def r55_0 : Array Oper := kO c55_1
noncomputable def o55_0_0 : Oper := opN r55_0 0
theorem x55_1 : execA E C (fg 55) B 38 E0 N c55_1 s = regX (runA E C B 38 r55_0 r55_0.toList s) (fun s => gcM E0 [4] (forget s.1 [4], s.2)) := x_reg (ops := r55_0) (by rfl) (by rfl) s
theorem r55_0_l : r55_0.toList = [o55_0_0] := nrfl rfl
theorem s55_0_0 : stepA E C B 38 r55_0 o55_0_0 (φ, H) = some (fput φ 4 (.nilsl), H) := nrfl rfl
noncomputable def c55_2 : Code := kR c55_0
noncomputable def c55_3 : Code := kL c55_2
noncomputable def r55_1 : Array Oper := kO c55_3
noncomputable def o55_1_0 : Oper := opN r55_1 0
noncomputable def o55_1_1 : Oper := opN r55_1 1
noncomputable def o55_1_2 : Oper := opN r55_1 2
theorem x55_3 : execA E C (fg 55) B 38 E0 N c55_3 s = regX (runA E C B 38 r55_1 r55_1.toList s) (fun s => gcM E0 [9, 10] (forget s.1 [9, 10], s.2)) := x_reg (ops := r55_1) (by rfl) (by rfl) s
theorem r55_1_l : r55_1.toList = [o55_1_0, o55_1_1, o55_1_2] := nrfl rfl
theorem s55_1_0 : stepA E C B 38 r55_1 o55_1_0 (φ, H) = stp (some 9) φ H (justO (aBuild E.T 56 (evO E φ) [(0, Operand.const (Value.int .i64 0)), (1, Operand.const (Value.int .i64 1))])) := nrfl rfl
theorem s55_1_1 : stepA E C B 38 r55_1 o55_1_1 (φ, H) = stp (some 10) φ H (aBuildSlice E.T (B + 10) 78 1 (evO E φ) [(0, Operand.tmp 9)]) := nrfl rfl
theorem s55_1_2 : stepA E C B 38 r55_1 o55_1_2 (φ, H) = some (fput φ 5 (fget φ 10), H) := nrfl rfl
noncomputable def c55_4 : Code := kR c55_2
noncomputable def c55_5 : Code := kL c55_4
noncomputable def c55_6 : Code := kL c55_5
noncomputable def r55_2 : Array Oper := kO c55_6
noncomputable def o55_2_0 : Oper := opN r55_2 0
noncomputable def o55_2_1 : Oper := opN r55_2 1
noncomputable def o55_2_2 : Oper := opN r55_2 2
theorem x55_6 : execA E C (fg 55) B 38 E0 N c55_6 s = regX (runA E C B 38 r55_2 r55_2.toList s) (fun s => gcM E0 [] (forget s.1 [], s.2)) := x_reg (ops := r55_2) (by rfl) (by rfl) s
theorem r55_2_l : r55_2.toList = [o55_2_0, o55_2_1, o55_2_2] := nrfl rfl
theorem s55_2_0 : stepA E C B 38 r55_2 o55_2_0 (φ, H) = some (fput φ 11 (fget φ 1), H) := nrfl rfl
theorem s55_2_1 : stepA E C B 38 r55_2 o55_2_1 (φ, H) = stp (some 12) φ H (aBuiltin E.T (B + 12) .len #[36] [(fget φ 11)]) := nrfl rfl
theorem s55_2_2 : stepA E C B 38 r55_2 o55_2_2 (φ, H) = some (fput φ 13 (.int .i64 0), H) := nrfl rfl
noncomputable def c55_7 : Code := kR c55_5
noncomputable def c55_8 : Code := kB c55_7
noncomputable def c55_9 : Code := kB c55_8
noncomputable def c55_10 : Code := kL c55_9
noncomputable def r55_3 : Array Oper := kO c55_10
noncomputable def o55_3_0 : Oper := opN r55_3 0
theorem x55_10 : execA E C (fg 55) B 38 E0 N c55_10 s = regX (runA E C B 38 r55_3 r55_3.toList s) (fun s => gcM E0 [] (forget s.1 [], s.2)) := x_reg (ops := r55_3) (by rfl) (by rfl) s
theorem r55_3_l : r55_3.toList = [o55_3_0] := nrfl rfl
theorem s55_3_0 : stepA E C B 38 r55_3 o55_3_0 (φ, H) = stp (some 14) φ H (just (aBin E.T .lss 3 (fget φ 13) (fget φ 12))) := nrfl rfl
noncomputable def c55_11 : Code := kR c55_9
noncomputable def c55_12 : Code := kL c55_11
noncomputable def c55_13 : Code := kT c55_12
theorem x55_13 : execA E C (fg 55) B 38 E0 N c55_13 s = some (.normal, s) := x_skip (by rfl) s
noncomputable def c55_14 : Code := kE c55_12
theorem x55_14 : execA E C (fg 55) B 38 E0 N c55_14 s = some (.exit 0, s) := x_exit (by rfl) s
theorem x55_12 : execA E C (fg 55) B 38 E0 N c55_12 (φ, H) = condX (fget φ 14) (execA E C (fg 55) B 38 E0 N c55_13 (φ, H)) (execA E C (fg 55) B 38 E0 N c55_14 (φ, H)) := x_cond (by rfl) _
noncomputable def c55_15 : Code := kR c55_11
noncomputable def c55_16 : Code := kL c55_15
noncomputable def c55_17 : Code := kB c55_16
noncomputable def c55_18 : Code := kL c55_17
noncomputable def r55_4 : Array Oper := kO c55_18
noncomputable def o55_4_0 : Oper := opN r55_4 0
noncomputable def o55_4_1 : Oper := opN r55_4 1
noncomputable def o55_4_2 : Oper := opN r55_4 2
noncomputable def o55_4_3 : Oper := opN r55_4 3
noncomputable def o55_4_4 : Oper := opN r55_4 4
theorem x55_18 : execA E C (fg 55) B 38 E0 N c55_18 s = regX (runA E C B 38 r55_4 r55_4.toList s) (fun s => gcM E0 [14, 15, 16, 17] (forget s.1 [14, 15, 16, 17], s.2)) := x_reg (ops := r55_4) (by rfl) (by rfl) s
theorem r55_4_l : r55_4.toList = [o55_4_0, o55_4_1, o55_4_2, o55_4_3, o55_4_4] := nrfl rfl
theorem s55_4_0 : stepA E C B 38 r55_4 o55_4_0 (φ, H) = some (fput φ 15 (fget φ 13), H) := nrfl rfl
theorem s55_4_1 : stepA E C B 38 r55_4 o55_4_1 (φ, H) = stp (some 16) φ H (just (aIndexAddr E.T 36 (fget φ 11) (fget φ 13))) := nrfl rfl
theorem s55_4_2 : stepA E C B 38 r55_4 o55_4_2 (φ, H) = stp (some 17) φ H (just (aLoad E.T 3 (fget φ 16))) := nrfl rfl
theorem s55_4_3 : stepA E C B 38 r55_4 o55_4_3 (φ, H) = some (fput φ 6 (fget φ 15), H) := nrfl rfl
theorem s55_4_4 : stepA E C B 38 r55_4 o55_4_4 (φ, H) = some (fput φ 7 (fget φ 17), H) := nrfl rfl
noncomputable def c55_19 : Code := kR c55_17
noncomputable def c55_20 : Code := kL c55_19
noncomputable def r55_5 : Array Oper := kO c55_20
noncomputable def o55_5_0 : Oper := opN r55_5 0
noncomputable def o55_5_1 : Oper := opN r55_5 1
noncomputable def o55_5_2 : Oper := opN r55_5 2
noncomputable def o55_5_3 : Oper := opN r55_5 3
theorem x55_20 : execA E C (fg 55) B 38 E0 N c55_20 s = regX (runA E C B 38 r55_5 r55_5.toList s) (fun s => gcM E0 [18, 19, 20] (forget s.1 [18, 19, 20], s.2)) := x_reg (ops := r55_5) (by rfl) (by rfl) s
theorem r55_5_l : r55_5.toList = [o55_5_0, o55_5_1, o55_5_2, o55_5_3] := nrfl rfl
theorem s55_5_0 : stepA E C B 38 r55_5 o55_5_0 (φ, H) = some (fput φ 18 (fget φ 1), H) := nrfl rfl
theorem s55_5_1 : stepA E C B 38 r55_5 o55_5_1 (φ, H) = some (fput φ 19 (fget φ 6), H) := nrfl rfl
theorem s55_5_2 : stepA E C B 38 r55_5 o55_5_2 (φ, H) = stp (some 20) φ H (aCall C (fun j => B + j * 38 + 20) true 56 [(fget φ 18), (fget φ 19), (.clo 70 [])]) := nrfl rfl
theorem s55_5_3 : stepA E C B 38 r55_5 o55_5_3 (φ, H) = some (fput φ 8 (fget φ 20), H) := nrfl rfl
noncomputable def c55_21 : Code := kR c55_19
noncomputable def r55_6 : Array Oper := kO c55_21
noncomputable def o55_6_0 : Oper := opN r55_6 0
noncomputable def o55_6_1 : Oper := opN r55_6 1
noncomputable def o55_6_2 : Oper := opN r55_6 2
noncomputable def o55_6_3 : Oper := opN r55_6 3
noncomputable def o55_6_4 : Oper := opN r55_6 4
noncomputable def o55_6_5 : Oper := opN r55_6 5
noncomputable def o55_6_6 : Oper := opN r55_6 6
noncomputable def o55_6_7 : Oper := opN r55_6 7
noncomputable def o55_6_8 : Oper := opN r55_6 8
noncomputable def o55_6_9 : Oper := opN r55_6 9
noncomputable def o55_6_10 : Oper := opN r55_6 10
noncomputable def o55_6_11 : Oper := opN r55_6 11
noncomputable def o55_6_12 : Oper := opN r55_6 12
noncomputable def o55_6_13 : Oper := opN r55_6 13
noncomputable def o55_6_14 : Oper := opN r55_6 14
noncomputable def o55_6_15 : Oper := opN r55_6 15
theorem x55_21 : execA E C (fg 55) B 38 E0 N c55_21 s = regX (drawA E C B 38 r55_6 s) (fun s => gcM E0 [6, 7, 8, 21, 22, 23, 24, 25, 26, 27, 28, 29, 30, 31, 32, 33, 34, 35] (forget s.1 [6, 7, 8, 21, 22, 23, 24, 25, 26, 27, 28, 29, 30, 31, 32, 33, 34, 35], s.2)) := x_draw (ops := r55_6) (by rfl) (by rfl) s
theorem r55_6_l : r55_6.toList = [o55_6_0, o55_6_1, o55_6_2, o55_6_3, o55_6_4, o55_6_5, o55_6_6, o55_6_7, o55_6_8, o55_6_9, o55_6_10, o55_6_11, o55_6_12, o55_6_13, o55_6_14, o55_6_15] := nrfl rfl
theorem r55_6_st : statOk r55_6 = true := by kernel_rfl
theorem r55_6_dr : drawA E C B 38 r55_6 s = if neat 38 s = true then drX r55_6 (runT E C B 38 r55_6 r55_6.toList 0 s) else none := draw_eq r55_6_st s
theorem r55_6_an (l : List (Nat × Tr)) : dynOk r55_6 l = (!writing l || dynPairs [[], [], [], [1, 2], [1, 2, 3], [], [], [5, 6], [5, 6, 7], [], [5, 6, 7, 8, 9], [], [1, 2, 3, 4, 5, 6, 7, 8, 9, 10, 11], [1, 2, 3, 4, 5, 6, 7, 8, 9, 10, 11, 12], [0, 1, 2, 3, 4, 5, 6, 7, 8, 9, 10, 11, 12, 13], [0, 1, 2, 3, 4, 5, 6, 7, 8, 9, 10, 11, 12, 13, 14]] (touching l)) := dynOk_eq (by kernel_rfl) l
theorem s55_6_0 : stepT E C B 38 r55_6 o55_6_0 (φ, H) = some ((fput φ 21 (fget φ 5), H), ⟨false, [], []⟩) := stT_go rfl (goT_mv rfl rfl)
theorem s55_6_1 : stepT E C B 38 r55_6 o55_6_1 (φ, H) = some ((fput φ 22 (fget φ 5), H), ⟨false, [], []⟩) := stT_go rfl (goT_mv rfl rfl)
theorem s55_6_2 : stepT E C B 38 r55_6 o55_6_2 (φ, H) = some ((fput φ 23 (fget φ 6), H), ⟨false, [], []⟩) := stT_go rfl (goT_mv rfl rfl)
theorem s55_6_3 : stepT E C B 38 r55_6 o55_6_3 (φ, H) = stpT (some 24) φ H (just (aIndexAddr E.T 78 (fget φ 22) (fget φ 23))) := stT_go rfl (goT_R rfl rfl)
theorem s55_6_4 : stepT E C B 38 r55_6 o55_6_4 (φ, H) = stpT (some 25) φ H (just (aLoad E.T 56 (fget φ 24))) := stT_go rfl (goT_R rfl rfl)
theorem s55_6_5 : stepT E C B 38 r55_6 o55_6_5 (φ, H) = some ((fput φ 26 (fget φ 0), H), ⟨false, [], []⟩) := stT_go rfl (goT_mv rfl rfl)
theorem s55_6_6 : stepT E C B 38 r55_6 o55_6_6 (φ, H) = some ((fput φ 27 (fget φ 6), H), ⟨false, [], []⟩) := stT_go rfl (goT_mv rfl rfl)
theorem s55_6_7 : stepT E C B 38 r55_6 o55_6_7 (φ, H) = stpT (some 28) φ H (just (aIndexAddr E.T 36 (fget φ 26) (fget φ 27))) := stT_go rfl (goT_R rfl rfl)
theorem s55_6_8 : stepT E C B 38 r55_6 o55_6_8 (φ, H) = stpT (some 29) φ H (just (aLoad E.T 3 (fget φ 28))) := stT_go rfl (goT_R rfl rfl)
theorem s55_6_9 : stepT E C B 38 r55_6 o55_6_9 (φ, H) = some ((fput φ 30 (fget φ 7), H), ⟨false, [], []⟩) := stT_go rfl (goT_mv rfl rfl)
theorem s55_6_10 : stepT E C B 38 r55_6 o55_6_10 (φ, H) = stpT (some 31) φ H (just (aBin E.T .mul 3 (fget φ 29) (fget φ 30))) := stT_go rfl (goT_R rfl rfl)
theorem s55_6_11 : stepT E C B 38 r55_6 o55_6_11 (φ, H) = some ((fput φ 32 (fget φ 8), H), ⟨false, [], []⟩) := stT_go rfl (goT_mv rfl rfl)
theorem s55_6_12 : stepT E C B 38 r55_6 o55_6_12 (φ, H) = stpT (some 33) φ H (aCall C (fun j => B + j * 38 + 33) true 52 [(fget φ 25), (fget φ 31), (fget φ 32)]) := stT_go rfl (goT_R rfl rfl)
theorem s55_6_13 : stepT E C B 38 r55_6 o55_6_13 (φ, H) = stpT (some 34) φ H (aBuildSlice E.T (B + 34) 78 1 (evO E φ) [(0, Operand.tmp 33)]) := stT_go rfl (goT_R rfl rfl)
theorem s55_6_14 : stepT E C B 38 r55_6 o55_6_14 (φ, H) = stpT (some 35) φ H (aBuiltin E.T (B + 35) .append #[78, 78] [(fget φ 21), (fget φ 34)]) := stT_go rfl (goT_R rfl rfl)
theorem s55_6_15 : stepT E C B 38 r55_6 o55_6_15 (φ, H) = some ((fput φ 5 (fget φ 35), H), ⟨false, [], []⟩) := stT_go rfl (goT_mv rfl rfl)
theorem x55_19 : execA E C (fg 55) B 38 E0 N c55_19 s = seqX (execA E C (fg 55) B 38 E0 N c55_20 s) (execA E C (fg 55) B 38 E0 N c55_21) := x_seq (by rfl) s
theorem x55_17 : execA E C (fg 55) B 38 E0 N c55_17 s = seqX (execA E C (fg 55) B 38 E0 N c55_18 s) (execA E C (fg 55) B 38 E0 N c55_19) := x_seq (by rfl) s
theorem x55_16 : execA E C (fg 55) B 38 E0 N c55_16 s = blockX 1 (fun s => (forget s.1 [], s.2)) (execA E C (fg 55) B 38 E0 N c55_17 s) := x_block (by rfl) (by rfl) s
noncomputable def c55_22 : Code := kR c55_15
noncomputable def r55_7 : Array Oper := kO c55_22
noncomputable def o55_7_0 : Oper := opN r55_7 0
noncomputable def o55_7_1 : Oper := opN r55_7 1
theorem x55_22 : execA E C (fg 55) B 38 E0 N c55_22 s = regX (runA E C B 38 r55_7 r55_7.toList s) (fun s => gcM E0 [36] (forget s.1 [36], s.2)) := x_reg (ops := r55_7) (by rfl) (by rfl) s
theorem r55_7_l : r55_7.toList = [o55_7_0, o55_7_1] := nrfl rfl
theorem s55_7_0 : stepA E C B 38 r55_7 o55_7_0 (φ, H) = stp (some 36) φ H (just (aBin E.T .add 3 (fget φ 13) (.int .i64 1))) := nrfl rfl
theorem s55_7_1 : stepA E C B 38 r55_7 o55_7_1 (φ, H) = some (fput φ 13 (fget φ 36), H) := nrfl rfl
theorem x55_15 : execA E C (fg 55) B 38 E0 N c55_15 s = seqX (execA E C (fg 55) B 38 E0 N c55_16 s) (execA E C (fg 55) B 38 E0 N c55_22) := x_seq (by rfl) s
theorem x55_11 : execA E C (fg 55) B 38 E0 N c55_11 s = seqX (execA E C (fg 55) B 38 E0 N c55_12 s) (execA E C (fg 55) B 38 E0 N c55_15) := x_seq (by rfl) s
theorem x55_9 : execA E C (fg 55) B 38 E0 N c55_9 s = seqX (execA E C (fg 55) B 38 E0 N c55_10 s) (execA E C (fg 55) B 38 E0 N c55_11) := x_seq (by rfl) s
-- a loop of f55: x55_8; body c55_9; slots [13, 12, 11, 5, 1, 0]
theorem x55_8 : execA E C (fg 55) B 38 E0 N c55_8 s = iterA (execA E C (fg 55) B 38 E0 N c55_9) (headA E0) N s := x_loop (by rfl) s
theorem x55_7 : execA E C (fg 55) B 38 E0 N c55_7 s = blockX 0 (fun s => (forget s.1 [0, 1, 11, 12, 13, 14], s.2)) (execA E C (fg 55) B 38 E0 N c55_8 s) := x_block (by rfl) (by rfl) s
theorem x55_5 : execA E C (fg 55) B 38 E0 N c55_5 s = seqX (execA E C (fg 55) B 38 E0 N c55_6 s) (execA E C (fg 55) B 38 E0 N c55_7) := x_seq (by rfl) s
noncomputable def c55_23 : Code := kR c55_4
noncomputable def c55_24 : Code := kL c55_23
noncomputable def r55_8 : Array Oper := kO c55_24
noncomputable def o55_8_0 : Oper := opN r55_8 0
noncomputable def o55_8_1 : Oper := opN r55_8 1
theorem x55_24 : execA E C (fg 55) B 38 E0 N c55_24 s = regX (runA E C B 38 r55_8 r55_8.toList s) (fun s => gcM E0 [5, 37] (forget s.1 [5, 37], s.2)) := x_reg (ops := r55_8) (by rfl) (by rfl) s
theorem r55_8_l : r55_8.toList = [o55_8_0, o55_8_1] := nrfl rfl
theorem s55_8_0 : stepA E C B 38 r55_8 o55_8_0 (φ, H) = some (fput φ 37 (fget φ 5), H) := nrfl rfl
theorem s55_8_1 : stepA E C B 38 r55_8 o55_8_1 (φ, H) = some (fput φ 4 (fget φ 37), H) := nrfl rfl
noncomputable def c55_25 : Code := kR c55_23
theorem x55_25 : execA E C (fg 55) B 38 E0 N c55_25 s = some (.ret, s) := x_ret (by rfl) s
theorem x55_23 : execA E C (fg 55) B 38 E0 N c55_23 s = seqX (execA E C (fg 55) B 38 E0 N c55_24 s) (execA E C (fg 55) B 38 E0 N c55_25) := x_seq (by rfl) s
theorem x55_4 : execA E C (fg 55) B 38 E0 N c55_4 s = seqX (execA E C (fg 55) B 38 E0 N c55_5 s) (execA E C (fg 55) B 38 E0 N c55_23) := x_seq (by rfl) s
theorem x55_2 : execA E C (fg 55) B 38 E0 N c55_2 s = seqX (execA E C (fg 55) B 38 E0 N c55_3 s) (execA E C (fg 55) B 38 E0 N c55_4) := x_seq (by rfl) s
theorem x55_0 : execA E C (fg 55) B 38 E0 N c55_0 s = seqX (execA E C (fg 55) B 38 E0 N c55_1 s) (execA E C (fg 55) B 38 E0 N c55_2) := x_seq (by rfl) s
theorem fi_55 : fInfo E 55 = some ⟨38, #[.tmp 4], c55_0⟩ := nrfl rfl
theorem b_55 (args : List AV) : bodyA E C fg N 55 args H B = bodyX E [.tmp 4] (execA E C (fg 55) B 38 H N c55_0 (frame0 args 0 [], H)) := bodyA_eq fi_55 args H
/-! ### f70: novaculite/prop.placed$1 -/
noncomputable def c70_0 : Code := kBody Proofs.Try.f70
noncomputable def c70_1 : Code := kL c70_0
noncomputable def r70_0 : Array Oper := kO c70_1
noncomputable def o70_0_0 : Oper := opN r70_0 0
theorem x70_1 : execA E C (fg 70) B 6 E0 N c70_1 s = regX (runA E C B 6 r70_0 r70_0.toList s) (fun s => gcM E0 [0, 4] (forget s.1 [0, 4], s.2)) := x_reg (ops := r70_0) (by rfl) (by rfl) s
theorem r70_0_l : r70_0.toList = [o70_0_0] := nrfl rfl
theorem s70_0_0 : stepA E C B 6 r70_0 o70_0_0 (φ, H) = some (fput φ 4 (.int .i64 0), H) := nrfl rfl
noncomputable def c70_2 : Code := kR c70_0
noncomputable def c70_3 : Code := kL c70_2
noncomputable def r70_1 : Array Oper := kO c70_3
noncomputable def o70_1_0 : Oper := opN r70_1 0
noncomputable def o70_1_1 : Oper := opN r70_1 1
theorem x70_3 : execA E C (fg 70) B 6 E0 N c70_3 s = regX (runA E C B 6 r70_1 r70_1.toList s) (fun s => gcM E0 [1, 5] (forget s.1 [1, 5], s.2)) := x_reg (ops := r70_1) (by rfl) (by rfl) s
theorem r70_1_l : r70_1.toList = [o70_1_0, o70_1_1] := nrfl rfl
theorem s70_1_0 : stepA E C B 6 r70_1 o70_1_0 (φ, H) = some (fput φ 5 (fget φ 1), H) := nrfl rfl
theorem s70_1_1 : stepA E C B 6 r70_1 o70_1_1 (φ, H) = some (fput φ 4 (fget φ 5), H) := nrfl rfl
noncomputable def c70_4 : Code := kR c70_2
theorem x70_4 : execA E C (fg 70) B 6 E0 N c70_4 s = some (.ret, s) := x_ret (by rfl) s
theorem x70_2 : execA E C (fg 70) B 6 E0 N c70_2 s = seqX (execA E C (fg 70) B 6 E0 N c70_3 s) (execA E C (fg 70) B 6 E0 N c70_4) := x_seq (by rfl) s
theorem x70_0 : execA E C (fg 70) B 6 E0 N c70_0 s = seqX (execA E C (fg 70) B 6 E0 N c70_1 s) (execA E C (fg 70) B 6 E0 N c70_2) := x_seq (by rfl) s
theorem fi_70 : fInfo E 70 = some ⟨6, #[.tmp 4], c70_0⟩ := nrfl rfl
theorem b_70 (args : List AV) : bodyA E C fg N 70 args H B = bodyX E [.tmp 4] (execA E C (fg 70) B 6 H N c70_0 (frame0 args 0 [], H)) := bodyA_eq fi_70 args H
/-! ### f29: novaculite/prop.Farthest -/
noncomputable def c29_0 : Code := kBody Proofs.Try.f29
noncomputable def c29_1 : Code := kL c29_0
noncomputable def r29_0 : Array Oper := kO c29_1
noncomputable def o29_0_0 : Oper := opN r29_0 0
noncomputable def o29_0_1 : Oper := opN r29_0 1
theorem x29_1 : execA E C (fg 29) B 57 E0 N c29_1 s = regX (runA E C B 57 r29_0 r29_0.toList s) (fun s => gcM E0 [7] (forget s.1 [7], s.2)) := x_reg (ops := r29_0) (by rfl) (by rfl) s
theorem r29_0_l : r29_0.toList = [o29_0_0, o29_0_1] := nrfl rfl
theorem s29_0_0 : stepA E C B 57 r29_0 o29_0_0 (φ, H) = stp (some 6) φ H (opBox (B + 6) (zeroCells E.T 56)) := nrfl rfl
theorem s29_0_1 : stepA E C B 57 r29_0 o29_0_1 (φ, H) = some (fput φ 7 (.int .i64 0), H) := nrfl rfl
noncomputable def c29_2 : Code := kR c29_0
noncomputable def c29_3 : Code := kL c29_2
noncomputable def r29_1 : Array Oper := kO c29_3
noncomputable def o29_1_0 : Oper := opN r29_1 0
noncomputable def o29_1_1 : Oper := opN r29_1 1
noncomputable def o29_1_2 : Oper := opN r29_1 2
noncomputable def o29_1_3 : Oper := opN r29_1 3
theorem x29_3 : execA E C (fg 29) B 57 E0 N c29_3 s = regX (runA E C B 57 r29_1 r29_1.toList s) (fun s => gcM E0 [11, 12, 13] (forget s.1 [11, 12, 13], s.2)) := x_reg (ops := r29_1) (by rfl) (by rfl) s
theorem r29_1_l : r29_1.toList = [o29_1_0, o29_1_1, o29_1_2, o29_1_3] := nrfl rfl
theorem s29_1_0 : stepA E C B 57 r29_1 o29_1_0 (φ, H) = some (fput φ 11 (fget φ 0), H) := nrfl rfl
theorem s29_1_1 : stepA E C B 57 r29_1 o29_1_1 (φ, H) = some (fput φ 12 (fget φ 1), H) := nrfl rfl
theorem s29_1_2 : stepA E C B 57 r29_1 o29_1_2 (φ, H) = stp (some 13) φ H (aCall C (fun j => B + j * 57 + 13) true 54 [(fget φ 11), (fget φ 12)]) := nrfl rfl
theorem s29_1_3 : stepA E C B 57 r29_1 o29_1_3 (φ, H) = some (fput φ 8 (fget φ 13), H) := nrfl rfl
noncomputable def c29_4 : Code := kR c29_2
noncomputable def c29_5 : Code := kL c29_4
noncomputable def c29_6 : Code := kB c29_5
noncomputable def c29_7 : Code := kL c29_6
noncomputable def r29_2 : Array Oper := kO c29_7
noncomputable def o29_2_0 : Oper := opN r29_2 0
noncomputable def o29_2_1 : Oper := opN r29_2 1
noncomputable def o29_2_2 : Oper := opN r29_2 2
theorem x29_7 : execA E C (fg 29) B 57 E0 N c29_7 s = regX (runA E C B 57 r29_2 r29_2.toList s) (fun s => gcM E0 [15, 16] (forget s.1 [15, 16], s.2)) := x_reg (ops := r29_2) (by rfl) (by rfl) s
theorem r29_2_l : r29_2.toList = [o29_2_0, o29_2_1, o29_2_2] := nrfl rfl
theorem s29_2_0 : stepA E C B 57 r29_2 o29_2_0 (φ, H) = some (fput φ 15 (fget φ 8), H) := nrfl rfl
theorem s29_2_1 : stepA E C B 57 r29_2 o29_2_1 (φ, H) = stp (some 16) φ H (just (aBin E.T .neq 30 (fget φ 15) (.int .i64 0))) := nrfl rfl
theorem s29_2_2 : stepA E C B 57 r29_2 o29_2_2 (φ, H) = some (fput φ 14 (fget φ 16), H) := nrfl rfl
noncomputable def c29_8 : Code := kR c29_6
noncomputable def c29_9 : Code := kT c29_8
noncomputable def c29_10 : Code := kL c29_9
noncomputable def r29_3 : Array Oper := kO c29_10
noncomputable def o29_3_0 : Oper := opN r29_3 0
noncomputable def o29_3_1 : Oper := opN r29_3 1
noncomputable def o29_3_2 : Oper := opN r29_3 2
noncomputable def o29_3_3 : Oper := opN r29_3 3
theorem x29_10 : execA E C (fg 29) B 57 E0 N c29_10 s = regX (runA E C B 57 r29_3 r29_3.toList s) (fun s => gcM E0 [0, 1, 2, 8, 14, 17, 18] (forget s.1 [0, 1, 2, 8, 14, 17, 18], s.2)) := x_reg (ops := r29_3) (by rfl) (by rfl) s
theorem r29_3_l : r29_3.toList = [o29_3_0, o29_3_1, o29_3_2, o29_3_3] := nrfl rfl
theorem s29_3_0 : stepA E C B 57 r29_3 o29_3_0 (φ, H) = stp (some 17) φ H (justO (aBuild E.T 56 (evO E φ) [])) := nrfl rfl
theorem s29_3_1 : stepA E C B 57 r29_3 o29_3_1 (φ, H) = some (fput φ 18 (fget φ 8), H) := nrfl rfl
theorem s29_3_2 : stepA E C B 57 r29_3 o29_3_2 (φ, H) = stp none φ H (opStore E.T 56 (fget φ 6) (fget φ 17)) := nrfl rfl
theorem s29_3_3 : stepA E C B 57 r29_3 o29_3_3 (φ, H) = some (fput φ 7 (fget φ 18), H) := nrfl rfl
noncomputable def c29_11 : Code := kR c29_9
theorem x29_11 : execA E C (fg 29) B 57 E0 N c29_11 s = some (.ret, s) := x_ret (by rfl) s
theorem x29_9 : execA E C (fg 29) B 57 E0 N c29_9 s = seqX (execA E C (fg 29) B 57 E0 N c29_10 s) (execA E C (fg 29) B 57 E0 N c29_11) := x_seq (by rfl) s
noncomputable def c29_12 : Code := kE c29_8
noncomputable def c29_13 : Code := kL c29_12
noncomputable def r29_4 : Array Oper := kO c29_13
noncomputable def o29_4_0 : Oper := opN r29_4 0
noncomputable def o29_4_1 : Oper := opN r29_4 1
noncomputable def o29_4_2 : Oper := opN r29_4 2
noncomputable def o29_4_3 : Oper := opN r29_4 3
noncomputable def o29_4_4 : Oper := opN r29_4 4
noncomputable def o29_4_5 : Oper := opN r29_4 5
noncomputable def o29_4_6 : Oper := opN r29_4 6
noncomputable def o29_4_7 : Oper := opN r29_4 7
noncomputable def o29_4_8 : Oper := opN r29_4 8
theorem x29_13 : execA E C (fg 29) B 57 E0 N c29_13 s = regX (runA E C B 57 r29_4 r29_4.toList s) (fun s => gcM E0 [8, 14, 20, 21, 22, 23, 24, 25, 26, 27] (forget s.1 [8, 14, 20, 21, 22, 23, 24, 25, 26, 27], s.2)) := x_reg (ops := r29_4) (by rfl) (by rfl) s
theorem r29_4_l : r29_4.toList = [o29_4_0, o29_4_1, o29_4_2, o29_4_3, o29_4_4, o29_4_5, o29_4_6, o29_4_7, o29_4_8] := nrfl rfl
theorem s29_4_0 : stepA E C B 57 r29_4 o29_4_0 (φ, H) = some (fput φ 20 (fget φ 2), H) := nrfl rfl
theorem s29_4_1 : stepA E C B 57 r29_4 o29_4_1 (φ, H) = stp (some 21) φ H (just (aBin E.T .lss 3 (fget φ 20) (.int .i64 0))) := nrfl rfl
theorem s29_4_2 : stepA E C B 57 r29_4 o29_4_2 (φ, H) = some (fput φ 22 (fget φ 21), H) := nrfl rfl
theorem s29_4_3 : stepA E C B 57 r29_4 o29_4_3 (φ, H) = gd φ 22 false (fun φ => some (fput φ 23 (.tup []), H)) (fun φ => some (fput φ 23 (fget φ 2), H)) := s_gd (j := 2) (oj := o29_4_2) rfl rfl rfl (fun _ => rfl) (fun _ => rfl)
theorem s29_4_4 : stepA E C B 57 r29_4 o29_4_4 (φ, H) = gd φ 22 false (fun φ => some (fput φ 24 (.tup []), H)) (fun φ => some (fput φ 24 (fget φ 0), H)) := s_gd (j := 2) (oj := o29_4_2) rfl rfl rfl (fun _ => rfl) (fun _ => rfl)
theorem s29_4_5 : stepA E C B 57 r29_4 o29_4_5 (φ, H) = gd φ 22 false (fun φ => some (fput φ 25 (.tup []), H)) (fun φ => stp (some 25) φ H (aBuiltin E.T (B + 25) .len #[36] [(fget φ 24)])) := s_gd (j := 2) (oj := o29_4_2) rfl rfl rfl (fun _ => rfl) (fun _ => rfl)
theorem s29_4_6 : stepA E C B 57 r29_4 o29_4_6 (φ, H) = gd φ 22 false (fun φ => some (fput φ 26 (.tup []), H)) (fun φ => stp (some 26) φ H (just (aBin E.T .geq 3 (fget φ 23) (fget φ 25)))) := s_gd (j := 2) (oj := o29_4_2) rfl rfl rfl (fun _ => rfl) (fun _ => rfl)
theorem s29_4_7 : stepA E C B 57 r29_4 o29_4_7 (φ, H) = stp (some 27) φ H (opPick (fget φ 22) (.bool true) (fget φ 26)) := nrfl rfl
theorem s29_4_8 : stepA E C B 57 r29_4 o29_4_8 (φ, H) = some (fput φ 19 (fget φ 27), H) := nrfl rfl
noncomputable def c29_14 : Code := kR c29_12
noncomputable def c29_15 : Code := kT c29_14
noncomputable def c29_16 : Code := kL c29_15
noncomputable def r29_5 : Array Oper := kO c29_16
noncomputable def o29_5_0 : Oper := opN r29_5 0
noncomputable def o29_5_1 : Oper := opN r29_5 1
noncomputable def o29_5_2 : Oper := opN r29_5 2
theorem x29_16 : execA E C (fg 29) B 57 E0 N c29_16 s = regX (runA E C B 57 r29_5 r29_5.toList s) (fun s => gcM E0 [0, 1, 2, 19, 28] (forget s.1 [0, 1, 2, 19, 28], s.2)) := x_reg (ops := r29_5) (by rfl) (by rfl) s
theorem r29_5_l : r29_5.toList = [o29_5_0, o29_5_1, o29_5_2] := nrfl rfl
theorem s29_5_0 : stepA E C B 57 r29_5 o29_5_0 (φ, H) = stp (some 28) φ H (justO (aBuild E.T 56 (evO E φ) [])) := nrfl rfl
theorem s29_5_1 : stepA E C B 57 r29_5 o29_5_1 (φ, H) = stp none φ H (opStore E.T 56 (fget φ 6) (fget φ 28)) := nrfl rfl
theorem s29_5_2 : stepA E C B 57 r29_5 o29_5_2 (φ, H) = some (fput φ 7 (.int .i64 2), H) := nrfl rfl
noncomputable def c29_17 : Code := kR c29_15
theorem x29_17 : execA E C (fg 29) B 57 E0 N c29_17 s = some (.ret, s) := x_ret (by rfl) s
theorem x29_15 : execA E C (fg 29) B 57 E0 N c29_15 s = seqX (execA E C (fg 29) B 57 E0 N c29_16 s) (execA E C (fg 29) B 57 E0 N c29_17) := x_seq (by rfl) s
noncomputable def c29_18 : Code := kE c29_14
theorem x29_18 : execA E C (fg 29) B 57 E0 N c29_18 s = some (.normal, s) := x_skip (by rfl) s
theorem x29_14 : execA E C (fg 29) B 57 E0 N c29_14 (φ, H) = condX (fget φ 19) (execA E C (fg 29) B 57 E0 N c29_15 (φ, H)) (execA E C (fg 29) B 57 E0 N c29_18 (φ, H)) := x_cond (by rfl) _
theorem x29_12 : execA E C (fg 29) B 57 E0 N c29_12 s = seqX (execA E C (fg 29) B 57 E0 N c29_13 s) (execA E C (fg 29) B 57 E0 N c29_14) := x_seq (by rfl) s
theorem x29_8 : execA E C (fg 29) B 57 E0 N c29_8 (φ, H) = condX (fget φ 14) (execA E C (fg 29) B 57 E0 N c29_9 (φ, H)) (execA E C (fg 29) B 57 E0 N c29_12 (φ, H)) := x_cond (by rfl) _
theorem x29_6 : execA E C (fg 29) B 57 E0 N c29_6 s = seqX (execA E C (fg 29) B 57 E0 N c29_7 s) (execA E C (fg 29) B 57 E0 N c29_8) := x_seq (by rfl) s
theorem x29_5 : execA E C (fg 29) B 57 E0 N c29_5 s = blockX 0 (fun s => (forget s.1 [19], s.2)) (execA E C (fg 29) B 57 E0 N c29_6 s) := x_block (by rfl) (by rfl) s
noncomputable def c29_19 : Code := kR c29_4
noncomputable def c29_20 : Code := kL c29_19
noncomputable def r29_6 : Array Oper := kO c29_20
noncomputable def o29_6_0 : Oper := opN r29_6 0
noncomputable def o29_6_1 : Oper := opN r29_6 1
noncomputable def o29_6_2 : Oper := opN r29_6 2
noncomputable def o29_6_3 : Oper := opN r29_6 3
noncomputable def o29_6_4 : Oper := opN r29_6 4
noncomputable def o29_6_5 : Oper := opN r29_6 5
noncomputable def o29_6_6 : Oper := opN r29_6 6
noncomputable def o29_6_7 : Oper := opN r29_6 7
theorem x29_20 : execA E C (fg 29) B 57 E0 N c29_20 s = regX (runA E C B 57 r29_6 r29_6.toList s) (fun s => gcM E0 [29, 30, 31, 32, 33, 34] (forget s.1 [29, 30, 31, 32, 33, 34], s.2)) := x_reg (ops := r29_6) (by rfl) (by rfl) s
theorem r29_6_l : r29_6.toList = [o29_6_0, o29_6_1, o29_6_2, o29_6_3, o29_6_4, o29_6_5, o29_6_6, o29_6_7] := nrfl rfl
theorem s29_6_0 : stepA E C B 57 r29_6 o29_6_0 (φ, H) = some (fput φ 29 (fget φ 0), H) := nrfl rfl
theorem s29_6_1 : stepA E C B 57 r29_6 o29_6_1 (φ, H) = some (fput φ 30 (fget φ 1), H) := nrfl rfl
theorem s29_6_2 : stepA E C B 57 r29_6 o29_6_2 (φ, H) = stp (some 31) φ H (aCall C (fun j => B + j * 57 + 31) true 55 [(fget φ 29), (fget φ 30)]) := nrfl rfl
theorem s29_6_3 : stepA E C B 57 r29_6 o29_6_3 (φ, H) = some (fput φ 32 (fget φ 2), H) := nrfl rfl
theorem s29_6_4 : stepA E C B 57 r29_6 o29_6_4 (φ, H) = stp (some 33) φ H (just (aIndexAddr E.T 78 (fget φ 31) (fget φ 32))) := nrfl rfl
theorem s29_6_5 : stepA E C B 57 r29_6 o29_6_5 (φ, H) = stp (some 34) φ H (just (aLoad E.T 56 (fget φ 33))) := nrfl rfl
theorem s29_6_6 : stepA E C B 57 r29_6 o29_6_6 (φ, H) = stp (some 9) φ H (opBox (B + 9) (zeroCells E.T 56)) := nrfl rfl
theorem s29_6_7 : stepA E C B 57 r29_6 o29_6_7 (φ, H) = stp none φ H (opStore E.T 56 (fget φ 9) (fget φ 34)) := nrfl rfl
noncomputable def c29_21 : Code := kR c29_19
noncomputable def c29_22 : Code := kL c29_21
noncomputable def r29_7 : Array Oper := kO c29_22
noncomputable def o29_7_0 : Oper := opN r29_7 0
noncomputable def o29_7_1 : Oper := opN r29_7 1
noncomputable def o29_7_2 : Oper := opN r29_7 2
noncomputable def o29_7_3 : Oper := opN r29_7 3
theorem x29_22 : execA E C (fg 29) B 57 E0 N c29_22 s = regX (runA E C B 57 r29_7 r29_7.toList s) (fun s => gcM E0 [35, 36, 37] (forget s.1 [35, 36, 37], s.2)) := x_reg (ops := r29_7) (by rfl) (by rfl) s
theorem r29_7_l : r29_7.toList = [o29_7_0, o29_7_1, o29_7_2, o29_7_3] := nrfl rfl
theorem s29_7_0 : stepA E C B 57 r29_7 o29_7_0 (φ, H) = some (fput φ 35 (fget φ 1), H) := nrfl rfl
theorem s29_7_1 : stepA E C B 57 r29_7 o29_7_1 (φ, H) = some (fput φ 36 (fget φ 2), H) := nrfl rfl
theorem s29_7_2 : stepA E C B 57 r29_7 o29_7_2 (φ, H) = stp (some 37) φ H (aCall C (fun j => B + j * 57 + 37) true 56 [(fget φ 35), (fget φ 36), (.clo 57 [])]) := nrfl rfl
theorem s29_7_3 : stepA E C B 57 r29_7 o29_7_3 (φ, H) = some (fput φ 10 (fget φ 37), H) := nrfl rfl
noncomputable def c29_23 : Code := kR c29_21
noncomputable def c29_24 : Code := kL c29_23
noncomputable def r29_8 : Array Oper := kO c29_24
noncomputable def o29_8_0 : Oper := opN r29_8 0
noncomputable def o29_8_1 : Oper := opN r29_8 1
noncomputable def o29_8_2 : Oper := opN r29_8 2
noncomputable def o29_8_3 : Oper := opN r29_8 3
noncomputable def o29_8_4 : Oper := opN r29_8 4
noncomputable def o29_8_5 : Oper := opN r29_8 5
noncomputable def o29_8_6 : Oper := opN r29_8 6
noncomputable def o29_8_7 : Oper := opN r29_8 7
noncomputable def o29_8_8 : Oper := opN r29_8 8
noncomputable def o29_8_9 : Oper := opN r29_8 9
noncomputable def o29_8_10 : Oper := opN r29_8 10
noncomputable def o29_8_11 : Oper := opN r29_8 11
noncomputable def o29_8_12 : Oper := opN r29_8 12
noncomputable def o29_8_13 : Oper := opN r29_8 13
noncomputable def o29_8_14 : Oper := opN r29_8 14
noncomputable def o29_8_15 : Oper := opN r29_8 15
noncomputable def o29_8_16 : Oper := opN r29_8 16
noncomputable def o29_8_17 : Oper := opN r29_8 17
noncomputable def o29_8_18 : Oper := opN r29_8 18
noncomputable def o29_8_19 : Oper := opN r29_8 19
noncomputable def o29_8_20 : Oper := opN r29_8 20
theorem x29_24 : execA E C (fg 29) B 57 E0 N c29_24 s = regX (drawA E C B 57 r29_8 s) (fun s => gcM E0 [0, 1, 2, 9, 10, 38, 39, 40, 41, 42, 43, 44, 45, 46, 47, 48, 49, 50, 51, 52, 53, 54, 55, 56] (forget s.1 [0, 1, 2, 9, 10, 38, 39, 40, 41, 42, 43, 44, 45, 46, 47, 48, 49, 50, 51, 52, 53, 54, 55, 56], s.2)) := x_draw (ops := r29_8) (by rfl) (by rfl) s
theorem r29_8_l : r29_8.toList = [o29_8_0, o29_8_1, o29_8_2, o29_8_3, o29_8_4, o29_8_5, o29_8_6, o29_8_7, o29_8_8, o29_8_9, o29_8_10, o29_8_11, o29_8_12, o29_8_13, o29_8_14, o29_8_15, o29_8_16, o29_8_17, o29_8_18, o29_8_19, o29_8_20] := nrfl rfl
theorem r29_8_st : statOk r29_8 = true := by kernel_rfl
theorem r29_8_dr : drawA E C B 57 r29_8 s = if neat 57 s = true then drX r29_8 (runT E C B 57 r29_8 r29_8.toList 0 s) else none := draw_eq r29_8_st s
theorem r29_8_an (l : List (Nat × Tr)) : dynOk r29_8 l = (!writing l || dynPairs [[], [], [], [], [2, 3], [2, 3, 4], [1, 2, 3, 4, 5], [], [], [7, 8], [7, 8, 9], [1, 2, 3, 4, 5, 6, 7, 8, 9, 10], [], [0, 1, 2, 3, 4, 5, 6, 7, 8, 9, 10, 11, 12], [], [], [14, 15], [14, 15, 16], [0, 1, 2, 3, 4, 5, 6, 7, 8, 9, 10, 11, 12, 13, 14, 15, 16, 17], [0, 1, 2, 3, 4, 5, 6, 7, 8, 9, 10, 11, 12, 13, 14, 15, 16, 17, 18], [0, 1, 2, 3, 4, 5, 6, 7, 8, 9, 10, 11, 12, 13, 14, 15, 16, 17, 18, 19]] (touching l)) := dynOk_eq (by kernel_rfl) l
theorem s29_8_0 : stepT E C B 57 r29_8 o29_8_0 (φ, H) = stpT (some 38) φ H (just (aLoad E.T 56 (fget φ 9))) := stT_go rfl (goT_R rfl rfl)
theorem s29_8_1 : stepT E C B 57 r29_8 o29_8_1 (φ, H) = some ((fput φ 39 (fget φ 10), H), ⟨false, [], []⟩) := stT_go rfl (goT_mv rfl rfl)
theorem s29_8_2 : stepT E C B 57 r29_8 o29_8_2 (φ, H) = some ((fput φ 40 (fget φ 1), H), ⟨false, [], []⟩) := stT_go rfl (goT_mv rfl rfl)
theorem s29_8_3 : stepT E C B 57 r29_8 o29_8_3 (φ, H) = some ((fput φ 41 (fget φ 2), H), ⟨false, [], []⟩) := stT_go rfl (goT_mv rfl rfl)
theorem s29_8_4 : stepT E C B 57 r29_8 o29_8_4 (φ, H) = stpT (some 42) φ H (just (aIndexAddr E.T 36 (fget φ 40) (fget φ 41))) := stT_go rfl (goT_R rfl rfl)
theorem s29_8_5 : stepT E C B 57 r29_8 o29_8_5 (φ, H) = stpT (some 43) φ H (just (aLoad E.T 3 (fget φ 42))) := stT_go rfl (goT_R rfl rfl)
theorem s29_8_6 : stepT E C B 57 r29_8 o29_8_6 (φ, H) = stpT (some 44) φ H (just (aBin E.T .sub 3 (fget φ 39) (fget φ 43))) := stT_go rfl (goT_R rfl rfl)
theorem s29_8_7 : stepT E C B 57 r29_8 o29_8_7 (φ, H) = some ((fput φ 45 (fget φ 0), H), ⟨false, [], []⟩) := stT_go rfl (goT_mv rfl rfl)
theorem s29_8_8 : stepT E C B 57 r29_8 o29_8_8 (φ, H) = some ((fput φ 46 (fget φ 2), H), ⟨false, [], []⟩) := stT_go rfl (goT_mv rfl rfl)
theorem s29_8_9 : stepT E C B 57 r29_8 o29_8_9 (φ, H) = stpT (some 47) φ H (just (aIndexAddr E.T 36 (fget φ 45) (fget φ 46))) := stT_go rfl (goT_R rfl rfl)
theorem s29_8_10 : stepT E C B 57 r29_8 o29_8_10 (φ, H) = stpT (some 48) φ H (just (aLoad E.T 3 (fget φ 47))) := stT_go rfl (goT_R rfl rfl)
theorem s29_8_11 : stepT E C B 57 r29_8 o29_8_11 (φ, H) = stpT (some 49) φ H (just (aBin E.T .mul 3 (fget φ 44) (fget φ 48))) := stT_go rfl (goT_R rfl rfl)
theorem s29_8_12 : stepT E C B 57 r29_8 o29_8_12 (φ, H) = some ((fput φ 50 (fget φ 10), H), ⟨false, [], []⟩) := stT_go rfl (goT_mv rfl rfl)
theorem s29_8_13 : stepT E C B 57 r29_8 o29_8_13 (φ, H) = stpT (some 51) φ H (aCall C (fun j => B + j * 57 + 51) true 52 [(fget φ 38), (fget φ 49), (fget φ 50)]) := stT_go rfl (goT_R rfl rfl)
theorem s29_8_14 : stepT E C B 57 r29_8 o29_8_14 (φ, H) = some ((fput φ 52 (fget φ 0), H), ⟨false, [], []⟩) := stT_go rfl (goT_mv rfl rfl)
theorem s29_8_15 : stepT E C B 57 r29_8 o29_8_15 (φ, H) = some ((fput φ 53 (fget φ 2), H), ⟨false, [], []⟩) := stT_go rfl (goT_mv rfl rfl)
theorem s29_8_16 : stepT E C B 57 r29_8 o29_8_16 (φ, H) = stpT (some 54) φ H (just (aIndexAddr E.T 36 (fget φ 52) (fget φ 53))) := stT_go rfl (goT_R rfl rfl)
theorem s29_8_17 : stepT E C B 57 r29_8 o29_8_17 (φ, H) = stpT (some 55) φ H (just (aLoad E.T 3 (fget φ 54))) := stT_go rfl (goT_R rfl rfl)
theorem s29_8_18 : stepT E C B 57 r29_8 o29_8_18 (φ, H) = stpT (some 56) φ H (aCall C (fun j => B + j * 57 + 56) true 52 [(fget φ 51), (fget φ 55), (.int .i64 1)]) := stT_go rfl (goT_R rfl rfl)
theorem s29_8_19 : stepT E C B 57 r29_8 o29_8_19 (φ, H) = stpT none φ H (opStore E.T 56 (fget φ 6) (fget φ 56)) := stT_go rfl (goT_R rfl rfl)
theorem s29_8_20 : stepT E C B 57 r29_8 o29_8_20 (φ, H) = some ((fput φ 7 (.int .i64 0), H), ⟨false, [], []⟩) := stT_go rfl (goT_mv rfl rfl)
noncomputable def c29_25 : Code := kR c29_23
theorem x29_25 : execA E C (fg 29) B 57 E0 N c29_25 s = some (.ret, s) := x_ret (by rfl) s
theorem x29_23 : execA E C (fg 29) B 57 E0 N c29_23 s = seqX (execA E C (fg 29) B 57 E0 N c29_24 s) (execA E C (fg 29) B 57 E0 N c29_25) := x_seq (by rfl) s
theorem x29_21 : execA E C (fg 29) B 57 E0 N c29_21 s = seqX (execA E C (fg 29) B 57 E0 N c29_22 s) (execA E C (fg 29) B 57 E0 N c29_23) := x_seq (by rfl) s
theorem x29_19 : execA E C (fg 29) B 57 E0 N c29_19 s = seqX (execA E C (fg 29) B 57 E0 N c29_20 s) (execA E C (fg 29) B 57 E0 N c29_21) := x_seq (by rfl) s
theorem x29_4 : execA E C (fg 29) B 57 E0 N c29_4 s = seqX (execA E C (fg 29) B 57 E0 N c29_5 s) (execA E C (fg 29) B 57 E0 N c29_19) := x_seq (by rfl) s
theorem x29_2 : execA E C (fg 29) B 57 E0 N c29_2 s = seqX (execA E C (fg 29) B 57 E0 N c29_3 s) (execA E C (fg 29) B 57 E0 N c29_4) := x_seq (by rfl) s
theorem x29_0 : execA E C (fg 29) B 57 E0 N c29_0 s = seqX (execA E C (fg 29) B 57 E0 N c29_1 s) (execA E C (fg 29) B 57 E0 N c29_2) := x_seq (by rfl) s
theorem fi_29 : fInfo E 29 = some ⟨57, #[.cell 6 56, .tmp 7], c29_0⟩ := nrfl rfl
theorem b_29 (args : List AV) : bodyA E C fg N 29 args H B = bodyX E [.cell 6 56, .tmp 7] (execA E C (fg 29) B 57 H N c29_0 (frame0 args 0 [], H)) := bodyA_eq fi_29 args H
/-! ### f57: novaculite/prop.Farthest$1 -/
noncomputable def c57_0 : Code := kBody Proofs.Try.f57
noncomputable def c57_1 : Code := kL c57_0
noncomputable def r57_0 : Array Oper := kO c57_1
noncomputable def o57_0_0 : Oper := opN r57_0 0
theorem x57_1 : execA E C (fg 57) B 6 E0 N c57_1 s = regX (runA E C B 6 r57_0 r57_0.toList s) (fun s => gcM E0 [0, 4] (forget s.1 [0, 4], s.2)) := x_reg (ops := r57_0) (by rfl) (by rfl) s
theorem r57_0_l : r57_0.toList = [o57_0_0] := nrfl rfl
theorem s57_0_0 : stepA E C B 6 r57_0 o57_0_0 (φ, H) = some (fput φ 4 (.int .i64 0), H) := nrfl rfl
noncomputable def c57_2 : Code := kR c57_0
noncomputable def c57_3 : Code := kL c57_2
noncomputable def r57_1 : Array Oper := kO c57_3
noncomputable def o57_1_0 : Oper := opN r57_1 0
noncomputable def o57_1_1 : Oper := opN r57_1 1
theorem x57_3 : execA E C (fg 57) B 6 E0 N c57_3 s = regX (runA E C B 6 r57_1 r57_1.toList s) (fun s => gcM E0 [1, 5] (forget s.1 [1, 5], s.2)) := x_reg (ops := r57_1) (by rfl) (by rfl) s
theorem r57_1_l : r57_1.toList = [o57_1_0, o57_1_1] := nrfl rfl
theorem s57_1_0 : stepA E C B 6 r57_1 o57_1_0 (φ, H) = some (fput φ 5 (fget φ 1), H) := nrfl rfl
theorem s57_1_1 : stepA E C B 6 r57_1 o57_1_1 (φ, H) = some (fput φ 4 (fget φ 5), H) := nrfl rfl
noncomputable def c57_4 : Code := kR c57_2
theorem x57_4 : execA E C (fg 57) B 6 E0 N c57_4 s = some (.ret, s) := x_ret (by rfl) s
theorem x57_2 : execA E C (fg 57) B 6 E0 N c57_2 s = seqX (execA E C (fg 57) B 6 E0 N c57_3 s) (execA E C (fg 57) B 6 E0 N c57_4) := x_seq (by rfl) s
theorem x57_0 : execA E C (fg 57) B 6 E0 N c57_0 s = seqX (execA E C (fg 57) B 6 E0 N c57_1 s) (execA E C (fg 57) B 6 E0 N c57_2) := x_seq (by rfl) s
theorem fi_57 : fInfo E 57 = some ⟨6, #[.tmp 4], c57_0⟩ := nrfl rfl
theorem b_57 (args : List AV) : bodyA E C fg N 57 args H B = bodyX E [.tmp 4] (execA E C (fg 57) B 6 H N c57_0 (frame0 args 0 [], H)) := bodyA_eq fi_57 args H
/-! ### f30: slices.Repeat[[]int,int] -/
noncomputable def c30_0 : Code := kBody Proofs.Try.f30
noncomputable def c30_1 : Code := kL c30_0
noncomputable def r30_0 : Array Oper := kO c30_1
noncomputable def o30_0_0 : Oper := opN r30_0 0
theorem x30_1 : execA E C (fg 30) B 48 E0 N c30_1 s = regX (runA E C B 48 r30_0 r30_0.toList s) (fun s => gcM E0 [4] (forget s.1 [4], s.2)) := x_reg (ops := r30_0) (by rfl) (by rfl) s
theorem r30_0_l : r30_0.toList = [o30_0_0] := nrfl rfl
theorem s30_0_0 : stepA E C B 48 r30_0 o30_0_0 (φ, H) = some (fput φ 4 (.nilsl), H) := nrfl rfl
noncomputable def c30_2 : Code := kR c30_0
noncomputable def c30_3 : Code := kL c30_2
noncomputable def c30_4 : Code := kL c30_3
noncomputable def r30_1 : Array Oper := kO c30_4
noncomputable def o30_1_0 : Oper := opN r30_1 0
noncomputable def o30_1_1 : Oper := opN r30_1 1
theorem x30_4 : execA E C (fg 30) B 48 E0 N c30_4 s = regX (runA E C B 48 r30_1 r30_1.toList s) (fun s => gcM E0 [9] (forget s.1 [9], s.2)) := x_reg (ops := r30_1) (by rfl) (by rfl) s
theorem r30_1_l : r30_1.toList = [o30_1_0, o30_1_1] := nrfl rfl
theorem s30_1_0 : stepA E C B 48 r30_1 o30_1_0 (φ, H) = some (fput φ 9 (fget φ 1), H) := nrfl rfl
theorem s30_1_1 : stepA E C B 48 r30_1 o30_1_1 (φ, H) = stp (some 10) φ H (just (aBin E.T .lss 3 (fget φ 9) (.int .i64 0))) := nrfl rfl
noncomputable def c30_5 : Code := kR c30_3
noncomputable def c30_6 : Code := kT c30_5
noncomputable def c30_7 : Code := kE c30_5
theorem x30_7 : execA E C (fg 30) B 48 E0 N c30_7 s = some (.normal, s) := x_skip (by rfl) s
theorem x30_5 : execA E C (fg 30) B 48 E0 N c30_5 (φ, H) = condX (fget φ 10) (execA E C (fg 30) B 48 E0 N c30_6 (φ, H)) (execA E C (fg 30) B 48 E0 N c30_7 (φ, H)) := x_cond (by rfl) _
theorem x30_3 : execA E C (fg 30) B 48 E0 N c30_3 s = seqX (execA E C (fg 30) B 48 E0 N c30_4 s) (execA E C (fg 30) B 48 E0 N c30_5) := x_seq (by rfl) s
noncomputable def c30_8 : Code := kR c30_2
noncomputable def c30_9 : Code := kL c30_8
noncomputable def r30_3 : Array Oper := kO c30_9
noncomputable def o30_3_0 : Oper := opN r30_3 0
noncomputable def o30_3_1 : Oper := opN r30_3 1
noncomputable def o30_3_2 : Oper := opN r30_3 2
noncomputable def o30_3_3 : Oper := opN r30_3 3
noncomputable def o30_3_4 : Oper := opN r30_3 4
noncomputable def o30_3_5 : Oper := opN r30_3 5
noncomputable def o30_3_6 : Oper := opN r30_3 6
noncomputable def o30_3_7 : Oper := opN r30_3 7
noncomputable def o30_3_8 : Oper := opN r30_3 8
noncomputable def o30_3_9 : Oper := opN r30_3 9
noncomputable def o30_3_10 : Oper := opN r30_3 10
theorem x30_9 : execA E C (fg 30) B 48 E0 N c30_9 s = regX (runA E C B 48 r30_3 r30_3.toList s) (fun s => gcM E0 [1, 10, 12, 13, 14, 15, 16, 17, 18, 19, 20] (forget s.1 [1, 10, 12, 13, 14, 15, 16, 17, 18, 19, 20], s.2)) := x_reg (ops := r30_3) (by rfl) (by rfl) s
theorem r30_3_l : r30_3.toList = [o30_3_0, o30_3_1, o30_3_2, o30_3_3, o30_3_4, o30_3_5, o30_3_6, o30_3_7, o30_3_8, o30_3_9, o30_3_10] := nrfl rfl
theorem s30_3_0 : stepA E C B 48 r30_3 o30_3_0 (φ, H) = some (fput φ 13 (fget φ 0), H) := nrfl rfl
theorem s30_3_1 : stepA E C B 48 r30_3 o30_3_1 (φ, H) = stp (some 14) φ H (aBuiltin E.T (B + 14) .len #[36] [(fget φ 13)]) := nrfl rfl
theorem s30_3_2 : stepA E C B 48 r30_3 o30_3_2 (φ, H) = stp (some 15) φ H (justO (aConv E.T 3 92 (fget φ 14))) := nrfl rfl
theorem s30_3_3 : stepA E C B 48 r30_3 o30_3_3 (φ, H) = some (fput φ 16 (fget φ 1), H) := nrfl rfl
theorem s30_3_4 : stepA E C B 48 r30_3 o30_3_4 (φ, H) = stp (some 17) φ H (justO (aConv E.T 3 92 (fget φ 16))) := nrfl rfl
theorem s30_3_5 : stepA E C B 48 r30_3 o30_3_5 (φ, H) = stp (some 18) φ H (aCall C (fun j => B + j * 48 + 18) true 58 [(fget φ 15), (fget φ 17)]) := nrfl rfl
theorem s30_3_6 : stepA E C B 48 r30_3 o30_3_6 (φ, H) = some (fput φ 12 (fget φ 18), H) := nrfl rfl
theorem s30_3_7 : stepA E C B 48 r30_3 o30_3_7 (φ, H) = stp (some 19) φ H (opExtract (fget φ 12) 0) := nrfl rfl
theorem s30_3_8 : stepA E C B 48 r30_3 o30_3_8 (φ, H) = stp (some 20) φ H (opExtract (fget φ 12) 1) := nrfl rfl
theorem s30_3_9 : stepA E C B 48 r30_3 o30_3_9 (φ, H) = some (fput φ 5 (fget φ 19), H) := nrfl rfl
theorem s30_3_10 : stepA E C B 48 r30_3 o30_3_10 (φ, H) = some (fput φ 6 (fget φ 20), H) := nrfl rfl
noncomputable def c30_10 : Code := kR c30_8
noncomputable def c30_11 : Code := kL c30_10
noncomputable def c30_12 : Code := kL c30_11
noncomputable def r30_4 : Array Oper := kO c30_12
noncomputable def o30_4_0 : Oper := opN r30_4 0
noncomputable def o30_4_1 : Oper := opN r30_4 1
noncomputable def o30_4_2 : Oper := opN r30_4 2
noncomputable def o30_4_3 : Oper := opN r30_4 3
noncomputable def o30_4_4 : Oper := opN r30_4 4
noncomputable def o30_4_5 : Oper := opN r30_4 5
theorem x30_12 : execA E C (fg 30) B 48 E0 N c30_12 s = regX (runA E C B 48 r30_4 r30_4.toList s) (fun s => gcM E0 [5, 21, 22, 23, 24, 25] (forget s.1 [5, 21, 22, 23, 24, 25], s.2)) := x_reg (ops := r30_4) (by rfl) (by rfl) s
theorem r30_4_l : r30_4.toList = [o30_4_0, o30_4_1, o30_4_2, o30_4_3, o30_4_4, o30_4_5] := nrfl rfl
theorem s30_4_0 : stepA E C B 48 r30_4 o30_4_0 (φ, H) = some (fput φ 21 (fget φ 5), H) := nrfl rfl
theorem s30_4_1 : stepA E C B 48 r30_4 o30_4_1 (φ, H) = stp (some 22) φ H (just (aBin E.T .gtr 92 (fget φ 21) (.int .u64 0))) := nrfl rfl
theorem s30_4_2 : stepA E C B 48 r30_4 o30_4_2 (φ, H) = some (fput φ 23 (fget φ 22), H) := nrfl rfl
theorem s30_4_3 : stepA E C B 48 r30_4 o30_4_3 (φ, H) = gd φ 23 false (fun φ => some (fput φ 24 (.tup []), H)) (fun φ => some (fput φ 24 (fget φ 6), H)) := s_gd (j := 2) (oj := o30_4_2) rfl rfl rfl (fun _ => rfl) (fun _ => rfl)
theorem s30_4_4 : stepA E C B 48 r30_4 o30_4_4 (φ, H) = gd φ 23 false (fun φ => some (fput φ 25 (.tup []), H)) (fun φ => stp (some 25) φ H (just (aBin E.T .gtr 92 (fget φ 24) (.int .u64 9223372036854775807)))) := s_gd (j := 2) (oj := o30_4_2) rfl rfl rfl (fun _ => rfl) (fun _ => rfl)
theorem s30_4_5 : stepA E C B 48 r30_4 o30_4_5 (φ, H) = stp (some 26) φ H (opPick (fget φ 23) (.bool true) (fget φ 25)) := nrfl rfl
noncomputable def c30_13 : Code := kR c30_11
noncomputable def c30_14 : Code := kT c30_13
noncomputable def c30_15 : Code := kE c30_13
theorem x30_15 : execA E C (fg 30) B 48 E0 N c30_15 s = some (.normal, s) := x_skip (by rfl) s
theorem x30_13 : execA E C (fg 30) B 48 E0 N c30_13 (φ, H) = condX (fget φ 26) (execA E C (fg 30) B 48 E0 N c30_14 (φ, H)) (execA E C (fg 30) B 48 E0 N c30_15 (φ, H)) := x_cond (by rfl) _
theorem x30_11 : execA E C (fg 30) B 48 E0 N c30_11 s = seqX (execA E C (fg 30) B 48 E0 N c30_12 s) (execA E C (fg 30) B 48 E0 N c30_13) := x_seq (by rfl) s
noncomputable def c30_16 : Code := kR c30_10
noncomputable def c30_17 : Code := kL c30_16
noncomputable def r30_6 : Array Oper := kO c30_17
noncomputable def o30_6_0 : Oper := opN r30_6 0
noncomputable def o30_6_1 : Oper := opN r30_6 1
noncomputable def o30_6_2 : Oper := opN r30_6 2
noncomputable def o30_6_3 : Oper := opN r30_6 3
theorem x30_17 : execA E C (fg 30) B 48 E0 N c30_17 s = regX (runA E C B 48 r30_6 r30_6.toList s) (fun s => gcM E0 [6, 26, 28, 29, 30] (forget s.1 [6, 26, 28, 29, 30], s.2)) := x_reg (ops := r30_6) (by rfl) (by rfl) s
theorem r30_6_l : r30_6.toList = [o30_6_0, o30_6_1, o30_6_2, o30_6_3] := nrfl rfl
theorem s30_6_0 : stepA E C B 48 r30_6 o30_6_0 (φ, H) = some (fput φ 28 (fget φ 6), H) := nrfl rfl
theorem s30_6_1 : stepA E C B 48 r30_6 o30_6_1 (φ, H) = stp (some 29) φ H (justO (aConv E.T 92 3 (fget φ 28))) := nrfl rfl
theorem s30_6_2 : stepA E C B 48 r30_6 o30_6_2 (φ, H) = stp (some 30) φ H (aMake E.T (B + 30) 36 (fget φ 29) (fget φ 29)) := nrfl rfl
theorem s30_6_3 : stepA E C B 48 r30_6 o30_6_3 (φ, H) = some (fput φ 7 (fget φ 30), H) := nrfl rfl
noncomputable def c30_18 : Code := kR c30_16
noncomputable def c30_19 : Code := kL c30_18
noncomputable def r30_7 : Array Oper := kO c30_19
noncomputable def o30_7_0 : Oper := opN r30_7 0
noncomputable def o30_7_1 : Oper := opN r30_7 1
noncomputable def o30_7_2 : Oper := opN r30_7 2
noncomputable def o30_7_3 : Oper := opN r30_7 3
theorem x30_19 : execA E C (fg 30) B 48 E0 N c30_19 s = regX (runA E C B 48 r30_7 r30_7.toList s) (fun s => gcM E0 [0, 31, 32, 33] (forget s.1 [0, 31, 32, 33], s.2)) := x_reg (ops := r30_7) (by rfl) (by rfl) s
theorem r30_7_l : r30_7.toList = [o30_7_0, o30_7_1, o30_7_2, o30_7_3] := nrfl rfl
theorem s30_7_0 : stepA E C B 48 r30_7 o30_7_0 (φ, H) = some (fput φ 31 (fget φ 7), H) := nrfl rfl
theorem s30_7_1 : stepA E C B 48 r30_7 o30_7_1 (φ, H) = some (fput φ 32 (fget φ 0), H) := nrfl rfl
theorem s30_7_2 : stepA E C B 48 r30_7 o30_7_2 (φ, H) = stp (some 33) φ H (aBuiltin E.T (B + 33) .copy #[36, 36] [(fget φ 31), (fget φ 32)]) := nrfl rfl
theorem s30_7_3 : stepA E C B 48 r30_7 o30_7_3 (φ, H) = some (fput φ 8 (fget φ 33), H) := nrfl rfl
noncomputable def c30_20 : Code := kR c30_18
noncomputable def c30_21 : Code := kL c30_20
noncomputable def c30_22 : Code := kB c30_21
noncomputable def c30_23 : Code := kB c30_22
noncomputable def c30_24 : Code := kL c30_23
noncomputable def c30_25 : Code := kL c30_24
noncomputable def r30_8 : Array Oper := kO c30_25
noncomputable def o30_8_0 : Oper := opN r30_8 0
noncomputable def o30_8_1 : Oper := opN r30_8 1
noncomputable def o30_8_2 : Oper := opN r30_8 2
noncomputable def o30_8_3 : Oper := opN r30_8 3
theorem x30_25 : execA E C (fg 30) B 48 E0 N c30_25 s = regX (runA E C B 48 r30_8 r30_8.toList s) (fun s => gcM E0 [34, 35, 36] (forget s.1 [34, 35, 36], s.2)) := x_reg (ops := r30_8) (by rfl) (by rfl) s
theorem r30_8_l : r30_8.toList = [o30_8_0, o30_8_1, o30_8_2, o30_8_3] := nrfl rfl
theorem s30_8_0 : stepA E C B 48 r30_8 o30_8_0 (φ, H) = some (fput φ 34 (fget φ 8), H) := nrfl rfl
theorem s30_8_1 : stepA E C B 48 r30_8 o30_8_1 (φ, H) = some (fput φ 35 (fget φ 7), H) := nrfl rfl
theorem s30_8_2 : stepA E C B 48 r30_8 o30_8_2 (φ, H) = stp (some 36) φ H (aBuiltin E.T (B + 36) .len #[36] [(fget φ 35)]) := nrfl rfl
theorem s30_8_3 : stepA E C B 48 r30_8 o30_8_3 (φ, H) = stp (some 37) φ H (just (aBin E.T .lss 3 (fget φ 34) (fget φ 36))) := nrfl rfl
noncomputable def c30_26 : Code := kR c30_24
noncomputable def c30_27 : Code := kT c30_26
theorem x30_27 : execA E C (fg 30) B 48 E0 N c30_27 s = some (.normal, s) := x_skip (by rfl) s
noncomputable def c30_28 : Code := kE c30_26
theorem x30_28 : execA E C (fg 30) B 48 E0 N c30_28 s = some (.exit 0, s) := x_exit (by rfl) s
theorem x30_26 : execA E C (fg 30) B 48 E0 N c30_26 (φ, H) = condX (fget φ 37) (execA E C (fg 30) B 48 E0 N c30_27 (φ, H)) (execA E C (fg 30) B 48 E0 N c30_28 (φ, H)) := x_cond (by rfl) _
theorem x30_24 : execA E C (fg 30) B 48 E0 N c30_24 s = seqX (execA E C (fg 30) B 48 E0 N c30_25 s) (execA E C (fg 30) B 48 E0 N c30_26) := x_seq (by rfl) s
noncomputable def c30_29 : Code := kR c30_23
noncomputable def c30_30 : Code := kB c30_29
noncomputable def r30_9 : Array Oper := kO c30_30
noncomputable def o30_9_0 : Oper := opN r30_9 0
noncomputable def o30_9_1 : Oper := opN r30_9 1
noncomputable def o30_9_2 : Oper := opN r30_9 2
noncomputable def o30_9_3 : Oper := opN r30_9 3
noncomputable def o30_9_4 : Oper := opN r30_9 4
noncomputable def o30_9_5 : Oper := opN r30_9 5
noncomputable def o30_9_6 : Oper := opN r30_9 6
noncomputable def o30_9_7 : Oper := opN r30_9 7
noncomputable def o30_9_8 : Oper := opN r30_9 8
noncomputable def o30_9_9 : Oper := opN r30_9 9
theorem x30_30 : execA E C (fg 30) B 48 E0 N c30_30 s = regX (drawA E C B 48 r30_9 s) (fun s => gcM E0 [37, 38, 39, 40, 41, 42, 43, 44, 45, 46] (forget s.1 [37, 38, 39, 40, 41, 42, 43, 44, 45, 46], s.2)) := x_draw (ops := r30_9) (by rfl) (by rfl) s
theorem r30_9_l : r30_9.toList = [o30_9_0, o30_9_1, o30_9_2, o30_9_3, o30_9_4, o30_9_5, o30_9_6, o30_9_7, o30_9_8, o30_9_9] := nrfl rfl
theorem r30_9_st : statOk r30_9 = true := by kernel_rfl
theorem r30_9_dr : drawA E C B 48 r30_9 s = if neat 48 s = true then drX r30_9 (runT E C B 48 r30_9 r30_9.toList 0 s) else none := draw_eq r30_9_st s
theorem r30_9_an (l : List (Nat × Tr)) : dynOk r30_9 l = (!writing l || dynPairs [[], [], [], [1, 2], [], [], [4, 5], [1, 2, 3, 4, 5, 6], [0, 1, 2, 3, 4, 5, 6, 7], [0, 1, 2, 3, 4, 5, 6, 7, 8]] (touching l)) := dynOk_eq (by kernel_rfl) l
theorem s30_9_0 : stepT E C B 48 r30_9 o30_9_0 (φ, H) = some ((fput φ 38 (fget φ 8), H), ⟨false, [], []⟩) := stT_go rfl (goT_mv rfl rfl)
theorem s30_9_1 : stepT E C B 48 r30_9 o30_9_1 (φ, H) = some ((fput φ 39 (fget φ 7), H), ⟨false, [], []⟩) := stT_go rfl (goT_mv rfl rfl)
theorem s30_9_2 : stepT E C B 48 r30_9 o30_9_2 (φ, H) = some ((fput φ 40 (fget φ 8), H), ⟨false, [], []⟩) := stT_go rfl (goT_mv rfl rfl)
theorem s30_9_3 : stepT E C B 48 r30_9 o30_9_3 (φ, H) = stpT (some 41) φ H (just (aSlice E.T 36 (fget φ 39) (some (fget φ 40)) none none)) := stT_go rfl (goT_R rfl rfl)
theorem s30_9_4 : stepT E C B 48 r30_9 o30_9_4 (φ, H) = some ((fput φ 42 (fget φ 7), H), ⟨false, [], []⟩) := stT_go rfl (goT_mv rfl rfl)
theorem s30_9_5 : stepT E C B 48 r30_9 o30_9_5 (φ, H) = some ((fput φ 43 (fget φ 8), H), ⟨false, [], []⟩) := stT_go rfl (goT_mv rfl rfl)
theorem s30_9_6 : stepT E C B 48 r30_9 o30_9_6 (φ, H) = stpT (some 44) φ H (just (aSlice E.T 36 (fget φ 42) none (some (fget φ 43)) none)) := stT_go rfl (goT_R rfl rfl)
theorem s30_9_7 : stepT E C B 48 r30_9 o30_9_7 (φ, H) = stpT (some 45) φ H (aBuiltin E.T (B + 45) .copy #[36, 36] [(fget φ 41), (fget φ 44)]) := stT_go rfl (goT_R rfl rfl)
theorem s30_9_8 : stepT E C B 48 r30_9 o30_9_8 (φ, H) = stpT (some 46) φ H (just (aBin E.T .add 3 (fget φ 38) (fget φ 45))) := stT_go rfl (goT_R rfl rfl)
theorem s30_9_9 : stepT E C B 48 r30_9 o30_9_9 (φ, H) = some ((fput φ 8 (fget φ 46), H), ⟨false, [], []⟩) := stT_go rfl (goT_mv rfl rfl)
theorem x30_29 : execA E C (fg 30) B 48 E0 N c30_29 s = blockX 1 (fun s => (forget s.1 [], s.2)) (execA E C (fg 30) B 48 E0 N c30_30 s) := x_block (by rfl) (by rfl) s
theorem x30_23 : execA E C (fg 30) B 48 E0 N c30_23 s = seqX (execA E C (fg 30) B 48 E0 N c30_24 s) (execA E C (fg 30) B 48 E0 N c30_29) := x_seq (by rfl) s
-- a loop of f30: x30_22; body c30_23; slots [8, 7]
theorem x30_22 : execA E C (fg 30) B 48 E0 N c30_22 s = iterA (execA E C (fg 30) B 48 E0 N c30_23) (headA E0) N s := x_loop (by rfl) s
theorem x30_21 : execA E C (fg 30) B 48 E0 N c30_21 s = blockX 0 (fun s => (forget s.1 [8, 37], s.2)) (execA E C (fg 30) B 48 E0 N c30_22 s) := x_block (by rfl) (by rfl) s
noncomputable def c30_31 : Code := kR c30_20
noncomputable def c30_32 : Code := kL c30_31
noncomputable def r30_10 : Array Oper := kO c30_32
noncomputable def o30_10_0 : Oper := opN r30_10 0
noncomputable def o30_10_1 : Oper := opN r30_10 1
theorem x30_32 : execA E C (fg 30) B 48 E0 N c30_32 s = regX (runA E C B 48 r30_10 r30_10.toList s) (fun s => gcM E0 [7, 47] (forget s.1 [7, 47], s.2)) := x_reg (ops := r30_10) (by rfl) (by rfl) s
theorem r30_10_l : r30_10.toList = [o30_10_0, o30_10_1] := nrfl rfl
theorem s30_10_0 : stepA E C B 48 r30_10 o30_10_0 (φ, H) = some (fput φ 47 (fget φ 7), H) := nrfl rfl
theorem s30_10_1 : stepA E C B 48 r30_10 o30_10_1 (φ, H) = some (fput φ 4 (fget φ 47), H) := nrfl rfl
noncomputable def c30_33 : Code := kR c30_31
theorem x30_33 : execA E C (fg 30) B 48 E0 N c30_33 s = some (.ret, s) := x_ret (by rfl) s
theorem x30_31 : execA E C (fg 30) B 48 E0 N c30_31 s = seqX (execA E C (fg 30) B 48 E0 N c30_32 s) (execA E C (fg 30) B 48 E0 N c30_33) := x_seq (by rfl) s
theorem x30_20 : execA E C (fg 30) B 48 E0 N c30_20 s = seqX (execA E C (fg 30) B 48 E0 N c30_21 s) (execA E C (fg 30) B 48 E0 N c30_31) := x_seq (by rfl) s
theorem x30_18 : execA E C (fg 30) B 48 E0 N c30_18 s = seqX (execA E C (fg 30) B 48 E0 N c30_19 s) (execA E C (fg 30) B 48 E0 N c30_20) := x_seq (by rfl) s
theorem x30_16 : execA E C (fg 30) B 48 E0 N c30_16 s = seqX (execA E C (fg 30) B 48 E0 N c30_17 s) (execA E C (fg 30) B 48 E0 N c30_18) := x_seq (by rfl) s
theorem x30_10 : execA E C (fg 30) B 48 E0 N c30_10 s = seqX (execA E C (fg 30) B 48 E0 N c30_11 s) (execA E C (fg 30) B 48 E0 N c30_16) := x_seq (by rfl) s
theorem x30_8 : execA E C (fg 30) B 48 E0 N c30_8 s = seqX (execA E C (fg 30) B 48 E0 N c30_9 s) (execA E C (fg 30) B 48 E0 N c30_10) := x_seq (by rfl) s
theorem x30_2 : execA E C (fg 30) B 48 E0 N c30_2 s = seqX (execA E C (fg 30) B 48 E0 N c30_3 s) (execA E C (fg 30) B 48 E0 N c30_8) := x_seq (by rfl) s
theorem x30_0 : execA E C (fg 30) B 48 E0 N c30_0 s = seqX (execA E C (fg 30) B 48 E0 N c30_1 s) (execA E C (fg 30) B 48 E0 N c30_2) := x_seq (by rfl) s
theorem fi_30 : fInfo E 30 = some ⟨48, #[.tmp 4], c30_0⟩ := nrfl rfl
theorem b_30 (args : List AV) : bodyA E C fg N 30 args H B = bodyX E [.tmp 4] (execA E C (fg 30) B 48 H N c30_0 (frame0 args 0 [], H)) := bodyA_eq fi_30 args H
/-! ### f6: novaculite/novaculitelaw07.PropSeries -/
noncomputable def c6_0 : Code := kBody Proofs.Try.f6
noncomputable def c6_1 : Code := kL c6_0
noncomputable def r6_0 : Array Oper := kO c6_1
noncomputable def o6_0_0 : Oper := opN r6_0 0
theorem x6_1 : execA E C (fg 6) B 98 E0 N c6_1 s = regX (runA E C B 98 r6_0 r6_0.toList s) (fun s => gcM E0 [6] (forget s.1 [6], s.2)) := x_reg (ops := r6_0) (by rfl) (by rfl) s
theorem r6_0_l : r6_0.toList = [o6_0_0] := nrfl rfl
theorem s6_0_0 : stepA E C B 98 r6_0 o6_0_0 (φ, H) = some (fput φ 6 (.bool false), H) := nrfl rfl
noncomputable def c6_2 : Code := kR c6_0
noncomputable def c6_3 : Code := kL c6_2
noncomputable def r6_1 : Array Oper := kO c6_3
noncomputable def o6_1_0 : Oper := opN r6_1 0
noncomputable def o6_1_1 : Oper := opN r6_1 1
noncomputable def o6_1_2 : Oper := opN r6_1 2
noncomputable def o6_1_3 : Oper := opN r6_1 3
noncomputable def o6_1_4 : Oper := opN r6_1 4
theorem x6_3 : execA E C (fg 6) B 98 E0 N c6_3 s = regX (runA E C B 98 r6_1 r6_1.toList s) (fun s => gcM E0 [0, 15, 16, 17, 18] (forget s.1 [0, 15, 16, 17, 18], s.2)) := x_reg (ops := r6_1) (by rfl) (by rfl) s
theorem r6_1_l : r6_1.toList = [o6_1_0, o6_1_1, o6_1_2, o6_1_3, o6_1_4] := nrfl rfl
theorem s6_1_0 : stepA E C B 98 r6_1 o6_1_0 (φ, H) = some (fput φ 15 (fget φ 0), H) := nrfl rfl
theorem s6_1_1 : stepA E C B 98 r6_1 o6_1_1 (φ, H) = stp (some 16) φ H (justO (aConv E.T 5 3 (fget φ 15))) := nrfl rfl
theorem s6_1_2 : stepA E C B 98 r6_1 o6_1_2 (φ, H) = stp (some 17) φ H (just (aBin E.T .rem 3 (fget φ 16) (.int .i64 14))) := nrfl rfl
theorem s6_1_3 : stepA E C B 98 r6_1 o6_1_3 (φ, H) = stp (some 18) φ H (just (aBin E.T .add 3 (.int .i64 1) (fget φ 17))) := nrfl rfl
theorem s6_1_4 : stepA E C B 98 r6_1 o6_1_4 (φ, H) = some (fput φ 7 (fget φ 18), H) := nrfl rfl
noncomputable def c6_4 : Code := kR c6_2
noncomputable def c6_5 : Code := kL c6_4
noncomputable def r6_2 : Array Oper := kO c6_5
noncomputable def o6_2_0 : Oper := opN r6_2 0
noncomputable def o6_2_1 : Oper := opN r6_2 1
theorem x6_5 : execA E C (fg 6) B 98 E0 N c6_5 s = regX (runA E C B 98 r6_2 r6_2.toList s) (fun s => gcM E0 [] (forget s.1 [], s.2)) := x_reg (ops := r6_2) (by rfl) (by rfl) s
theorem r6_2_l : r6_2.toList = [o6_2_0, o6_2_1] := nrfl rfl
theorem s6_2_0 : stepA E C B 98 r6_2 o6_2_0 (φ, H) = some (fput φ 8 (.int .i64 0), H) := nrfl rfl
theorem s6_2_1 : stepA E C B 98 r6_2 o6_2_1 (φ, H) = some (fput φ 9 (.int .i64 1), H) := nrfl rfl
noncomputable def c6_6 : Code := kR c6_4
noncomputable def c6_7 : Code := kL c6_6
noncomputable def c6_8 : Code := kL c6_7
noncomputable def r6_3 : Array Oper := kO c6_8
noncomputable def o6_3_0 : Oper := opN r6_3 0
theorem x6_8 : execA E C (fg 6) B 98 E0 N c6_8 s = regX (runA E C B 98 r6_3 r6_3.toList s) (fun s => gcM E0 [] (forget s.1 [], s.2)) := x_reg (ops := r6_3) (by rfl) (by rfl) s
theorem r6_3_l : r6_3.toList = [o6_3_0] := nrfl rfl
theorem s6_3_0 : stepA E C B 98 r6_3 o6_3_0 (φ, H) = some (fput φ 10 (.int .i64 1), H) := nrfl rfl
noncomputable def c6_9 : Code := kR c6_7
noncomputable def c6_10 : Code := kB c6_9
noncomputable def c6_11 : Code := kB c6_10
noncomputable def c6_12 : Code := kL c6_11
noncomputable def c6_13 : Code := kL c6_12
noncomputable def r6_4 : Array Oper := kO c6_13
noncomputable def o6_4_0 : Oper := opN r6_4 0
noncomputable def o6_4_1 : Oper := opN r6_4 1
noncomputable def o6_4_2 : Oper := opN r6_4 2
noncomputable def o6_4_3 : Oper := opN r6_4 3
theorem x6_13 : execA E C (fg 6) B 98 E0 N c6_13 s = regX (runA E C B 98 r6_4 r6_4.toList s) (fun s => gcM E0 [19, 20, 21] (forget s.1 [19, 20, 21], s.2)) := x_reg (ops := r6_4) (by rfl) (by rfl) s
theorem r6_4_l : r6_4.toList = [o6_4_0, o6_4_1, o6_4_2, o6_4_3] := nrfl rfl
theorem s6_4_0 : stepA E C B 98 r6_4 o6_4_0 (φ, H) = some (fput φ 19 (fget φ 10), H) := nrfl rfl
theorem s6_4_1 : stepA E C B 98 r6_4 o6_4_1 (φ, H) = some (fput φ 20 (fget φ 7), H) := nrfl rfl
theorem s6_4_2 : stepA E C B 98 r6_4 o6_4_2 (φ, H) = stp (some 21) φ H (aBuiltin E.T (B + 21) .min #[3, 3] [(fget φ 20), (.int .i64 12)]) := nrfl rfl
theorem s6_4_3 : stepA E C B 98 r6_4 o6_4_3 (φ, H) = stp (some 22) φ H (just (aBin E.T .leq 3 (fget φ 19) (fget φ 21))) := nrfl rfl
noncomputable def c6_14 : Code := kR c6_12
noncomputable def c6_15 : Code := kT c6_14
theorem x6_15 : execA E C (fg 6) B 98 E0 N c6_15 s = some (.normal, s) := x_skip (by rfl) s
noncomputable def c6_16 : Code := kE c6_14
theorem x6_16 : execA E C (fg 6) B 98 E0 N c6_16 s = some (.exit 0, s) := x_exit (by rfl) s
theorem x6_14 : execA E C (fg 6) B 98 E0 N c6_14 (φ, H) = condX (fget φ 22) (execA E C (fg 6) B 98 E0 N c6_15 (φ, H)) (execA E C (fg 6) B 98 E0 N c6_16 (φ, H)) := x_cond (by rfl) _
theorem x6_12 : execA E C (fg 6) B 98 E0 N c6_12 s = seqX (execA E C (fg 6) B 98 E0 N c6_13 s) (execA E C (fg 6) B 98 E0 N c6_14) := x_seq (by rfl) s
noncomputable def c6_17 : Code := kR c6_11
noncomputable def c6_18 : Code := kL c6_17
noncomputable def c6_19 : Code := kB c6_18
noncomputable def r6_6 : Array Oper := kO c6_19
noncomputable def o6_6_0 : Oper := opN r6_6 0
noncomputable def o6_6_1 : Oper := opN r6_6 1
noncomputable def o6_6_2 : Oper := opN r6_6 2
noncomputable def o6_6_3 : Oper := opN r6_6 3
noncomputable def o6_6_4 : Oper := opN r6_6 4
noncomputable def o6_6_5 : Oper := opN r6_6 5
noncomputable def o6_6_6 : Oper := opN r6_6 6
noncomputable def o6_6_7 : Oper := opN r6_6 7
noncomputable def o6_6_8 : Oper := opN r6_6 8
noncomputable def o6_6_9 : Oper := opN r6_6 9
theorem x6_19 : execA E C (fg 6) B 98 E0 N c6_19 s = regX (runA E C B 98 r6_6 r6_6.toList s) (fun s => gcM E0 [22, 25, 26, 27, 28, 29, 30, 31, 32] (forget s.1 [22, 25, 26, 27, 28, 29, 30, 31, 32], s.2)) := x_reg (ops := r6_6) (by rfl) (by rfl) s
theorem r6_6_l : r6_6.toList = [o6_6_0, o6_6_1, o6_6_2, o6_6_3, o6_6_4, o6_6_5, o6_6_6, o6_6_7, o6_6_8, o6_6_9] := nrfl rfl
theorem s6_6_0 : stepA E C B 98 r6_6 o6_6_0 (φ, H) = some (fput φ 25 (fget φ 8), H) := nrfl rfl
theorem s6_6_1 : stepA E C B 98 r6_6 o6_6_1 (φ, H) = some (fput φ 26 (fget φ 10), H) := nrfl rfl
theorem s6_6_2 : stepA E C B 98 r6_6 o6_6_2 (φ, H) = stp (some 27) φ H (just (aBin E.T .mul 3 (fget φ 25) (fget φ 26))) := nrfl rfl
theorem s6_6_3 : stepA E C B 98 r6_6 o6_6_3 (φ, H) = some (fput φ 28 (fget φ 9), H) := nrfl rfl
theorem s6_6_4 : stepA E C B 98 r6_6 o6_6_4 (φ, H) = stp (some 29) φ H (just (aBin E.T .add 3 (fget φ 27) (fget φ 28))) := nrfl rfl
theorem s6_6_5 : stepA E C B 98 r6_6 o6_6_5 (φ, H) = some (fput φ 30 (fget φ 9), H) := nrfl rfl
theorem s6_6_6 : stepA E C B 98 r6_6 o6_6_6 (φ, H) = some (fput φ 31 (fget φ 10), H) := nrfl rfl
theorem s6_6_7 : stepA E C B 98 r6_6 o6_6_7 (φ, H) = stp (some 32) φ H (just (aBin E.T .mul 3 (fget φ 30) (fget φ 31))) := nrfl rfl
theorem s6_6_8 : stepA E C B 98 r6_6 o6_6_8 (φ, H) = some (fput φ 8 (fget φ 29), H) := nrfl rfl
theorem s6_6_9 : stepA E C B 98 r6_6 o6_6_9 (φ, H) = some (fput φ 9 (fget φ 32), H) := nrfl rfl
theorem x6_18 : execA E C (fg 6) B 98 E0 N c6_18 s = blockX 1 (fun s => (forget s.1 [], s.2)) (execA E C (fg 6) B 98 E0 N c6_19 s) := x_block (by rfl) (by rfl) s
noncomputable def c6_20 : Code := kR c6_17
noncomputable def r6_5 : Array Oper := kO c6_20
noncomputable def o6_5_0 : Oper := opN r6_5 0
noncomputable def o6_5_1 : Oper := opN r6_5 1
noncomputable def o6_5_2 : Oper := opN r6_5 2
theorem x6_20 : execA E C (fg 6) B 98 E0 N c6_20 s = regX (runA E C B 98 r6_5 r6_5.toList s) (fun s => gcM E0 [23, 24] (forget s.1 [23, 24], s.2)) := x_reg (ops := r6_5) (by rfl) (by rfl) s
theorem r6_5_l : r6_5.toList = [o6_5_0, o6_5_1, o6_5_2] := nrfl rfl
theorem s6_5_0 : stepA E C B 98 r6_5 o6_5_0 (φ, H) = some (fput φ 23 (fget φ 10), H) := nrfl rfl
theorem s6_5_1 : stepA E C B 98 r6_5 o6_5_1 (φ, H) = stp (some 24) φ H (just (aBin E.T .add 3 (fget φ 23) (.int .i64 1))) := nrfl rfl
theorem s6_5_2 : stepA E C B 98 r6_5 o6_5_2 (φ, H) = some (fput φ 10 (fget φ 24), H) := nrfl rfl
theorem x6_17 : execA E C (fg 6) B 98 E0 N c6_17 s = seqX (execA E C (fg 6) B 98 E0 N c6_18 s) (execA E C (fg 6) B 98 E0 N c6_20) := x_seq (by rfl) s
theorem x6_11 : execA E C (fg 6) B 98 E0 N c6_11 s = seqX (execA E C (fg 6) B 98 E0 N c6_12 s) (execA E C (fg 6) B 98 E0 N c6_17) := x_seq (by rfl) s
-- a loop of f6: x6_10; body c6_11; slots [10, 9, 8, 7, 2, 1]
theorem x6_10 : execA E C (fg 6) B 98 E0 N c6_10 s = iterA (execA E C (fg 6) B 98 E0 N c6_11) (headA E0) N s := x_loop (by rfl) s
theorem x6_9 : execA E C (fg 6) B 98 E0 N c6_9 s = blockX 0 (fun s => (forget s.1 [10, 22], s.2)) (execA E C (fg 6) B 98 E0 N c6_10 s) := x_block (by rfl) (by rfl) s
theorem x6_7 : execA E C (fg 6) B 98 E0 N c6_7 s = seqX (execA E C (fg 6) B 98 E0 N c6_8 s) (execA E C (fg 6) B 98 E0 N c6_9) := x_seq (by rfl) s
noncomputable def c6_21 : Code := kR c6_6
noncomputable def c6_22 : Code := kL c6_21
noncomputable def r6_7 : Array Oper := kO c6_22
noncomputable def o6_7_0 : Oper := opN r6_7 0
noncomputable def o6_7_1 : Oper := opN r6_7 1
noncomputable def o6_7_2 : Oper := opN r6_7 2
noncomputable def o6_7_3 : Oper := opN r6_7 3
noncomputable def o6_7_4 : Oper := opN r6_7 4
noncomputable def o6_7_5 : Oper := opN r6_7 5
noncomputable def o6_7_6 : Oper := opN r6_7 6
noncomputable def o6_7_7 : Oper := opN r6_7 7
theorem x6_22 : execA E C (fg 6) B 98 E0 N c6_22 s = regX (runA E C B 98 r6_7 r6_7.toList s) (fun s => gcM E0 [33, 34, 35, 36, 37] (forget s.1 [33, 34, 35, 36, 37], s.2)) := x_reg (ops := r6_7) (by rfl) (by rfl) s
theorem r6_7_l : r6_7.toList = [o6_7_0, o6_7_1, o6_7_2, o6_7_3, o6_7_4, o6_7_5, o6_7_6, o6_7_7] := nrfl rfl
theorem s6_7_0 : stepA E C B 98 r6_7 o6_7_0 (φ, H) = some (fput φ 34 (fget φ 7), H) := nrfl rfl
theorem s6_7_1 : stepA E C B 98 r6_7 o6_7_1 (φ, H) = stp (some 35) φ H (aCall C (fun j => B + j * 98 + 35) true 26 [(fget φ 34)]) := nrfl rfl
theorem s6_7_2 : stepA E C B 98 r6_7 o6_7_2 (φ, H) = some (fput φ 33 (fget φ 35), H) := nrfl rfl
theorem s6_7_3 : stepA E C B 98 r6_7 o6_7_3 (φ, H) = stp (some 36) φ H (opExtract (fget φ 33) 0) := nrfl rfl
theorem s6_7_4 : stepA E C B 98 r6_7 o6_7_4 (φ, H) = stp (some 37) φ H (opExtract (fget φ 33) 1) := nrfl rfl
theorem s6_7_5 : stepA E C B 98 r6_7 o6_7_5 (φ, H) = stp (some 11) φ H (opBox (B + 11) (zeroCells E.T 56)) := nrfl rfl
theorem s6_7_6 : stepA E C B 98 r6_7 o6_7_6 (φ, H) = stp none φ H (opStore E.T 56 (fget φ 11) (fget φ 36)) := nrfl rfl
theorem s6_7_7 : stepA E C B 98 r6_7 o6_7_7 (φ, H) = some (fput φ 12 (fget φ 37), H) := nrfl rfl
noncomputable def c6_23 : Code := kR c6_21
noncomputable def c6_24 : Code := kL c6_23
noncomputable def c6_25 : Code := kL c6_24
noncomputable def r6_8 : Array Oper := kO c6_25
noncomputable def o6_8_0 : Oper := opN r6_8 0
noncomputable def o6_8_1 : Oper := opN r6_8 1
theorem x6_25 : execA E C (fg 6) B 98 E0 N c6_25 s = regX (runA E C B 98 r6_8 r6_8.toList s) (fun s => gcM E0 [38] (forget s.1 [38], s.2)) := x_reg (ops := r6_8) (by rfl) (by rfl) s
theorem r6_8_l : r6_8.toList = [o6_8_0, o6_8_1] := nrfl rfl
theorem s6_8_0 : stepA E C B 98 r6_8 o6_8_0 (φ, H) = some (fput φ 38 (fget φ 7), H) := nrfl rfl
theorem s6_8_1 : stepA E C B 98 r6_8 o6_8_1 (φ, H) = stp (some 39) φ H (just (aBin E.T .gtr 3 (fget φ 38) (.int .i64 12))) := nrfl rfl
noncomputable def c6_26 : Code := kR c6_24
noncomputable def c6_27 : Code := kT c6_26
noncomputable def c6_28 : Code := kL c6_27
noncomputable def r6_9 : Array Oper := kO c6_28
noncomputable def o6_9_0 : Oper := opN r6_9 0
noncomputable def o6_9_1 : Oper := opN r6_9 1
noncomputable def o6_9_2 : Oper := opN r6_9 2
noncomputable def o6_9_3 : Oper := opN r6_9 3
noncomputable def o6_9_4 : Oper := opN r6_9 4
noncomputable def o6_9_5 : Oper := opN r6_9 5
noncomputable def o6_9_6 : Oper := opN r6_9 6
noncomputable def o6_9_7 : Oper := opN r6_9 7
noncomputable def o6_9_8 : Oper := opN r6_9 8
noncomputable def o6_9_9 : Oper := opN r6_9 9
noncomputable def o6_9_10 : Oper := opN r6_9 10
theorem x6_28 : execA E C (fg 6) B 98 E0 N c6_28 s = regX (drawA E C B 98 r6_9 s) (fun s => gcM E0 [1, 2, 7, 8, 9, 11, 12, 39, 40, 41, 42, 43, 44, 45, 46, 47, 48, 49] (forget s.1 [1, 2, 7, 8, 9, 11, 12, 39, 40, 41, 42, 43, 44, 45, 46, 47, 48, 49], s.2)) := x_draw (ops := r6_9) (by rfl) (by rfl) s
theorem r6_9_l : r6_9.toList = [o6_9_0, o6_9_1, o6_9_2, o6_9_3, o6_9_4, o6_9_5, o6_9_6, o6_9_7, o6_9_8, o6_9_9, o6_9_10] := nrfl rfl
theorem r6_9_st : statOk r6_9 = true := by kernel_rfl
theorem r6_9_dr : drawA E C B 98 r6_9 s = if neat 98 s = true then drX r6_9 (runT E C B 98 r6_9 r6_9.toList 0 s) else none := draw_eq r6_9_st s
theorem r6_9_an (l : List (Nat × Tr)) : dynOk r6_9 l = (!writing l || dynPairs [[], [0], [0, 1], [0, 1, 2], [0, 1, 2], [0, 1, 2, 3, 4], [0, 1, 2, 3, 4, 5], [0, 1, 2, 3, 4, 5, 6], [0, 1, 2, 3, 4, 5, 6, 7], [0, 1, 2, 3, 4, 5, 6, 7, 8], [0, 1, 2, 3, 4, 5, 6, 7, 8, 9]] (touching l)) := dynOk_eq (by kernel_rfl) l
theorem s6_9_0 : stepT E C B 98 r6_9 o6_9_0 (φ, H) = some ((fput φ 40 (fget φ 12), H), ⟨false, [], []⟩) := stT_go rfl (goT_mv rfl rfl)
theorem s6_9_1 : stepT E C B 98 r6_9 o6_9_1 (φ, H) = stpT (some 41) φ H (just (aBin E.T .eql 30 (fget φ 40) (.int .i64 1))) := stT_go rfl (goT_R rfl rfl)
theorem s6_9_2 : stepT E C B 98 r6_9 o6_9_2 (φ, H) = some ((fput φ 42 (fget φ 41), H), ⟨false, [], []⟩) := stT_go rfl (goT_mv rfl rfl)
theorem s6_9_3 : stepT E C B 98 r6_9 o6_9_3 (φ, H) = gdT φ 42 true (fun φ => (some (fput φ 43 (.tup []), H)).map fun s => (s, ⟨false, [], []⟩)) (fun φ => stpT (some 43) φ H (just (aLoad E.T 56 (fget φ 11)))) := stT_gd (j := 2) (oj := o6_9_2) rfl rfl rfl (fun _ => rfl) (fun _ => goT_R rfl rfl)
theorem s6_9_4 : stepT E C B 98 r6_9 o6_9_4 (φ, H) = gdT φ 42 true (fun φ => (some (fput φ 44 (.tup []), H)).map fun s => (s, ⟨false, [], []⟩)) (fun φ => stpT (some 44) φ H (aCall C (fun j => B + j * 98 + 44) true 27 [(.int .i64 0), (.int .i64 0)])) := stT_gd (j := 2) (oj := o6_9_2) rfl rfl rfl (fun _ => rfl) (fun _ => goT_R rfl rfl)
theorem s6_9_5 : stepT E C B 98 r6_9 o6_9_5 (φ, H) = gdT φ 42 true (fun φ => (some (fput φ 45 (.tup []), H)).map fun s => (s, ⟨false, [], []⟩)) (fun φ => stpT (some 45) φ H (just (aBin E.T .eql 56 (fget φ 43) (fget φ 44)))) := stT_gd (j := 2) (oj := o6_9_2) rfl rfl rfl (fun _ => rfl) (fun _ => goT_R rfl rfl)
theorem s6_9_6 : stepT E C B 98 r6_9 o6_9_6 (φ, H) = stpT (some 46) φ H (opPick (fget φ 42) (fget φ 45) (.bool false)) := stT_go rfl (goT_R rfl rfl)
theorem s6_9_7 : stepT E C B 98 r6_9 o6_9_7 (φ, H) = some ((fput φ 47 (fget φ 46), H), ⟨false, [], []⟩) := stT_go rfl (goT_mv rfl rfl)
theorem s6_9_8 : stepT E C B 98 r6_9 o6_9_8 (φ, H) = gdT φ 47 true (fun φ => (some (fput φ 48 (.tup []), H)).map fun s => (s, ⟨false, [], []⟩)) (fun φ => stpT (some 48) φ H (aCall C (fun j => B + j * 98 + 48) true 20 [])) := stT_gd (j := 7) (oj := o6_9_7) rfl rfl rfl (fun _ => rfl) (fun _ => goT_R rfl rfl)
theorem s6_9_9 : stepT E C B 98 r6_9 o6_9_9 (φ, H) = stpT (some 49) φ H (opPick (fget φ 47) (fget φ 48) (.bool false)) := stT_go rfl (goT_R rfl rfl)
theorem s6_9_10 : stepT E C B 98 r6_9 o6_9_10 (φ, H) = some ((fput φ 6 (fget φ 49), H), ⟨false, [], []⟩) := stT_go rfl (goT_mv rfl rfl)
noncomputable def c6_29 : Code := kR c6_27
theorem x6_29 : execA E C (fg 6) B 98 E0 N c6_29 s = some (.ret, s) := x_ret (by rfl) s
theorem x6_27 : execA E C (fg 6) B 98 E0 N c6_27 s = seqX (execA E C (fg 6) B 98 E0 N c6_28 s) (execA E C (fg 6) B 98 E0 N c6_29) := x_seq (by rfl) s
noncomputable def c6_30 : Code := kE c6_26
theorem x6_30 : execA E C (fg 6) B 98 E0 N c6_30 s = some (.normal, s) := x_skip (by rfl) s
theorem x6_26 : execA E C (fg 6) B 98 E0 N c6_26 (φ, H) = condX (fget φ 39) (execA E C (fg 6) B 98 E0 N c6_27 (φ, H)) (execA E C (fg 6) B 98 E0 N c6_30 (φ, H)) := x_cond (by rfl) _
theorem x6_24 : execA E C (fg 6) B 98 E0 N c6_24 s = seqX (execA E C (fg 6) B 98 E0 N c6_25 s) (execA E C (fg 6) B 98 E0 N c6_26) := x_seq (by rfl) s
noncomputable def c6_31 : Code := kR c6_23
noncomputable def c6_32 : Code := kL c6_31
noncomputable def c6_33 : Code := kL c6_32
noncomputable def r6_10 : Array Oper := kO c6_33
noncomputable def o6_10_0 : Oper := opN r6_10 0
noncomputable def o6_10_1 : Oper := opN r6_10 1
noncomputable def o6_10_2 : Oper := opN r6_10 2
noncomputable def o6_10_3 : Oper := opN r6_10 3
noncomputable def o6_10_4 : Oper := opN r6_10 4
noncomputable def o6_10_5 : Oper := opN r6_10 5
noncomputable def o6_10_6 : Oper := opN r6_10 6
noncomputable def o6_10_7 : Oper := opN r6_10 7
noncomputable def o6_10_8 : Oper := opN r6_10 8
theorem x6_33 : execA E C (fg 6) B 98 E0 N c6_33 s = regX (drawA E C B 98 r6_10 s) (fun s => gcM E0 [11, 12, 39, 50, 51, 52, 53, 54, 55, 56, 57] (forget s.1 [11, 12, 39, 50, 51, 52, 53, 54, 55, 56, 57], s.2)) := x_draw (ops := r6_10) (by rfl) (by rfl) s
theorem r6_10_l : r6_10.toList = [o6_10_0, o6_10_1, o6_10_2, o6_10_3, o6_10_4, o6_10_5, o6_10_6, o6_10_7, o6_10_8] := nrfl rfl
theorem r6_10_st : statOk r6_10 = true := by kernel_rfl
theorem r6_10_dr : drawA E C B 98 r6_10 s = if neat 98 s = true then drX r6_10 (runT E C B 98 r6_10 r6_10.toList 0 s) else none := draw_eq r6_10_st s
theorem r6_10_an (l : List (Nat × Tr)) : dynOk r6_10 l = (!writing l || dynPairs [[], [0], [0, 1], [0, 1, 2], [0, 1, 2], [0, 1, 2], [0, 1, 2, 4, 5], [0, 1, 2, 3, 4, 5, 6], [0, 1, 2, 3, 4, 5, 6, 7]] (touching l)) := dynOk_eq (by kernel_rfl) l
theorem s6_10_0 : stepT E C B 98 r6_10 o6_10_0 (φ, H) = some ((fput φ 50 (fget φ 12), H), ⟨false, [], []⟩) := stT_go rfl (goT_mv rfl rfl)
theorem s6_10_1 : stepT E C B 98 r6_10 o6_10_1 (φ, H) = stpT (some 51) φ H (just (aBin E.T .neq 30 (fget φ 50) (.int .i64 0))) := stT_go rfl (goT_R rfl rfl)
theorem s6_10_2 : stepT E C B 98 r6_10 o6_10_2 (φ, H) = some ((fput φ 52 (fget φ 51), H), ⟨false, [], []⟩) := stT_go rfl (goT_mv rfl rfl)
theorem s6_10_3 : stepT E C B 98 r6_10 o6_10_3 (φ, H) = gdT φ 52 false (fun φ => (some (fput φ 53 (.tup []), H)).map fun s => (s, ⟨false, [], []⟩)) (fun φ => stpT (some 53) φ H (just (aLoad E.T 56 (fget φ 11)))) := stT_gd (j := 2) (oj := o6_10_2) rfl rfl rfl (fun _ => rfl) (fun _ => goT_R rfl rfl)
theorem s6_10_4 : stepT E C B 98 r6_10 o6_10_4 (φ, H) = gdT φ 52 false (fun φ => (some (fput φ 54 (.tup []), H)).map fun s => (s, ⟨false, [], []⟩)) (fun φ => some ((fput φ 54 (fget φ 8), H), ⟨false, [], []⟩)) := stT_gd (j := 2) (oj := o6_10_2) rfl rfl rfl (fun _ => rfl) (fun _ => goT_mv rfl rfl)
theorem s6_10_5 : stepT E C B 98 r6_10 o6_10_5 (φ, H) = gdT φ 52 false (fun φ => (some (fput φ 55 (.tup []), H)).map fun s => (s, ⟨false, [], []⟩)) (fun φ => some ((fput φ 55 (fget φ 9), H), ⟨false, [], []⟩)) := stT_gd (j := 2) (oj := o6_10_2) rfl rfl rfl (fun _ => rfl) (fun _ => goT_mv rfl rfl)
theorem s6_10_6 : stepT E C B 98 r6_10 o6_10_6 (φ, H) = gdT φ 52 false (fun φ => (some (fput φ 56 (.tup []), H)).map fun s => (s, ⟨false, [], []⟩)) (fun φ => stpT (some 56) φ H (aCall C (fun j => B + j * 98 + 56) true 28 [(fget φ 54), (fget φ 55)])) := stT_gd (j := 2) (oj := o6_10_2) rfl rfl rfl (fun _ => rfl) (fun _ => goT_R rfl rfl)
theorem s6_10_7 : stepT E C B 98 r6_10 o6_10_7 (φ, H) = gdT φ 52 false (fun φ => (some (fput φ 57 (.tup []), H)).map fun s => (s, ⟨false, [], []⟩)) (fun φ => stpT (some 57) φ H (just (aBin E.T .neq 56 (fget φ 53) (fget φ 56)))) := stT_gd (j := 2) (oj := o6_10_2) rfl rfl rfl (fun _ => rfl) (fun _ => goT_R rfl rfl)
theorem s6_10_8 : stepT E C B 98 r6_10 o6_10_8 (φ, H) = stpT (some 58) φ H (opPick (fget φ 52) (.bool true) (fget φ 57)) := stT_go rfl (goT_R rfl rfl)
noncomputable def c6_34 : Code := kR c6_32
noncomputable def c6_35 : Code := kT c6_34
noncomputable def c6_36 : Code := kL c6_35
noncomputable def r6_11 : Array Oper := kO c6_36
noncomputable def o6_11_0 : Oper := opN r6_11 0
theorem x6_36 : execA E C (fg 6) B 98 E0 N c6_36 s = regX (runA E C B 98 r6_11 r6_11.toList s) (fun s => gcM E0 [1, 2, 7, 8, 9, 58] (forget s.1 [1, 2, 7, 8, 9, 58], s.2)) := x_reg (ops := r6_11) (by rfl) (by rfl) s
theorem r6_11_l : r6_11.toList = [o6_11_0] := nrfl rfl
theorem s6_11_0 : stepA E C B 98 r6_11 o6_11_0 (φ, H) = some (fput φ 6 (.bool false), H) := nrfl rfl
noncomputable def c6_37 : Code := kR c6_35
theorem x6_37 : execA E C (fg 6) B 98 E0 N c6_37 s = some (.ret, s) := x_ret (by rfl) s
theorem x6_35 : execA E C (fg 6) B 98 E0 N c6_35 s = seqX (execA E C (fg 6) B 98 E0 N c6_36 s) (execA E C (fg 6) B 98 E0 N c6_37) := x_seq (by rfl) s
noncomputable def c6_38 : Code := kE c6_34
theorem x6_38 : execA E C (fg 6) B 98 E0 N c6_38 s = some (.normal, s) := x_skip (by rfl) s
theorem x6_34 : execA E C (fg 6) B 98 E0 N c6_34 (φ, H) = condX (fget φ 58) (execA E C (fg 6) B 98 E0 N c6_35 (φ, H)) (execA E C (fg 6) B 98 E0 N c6_38 (φ, H)) := x_cond (by rfl) _
theorem x6_32 : execA E C (fg 6) B 98 E0 N c6_32 s = seqX (execA E C (fg 6) B 98 E0 N c6_33 s) (execA E C (fg 6) B 98 E0 N c6_34) := x_seq (by rfl) s
noncomputable def c6_39 : Code := kR c6_31
noncomputable def c6_40 : Code := kL c6_39
noncomputable def c6_41 : Code := kL c6_40
noncomputable def r6_12 : Array Oper := kO c6_41
noncomputable def o6_12_0 : Oper := opN r6_12 0
noncomputable def o6_12_1 : Oper := opN r6_12 1
theorem x6_41 : execA E C (fg 6) B 98 E0 N c6_41 s = regX (runA E C B 98 r6_12 r6_12.toList s) (fun s => gcM E0 [58, 59] (forget s.1 [58, 59], s.2)) := x_reg (ops := r6_12) (by rfl) (by rfl) s
theorem r6_12_l : r6_12.toList = [o6_12_0, o6_12_1] := nrfl rfl
theorem s6_12_0 : stepA E C B 98 r6_12 o6_12_0 (φ, H) = some (fput φ 59 (fget φ 7), H) := nrfl rfl
theorem s6_12_1 : stepA E C B 98 r6_12 o6_12_1 (φ, H) = stp (some 60) φ H (just (aBin E.T .gtr 3 (fget φ 59) (.int .i64 5))) := nrfl rfl
noncomputable def c6_42 : Code := kR c6_40
noncomputable def c6_43 : Code := kT c6_42
noncomputable def c6_44 : Code := kL c6_43
noncomputable def r6_13 : Array Oper := kO c6_44
noncomputable def o6_13_0 : Oper := opN r6_13 0
noncomputable def o6_13_1 : Oper := opN r6_13 1
theorem x6_44 : execA E C (fg 6) B 98 E0 N c6_44 s = regX (runA E C B 98 r6_13 r6_13.toList s) (fun s => gcM E0 [1, 2, 7, 8, 9, 60, 61] (forget s.1 [1, 2, 7, 8, 9, 60, 61], s.2)) := x_reg (ops := r6_13) (by rfl) (by rfl) s
theorem r6_13_l : r6_13.toList = [o6_13_0, o6_13_1] := nrfl rfl
theorem s6_13_0 : stepA E C B 98 r6_13 o6_13_0 (φ, H) = stp (some 61) φ H (aCall C (fun j => B + j * 98 + 61) true 20 []) := nrfl rfl
theorem s6_13_1 : stepA E C B 98 r6_13 o6_13_1 (φ, H) = some (fput φ 6 (fget φ 61), H) := nrfl rfl
noncomputable def c6_45 : Code := kR c6_43
theorem x6_45 : execA E C (fg 6) B 98 E0 N c6_45 s = some (.ret, s) := x_ret (by rfl) s
theorem x6_43 : execA E C (fg 6) B 98 E0 N c6_43 s = seqX (execA E C (fg 6) B 98 E0 N c6_44 s) (execA E C (fg 6) B 98 E0 N c6_45) := x_seq (by rfl) s
noncomputable def c6_46 : Code := kE c6_42
theorem x6_46 : execA E C (fg 6) B 98 E0 N c6_46 s = some (.normal, s) := x_skip (by rfl) s
theorem x6_42 : execA E C (fg 6) B 98 E0 N c6_42 (φ, H) = condX (fget φ 60) (execA E C (fg 6) B 98 E0 N c6_43 (φ, H)) (execA E C (fg 6) B 98 E0 N c6_46 (φ, H)) := x_cond (by rfl) _
theorem x6_40 : execA E C (fg 6) B 98 E0 N c6_40 s = seqX (execA E C (fg 6) B 98 E0 N c6_41 s) (execA E C (fg 6) B 98 E0 N c6_42) := x_seq (by rfl) s
noncomputable def c6_47 : Code := kR c6_39
noncomputable def c6_48 : Code := kL c6_47
noncomputable def r6_14 : Array Oper := kO c6_48
noncomputable def o6_14_0 : Oper := opN r6_14 0
noncomputable def o6_14_1 : Oper := opN r6_14 1
noncomputable def o6_14_2 : Oper := opN r6_14 2
noncomputable def o6_14_3 : Oper := opN r6_14 3
theorem x6_48 : execA E C (fg 6) B 98 E0 N c6_48 s = regX (runA E C B 98 r6_14 r6_14.toList s) (fun s => gcM E0 [1, 60, 62, 63, 64] (forget s.1 [1, 60, 62, 63, 64], s.2)) := x_reg (ops := r6_14) (by rfl) (by rfl) s
theorem r6_14_l : r6_14.toList = [o6_14_0, o6_14_1, o6_14_2, o6_14_3] := nrfl rfl
theorem s6_14_0 : stepA E C B 98 r6_14 o6_14_0 (φ, H) = some (fput φ 62 (fget φ 1), H) := nrfl rfl
theorem s6_14_1 : stepA E C B 98 r6_14 o6_14_1 (φ, H) = stp (some 63) φ H (justO (aConv E.T 5 3 (fget φ 62))) := nrfl rfl
theorem s6_14_2 : stepA E C B 98 r6_14 o6_14_2 (φ, H) = stp (some 64) φ H (just (aBin E.T .add 3 (.int .i64 1) (fget φ 63))) := nrfl rfl
theorem s6_14_3 : stepA E C B 98 r6_14 o6_14_3 (φ, H) = some (fput φ 13 (fget φ 64), H) := nrfl rfl
noncomputable def c6_49 : Code := kR c6_47
noncomputable def c6_50 : Code := kL c6_49
noncomputable def r6_15 : Array Oper := kO c6_50
noncomputable def o6_15_0 : Oper := opN r6_15 0
noncomputable def o6_15_1 : Oper := opN r6_15 1
noncomputable def o6_15_2 : Oper := opN r6_15 2
noncomputable def o6_15_3 : Oper := opN r6_15 3
noncomputable def o6_15_4 : Oper := opN r6_15 4
noncomputable def o6_15_5 : Oper := opN r6_15 5
noncomputable def o6_15_6 : Oper := opN r6_15 6
noncomputable def o6_15_7 : Oper := opN r6_15 7
noncomputable def o6_15_8 : Oper := opN r6_15 8
noncomputable def o6_15_9 : Oper := opN r6_15 9
noncomputable def o6_15_10 : Oper := opN r6_15 10
noncomputable def o6_15_11 : Oper := opN r6_15 11
noncomputable def o6_15_12 : Oper := opN r6_15 12
noncomputable def o6_15_13 : Oper := opN r6_15 13
noncomputable def o6_15_14 : Oper := opN r6_15 14
noncomputable def o6_15_15 : Oper := opN r6_15 15
noncomputable def o6_15_16 : Oper := opN r6_15 16
noncomputable def o6_15_17 : Oper := opN r6_15 17
noncomputable def o6_15_18 : Oper := opN r6_15 18
noncomputable def o6_15_19 : Oper := opN r6_15 19
noncomputable def o6_15_20 : Oper := opN r6_15 20
noncomputable def o6_15_21 : Oper := opN r6_15 21
theorem x6_50 : execA E C (fg 6) B 98 E0 N c6_50 s = regX (runA E C B 98 r6_15 r6_15.toList s) (fun s => gcM E0 [2, 7, 65, 66, 67, 68, 69, 70, 71, 72, 73, 74, 75, 76, 77, 78, 79, 80, 81, 82, 83] (forget s.1 [2, 7, 65, 66, 67, 68, 69, 70, 71, 72, 73, 74, 75, 76, 77, 78, 79, 80, 81, 82, 83], s.2)) := x_reg (ops := r6_15) (by rfl) (by rfl) s
theorem r6_15_l : r6_15.toList = [o6_15_0, o6_15_1, o6_15_2, o6_15_3, o6_15_4, o6_15_5, o6_15_6, o6_15_7, o6_15_8, o6_15_9, o6_15_10, o6_15_11, o6_15_12, o6_15_13, o6_15_14, o6_15_15, o6_15_16, o6_15_17, o6_15_18, o6_15_19, o6_15_20, o6_15_21] := nrfl rfl
theorem s6_15_0 : stepA E C B 98 r6_15 o6_15_0 (φ, H) = some (fput φ 66 (fget φ 13), H) := nrfl rfl
theorem s6_15_1 : stepA E C B 98 r6_15 o6_15_1 (φ, H) = stp (some 67) φ H (aBuildSlice E.T (B + 67) 36 1 (evO E φ) [(0, Operand.tmp 66)]) := nrfl rfl
theorem s6_15_2 : stepA E C B 98 r6_15 o6_15_2 (φ, H) = stp (some 68) φ H (aCall C (fun j => B + j * 98 + 68) true 31 [(fget φ 67)]) := nrfl rfl
theorem s6_15_3 : stepA E C B 98 r6_15 o6_15_3 (φ, H) = some (fput φ 69 (fget φ 7), H) := nrfl rfl
theorem s6_15_4 : stepA E C B 98 r6_15 o6_15_4 (φ, H) = stp (some 70) φ H (aCall C (fun j => B + j * 98 + 70) true 30 [(fget φ 68), (fget φ 69)]) := nrfl rfl
theorem s6_15_5 : stepA E C B 98 r6_15 o6_15_5 (φ, H) = some (fput φ 71 (fget φ 2), H) := nrfl rfl
theorem s6_15_6 : stepA E C B 98 r6_15 o6_15_6 (φ, H) = stp (some 72) φ H (justO (aConv E.T 5 3 (fget φ 71))) := nrfl rfl
theorem s6_15_7 : stepA E C B 98 r6_15 o6_15_7 (φ, H) = stp (some 73) φ H (just (aBin E.T .rem 3 (fget φ 72) (.int .i64 9))) := nrfl rfl
theorem s6_15_8 : stepA E C B 98 r6_15 o6_15_8 (φ, H) = stp (some 74) φ H (just (aBin E.T .add 3 (.int .i64 1) (fget φ 73))) := nrfl rfl
theorem s6_15_9 : stepA E C B 98 r6_15 o6_15_9 (φ, H) = stp (some 75) φ H (aBuildSlice E.T (B + 75) 36 1 (evO E φ) [(0, Operand.tmp 74)]) := nrfl rfl
theorem s6_15_10 : stepA E C B 98 r6_15 o6_15_10 (φ, H) = stp (some 76) φ H (aCall C (fun j => B + j * 98 + 76) true 31 [(fget φ 75)]) := nrfl rfl
theorem s6_15_11 : stepA E C B 98 r6_15 o6_15_11 (φ, H) = some (fput φ 77 (fget φ 7), H) := nrfl rfl
theorem s6_15_12 : stepA E C B 98 r6_15 o6_15_12 (φ, H) = stp (some 78) φ H (aCall C (fun j => B + j * 98 + 78) true 30 [(fget φ 76), (fget φ 77)]) := nrfl rfl
theorem s6_15_13 : stepA E C B 98 r6_15 o6_15_13 (φ, H) = some (fput φ 79 (fget φ 7), H) := nrfl rfl
theorem s6_15_14 : stepA E C B 98 r6_15 o6_15_14 (φ, H) = stp (some 80) φ H (just (aBin E.T .sub 3 (fget φ 79) (.int .i64 1))) := nrfl rfl
theorem s6_15_15 : stepA E C B 98 r6_15 o6_15_15 (φ, H) = stp (some 81) φ H (aCall C (fun j => B + j * 98 + 81) true 29 [(fget φ 70), (fget φ 78), (fget φ 80)]) := nrfl rfl
theorem s6_15_16 : stepA E C B 98 r6_15 o6_15_16 (φ, H) = some (fput φ 65 (fget φ 81), H) := nrfl rfl
theorem s6_15_17 : stepA E C B 98 r6_15 o6_15_17 (φ, H) = stp (some 82) φ H (opExtract (fget φ 65) 0) := nrfl rfl
theorem s6_15_18 : stepA E C B 98 r6_15 o6_15_18 (φ, H) = stp (some 83) φ H (opExtract (fget φ 65) 1) := nrfl rfl
theorem s6_15_19 : stepA E C B 98 r6_15 o6_15_19 (φ, H) = stp (some 14) φ H (opBox (B + 14) (zeroCells E.T 56)) := nrfl rfl
theorem s6_15_20 : stepA E C B 98 r6_15 o6_15_20 (φ, H) = stp none φ H (opStore E.T 56 (fget φ 14) (fget φ 82)) := nrfl rfl
theorem s6_15_21 : stepA E C B 98 r6_15 o6_15_21 (φ, H) = some (fput φ 12 (fget φ 83), H) := nrfl rfl
noncomputable def c6_51 : Code := kR c6_49
noncomputable def c6_52 : Code := kL c6_51
noncomputable def r6_16 : Array Oper := kO c6_52
noncomputable def o6_16_0 : Oper := opN r6_16 0
noncomputable def o6_16_1 : Oper := opN r6_16 1
noncomputable def o6_16_2 : Oper := opN r6_16 2
noncomputable def o6_16_3 : Oper := opN r6_16 3
noncomputable def o6_16_4 : Oper := opN r6_16 4
noncomputable def o6_16_5 : Oper := opN r6_16 5
noncomputable def o6_16_6 : Oper := opN r6_16 6
noncomputable def o6_16_7 : Oper := opN r6_16 7
noncomputable def o6_16_8 : Oper := opN r6_16 8
noncomputable def o6_16_9 : Oper := opN r6_16 9
noncomputable def o6_16_10 : Oper := opN r6_16 10
noncomputable def o6_16_11 : Oper := opN r6_16 11
noncomputable def o6_16_12 : Oper := opN r6_16 12
noncomputable def o6_16_13 : Oper := opN r6_16 13
noncomputable def o6_16_14 : Oper := opN r6_16 14
theorem x6_52 : execA E C (fg 6) B 98 E0 N c6_52 s = regX (drawA E C B 98 r6_16 s) (fun s => gcM E0 [8, 9, 12, 13, 14, 84, 85, 86, 87, 88, 89, 90, 91, 92, 93, 94, 95, 96, 97] (forget s.1 [8, 9, 12, 13, 14, 84, 85, 86, 87, 88, 89, 90, 91, 92, 93, 94, 95, 96, 97], s.2)) := x_draw (ops := r6_16) (by rfl) (by rfl) s
theorem r6_16_l : r6_16.toList = [o6_16_0, o6_16_1, o6_16_2, o6_16_3, o6_16_4, o6_16_5, o6_16_6, o6_16_7, o6_16_8, o6_16_9, o6_16_10, o6_16_11, o6_16_12, o6_16_13, o6_16_14] := nrfl rfl
theorem r6_16_st : statOk r6_16 = true := by kernel_rfl
theorem r6_16_dr : drawA E C B 98 r6_16 s = if neat 98 s = true then drX r6_16 (runT E C B 98 r6_16 r6_16.toList 0 s) else none := draw_eq r6_16_st s
theorem r6_16_an (l : List (Nat × Tr)) : dynOk r6_16 l = (!writing l || dynPairs [[], [0], [0, 1], [0, 1, 2], [0, 1, 2], [0, 1, 2], [0, 1, 2, 4, 5], [0, 1, 2], [0, 1, 2, 4, 5, 6, 7], [0, 1, 2, 3, 4, 5, 6, 7, 8], [0, 1, 2, 3, 4, 5, 6, 7, 8, 9], [0, 1, 2, 3, 4, 5, 6, 7, 8, 9, 10], [0, 1, 2, 3, 4, 5, 6, 7, 8, 9, 10, 11], [0, 1, 2, 3, 4, 5, 6, 7, 8, 9, 10, 11, 12], [0, 1, 2, 3, 4, 5, 6, 7, 8, 9, 10, 11, 12, 13]] (touching l)) := dynOk_eq (by kernel_rfl) l
theorem s6_16_0 : stepT E C B 98 r6_16 o6_16_0 (φ, H) = some ((fput φ 84 (fget φ 12), H), ⟨false, [], []⟩) := stT_go rfl (goT_mv rfl rfl)
theorem s6_16_1 : stepT E C B 98 r6_16 o6_16_1 (φ, H) = stpT (some 85) φ H (just (aBin E.T .eql 30 (fget φ 84) (.int .i64 0))) := stT_go rfl (goT_R rfl rfl)
theorem s6_16_2 : stepT E C B 98 r6_16 o6_16_2 (φ, H) = some ((fput φ 86 (fget φ 85), H), ⟨false, [], []⟩) := stT_go rfl (goT_mv rfl rfl)
theorem s6_16_3 : stepT E C B 98 r6_16 o6_16_3 (φ, H) = gdT φ 86 true (fun φ => (some (fput φ 87 (.tup []), H)).map fun s => (s, ⟨false, [], []⟩)) (fun φ => stpT (some 87) φ H (just (aLoad E.T 56 (fget φ 14)))) := stT_gd (j := 2) (oj := o6_16_2) rfl rfl rfl (fun _ => rfl) (fun _ => goT_R rfl rfl)
theorem s6_16_4 : stepT E C B 98 r6_16 o6_16_4 (φ, H) = gdT φ 86 true (fun φ => (some (fput φ 88 (.tup []), H)).map fun s => (s, ⟨false, [], []⟩)) (fun φ => some ((fput φ 88 (fget φ 8), H), ⟨false, [], []⟩)) := stT_gd (j := 2) (oj := o6_16_2) rfl rfl rfl (fun _ => rfl) (fun _ => goT_mv rfl rfl)
theorem s6_16_5 : stepT E C B 98 r6_16 o6_16_5 (φ, H) = gdT φ 86 true (fun φ => (some (fput φ 89 (.tup []), H)).map fun s => (s, ⟨false, [], []⟩)) (fun φ => some ((fput φ 89 (fget φ 13), H), ⟨false, [], []⟩)) := stT_gd (j := 2) (oj := o6_16_2) rfl rfl rfl (fun _ => rfl) (fun _ => goT_mv rfl rfl)
theorem s6_16_6 : stepT E C B 98 r6_16 o6_16_6 (φ, H) = gdT φ 86 true (fun φ => (some (fput φ 90 (.tup []), H)).map fun s => (s, ⟨false, [], []⟩)) (fun φ => stpT (some 90) φ H (just (aBin E.T .mul 3 (fget φ 88) (fget φ 89)))) := stT_gd (j := 2) (oj := o6_16_2) rfl rfl rfl (fun _ => rfl) (fun _ => goT_R rfl rfl)
theorem s6_16_7 : stepT E C B 98 r6_16 o6_16_7 (φ, H) = gdT φ 86 true (fun φ => (some (fput φ 91 (.tup []), H)).map fun s => (s, ⟨false, [], []⟩)) (fun φ => some ((fput φ 91 (fget φ 9), H), ⟨false, [], []⟩)) := stT_gd (j := 2) (oj := o6_16_2) rfl rfl rfl (fun _ => rfl) (fun _ => goT_mv rfl rfl)
theorem s6_16_8 : stepT E C B 98 r6_16 o6_16_8 (φ, H) = gdT φ 86 true (fun φ => (some (fput φ 92 (.tup []), H)).map fun s => (s, ⟨false, [], []⟩)) (fun φ => stpT (some 92) φ H (aCall C (fun j => B + j * 98 + 92) true 28 [(fget φ 90), (fget φ 91)])) := stT_gd (j := 2) (oj := o6_16_2) rfl rfl rfl (fun _ => rfl) (fun _ => goT_R rfl rfl)
theorem s6_16_9 : stepT E C B 98 r6_16 o6_16_9 (φ, H) = gdT φ 86 true (fun φ => (some (fput φ 93 (.tup []), H)).map fun s => (s, ⟨false, [], []⟩)) (fun φ => stpT (some 93) φ H (just (aBin E.T .eql 56 (fget φ 87) (fget φ 92)))) := stT_gd (j := 2) (oj := o6_16_2) rfl rfl rfl (fun _ => rfl) (fun _ => goT_R rfl rfl)
theorem s6_16_10 : stepT E C B 98 r6_16 o6_16_10 (φ, H) = stpT (some 94) φ H (opPick (fget φ 86) (fget φ 93) (.bool false)) := stT_go rfl (goT_R rfl rfl)
theorem s6_16_11 : stepT E C B 98 r6_16 o6_16_11 (φ, H) = some ((fput φ 95 (fget φ 94), H), ⟨false, [], []⟩) := stT_go rfl (goT_mv rfl rfl)
theorem s6_16_12 : stepT E C B 98 r6_16 o6_16_12 (φ, H) = gdT φ 95 true (fun φ => (some (fput φ 96 (.tup []), H)).map fun s => (s, ⟨false, [], []⟩)) (fun φ => stpT (some 96) φ H (aCall C (fun j => B + j * 98 + 96) true 20 [])) := stT_gd (j := 11) (oj := o6_16_11) rfl rfl rfl (fun _ => rfl) (fun _ => goT_R rfl rfl)
theorem s6_16_13 : stepT E C B 98 r6_16 o6_16_13 (φ, H) = stpT (some 97) φ H (opPick (fget φ 95) (fget φ 96) (.bool false)) := stT_go rfl (goT_R rfl rfl)
theorem s6_16_14 : stepT E C B 98 r6_16 o6_16_14 (φ, H) = some ((fput φ 6 (fget φ 97), H), ⟨false, [], []⟩) := stT_go rfl (goT_mv rfl rfl)
noncomputable def c6_53 : Code := kR c6_51
theorem x6_53 : execA E C (fg 6) B 98 E0 N c6_53 s = some (.ret, s) := x_ret (by rfl) s
theorem x6_51 : execA E C (fg 6) B 98 E0 N c6_51 s = seqX (execA E C (fg 6) B 98 E0 N c6_52 s) (execA E C (fg 6) B 98 E0 N c6_53) := x_seq (by rfl) s
theorem x6_49 : execA E C (fg 6) B 98 E0 N c6_49 s = seqX (execA E C (fg 6) B 98 E0 N c6_50 s) (execA E C (fg 6) B 98 E0 N c6_51) := x_seq (by rfl) s
theorem x6_47 : execA E C (fg 6) B 98 E0 N c6_47 s = seqX (execA E C (fg 6) B 98 E0 N c6_48 s) (execA E C (fg 6) B 98 E0 N c6_49) := x_seq (by rfl) s
theorem x6_39 : execA E C (fg 6) B 98 E0 N c6_39 s = seqX (execA E C (fg 6) B 98 E0 N c6_40 s) (execA E C (fg 6) B 98 E0 N c6_47) := x_seq (by rfl) s
theorem x6_31 : execA E C (fg 6) B 98 E0 N c6_31 s = seqX (execA E C (fg 6) B 98 E0 N c6_32 s) (execA E C (fg 6) B 98 E0 N c6_39) := x_seq (by rfl) s
theorem x6_23 : execA E C (fg 6) B 98 E0 N c6_23 s = seqX (execA E C (fg 6) B 98 E0 N c6_24 s) (execA E C (fg 6) B 98 E0 N c6_31) := x_seq (by rfl) s
theorem x6_21 : execA E C (fg 6) B 98 E0 N c6_21 s = seqX (execA E C (fg 6) B 98 E0 N c6_22 s) (execA E C (fg 6) B 98 E0 N c6_23) := x_seq (by rfl) s
theorem x6_6 : execA E C (fg 6) B 98 E0 N c6_6 s = seqX (execA E C (fg 6) B 98 E0 N c6_7 s) (execA E C (fg 6) B 98 E0 N c6_21) := x_seq (by rfl) s
theorem x6_4 : execA E C (fg 6) B 98 E0 N c6_4 s = seqX (execA E C (fg 6) B 98 E0 N c6_5 s) (execA E C (fg 6) B 98 E0 N c6_6) := x_seq (by rfl) s
theorem x6_2 : execA E C (fg 6) B 98 E0 N c6_2 s = seqX (execA E C (fg 6) B 98 E0 N c6_3 s) (execA E C (fg 6) B 98 E0 N c6_4) := x_seq (by rfl) s
theorem x6_0 : execA E C (fg 6) B 98 E0 N c6_0 s = seqX (execA E C (fg 6) B 98 E0 N c6_1 s) (execA E C (fg 6) B 98 E0 N c6_2) := x_seq (by rfl) s
theorem fi_6 : fInfo E 6 = some ⟨98, #[.tmp 6], c6_0⟩ := nrfl rfl
theorem b_6 (args : List AV) : bodyA E C fg N 6 args H B = bodyX E [.tmp 6] (execA E C (fg 6) B 98 H N c6_0 (frame0 args 0 [], H)) := bodyA_eq fi_6 args H
end Go.AM.Ytikchlfbjdfioaa
