/- A part of the proof of rubLattice_holds: SyC, RuA, RuB, RtA, CelH, CelG, RtB, RuF, RtC, RubQ, RtG, RubN, RtD, RubP, RubM, RtE, RtH, RtI. Own work of this project; texts printed by own programs among it. -/
import Derived.KernelRfl
import Derived.Test.YtfmnoohhhokicaaReI
section
namespace Go.AM.Ytfmnoohhhokicaa
open Go Go.AM
set_option maxRecDepth 100000
variable {C : Callee} {B N : Nat} {E0 : AHeap} (φ : AFr) (H : AHeap) (s : St)
noncomputable def c24_0 : Code := kBody Proofs.Try.f24
noncomputable def c24_1 : Code := kL c24_0
noncomputable def r24_0 : Array Oper := kO c24_1
noncomputable def o24_0_0 : Oper := opN r24_0 0
theorem x24_1 : execA E C (fg 24) B 26 E0 N c24_1 s = regX (runA E C B 26 r24_0 r24_0.toList s) (fun s => gcM E0 [4] (forget s.1 [4], s.2)) := x_reg (ops := r24_0) (by rfl) (by rfl) s
theorem r24_0_l : r24_0.toList = [o24_0_0] := nrfl rfl
theorem s24_0_0 : stepA E C B 26 r24_0 o24_0_0 (φ, H) = some (fput φ 4 (.bool false), H) := nrfl rfl
noncomputable def c24_2 : Code := kR c24_0
noncomputable def c24_3 : Code := kL c24_2
noncomputable def c24_4 : Code := kL c24_3
noncomputable def r24_1 : Array Oper := kO c24_4
noncomputable def o24_1_0 : Oper := opN r24_1 0
noncomputable def o24_1_1 : Oper := opN r24_1 1
noncomputable def o24_1_2 : Oper := opN r24_1 2
noncomputable def o24_1_3 : Oper := opN r24_1 3
noncomputable def o24_1_4 : Oper := opN r24_1 4
theorem x24_4 : execA E C (fg 24) B 26 E0 N c24_4 s = regX (runA E C B 26 r24_1 r24_1.toList s) (fun s => gcM E0 [6, 7, 8, 9] (forget s.1 [6, 7, 8, 9], s.2)) := x_reg (ops := r24_1) (by rfl) (by rfl) s
theorem r24_1_l : r24_1.toList = [o24_1_0, o24_1_1, o24_1_2, o24_1_3, o24_1_4] := nrfl rfl
theorem s24_1_0 : stepA E C B 26 r24_1 o24_1_0 (φ, H) = some (fput φ 6 (fget φ 0), H) := nrfl rfl
theorem s24_1_1 : stepA E C B 26 r24_1 o24_1_1 (φ, H) = stp (some 7) φ H (aBuiltin E.T (B + 7) .len #[22] [(fget φ 6)]) := nrfl rfl
theorem s24_1_2 : stepA E C B 26 r24_1 o24_1_2 (φ, H) = some (fput φ 8 (fget φ 1), H) := nrfl rfl
theorem s24_1_3 : stepA E C B 26 r24_1 o24_1_3 (φ, H) = stp (some 9) φ H (aBuiltin E.T (B + 9) .len #[22] [(fget φ 8)]) := nrfl rfl
theorem s24_1_4 : stepA E C B 26 r24_1 o24_1_4 (φ, H) = stp (some 10) φ H (just (aBin E.T .neq 3 (fget φ 7) (fget φ 9))) := nrfl rfl
noncomputable def c24_5 : Code := kR c24_3
noncomputable def c24_6 : Code := kT c24_5
noncomputable def c24_7 : Code := kL c24_6
noncomputable def r24_2 : Array Oper := kO c24_7
noncomputable def o24_2_0 : Oper := opN r24_2 0
theorem x24_7 : execA E C (fg 24) B 26 E0 N c24_7 s = regX (runA E C B 26 r24_2 r24_2.toList s) (fun s => gcM E0 [0, 1, 10] (forget s.1 [0, 1, 10], s.2)) := x_reg (ops := r24_2) (by rfl) (by rfl) s
theorem r24_2_l : r24_2.toList = [o24_2_0] := nrfl rfl
theorem s24_2_0 : stepA E C B 26 r24_2 o24_2_0 (φ, H) = some (fput φ 4 (.bool false), H) := nrfl rfl
noncomputable def c24_8 : Code := kR c24_6
theorem x24_8 : execA E C (fg 24) B 26 E0 N c24_8 s = some (.ret, s) := x_ret (by rfl) s
theorem x24_6 : execA E C (fg 24) B 26 E0 N c24_6 s = seqX (execA E C (fg 24) B 26 E0 N c24_7 s) (execA E C (fg 24) B 26 E0 N c24_8) := x_seq (by rfl) s
noncomputable def c24_9 : Code := kE c24_5
theorem x24_9 : execA E C (fg 24) B 26 E0 N c24_9 s = some (.normal, s) := x_skip (by rfl) s
theorem x24_5 : execA E C (fg 24) B 26 E0 N c24_5 (φ, H) = condX (fget φ 10) (execA E C (fg 24) B 26 E0 N c24_6 (φ, H)) (execA E C (fg 24) B 26 E0 N c24_9 (φ, H)) := x_cond (by rfl) _
theorem x24_3 : execA E C (fg 24) B 26 E0 N c24_3 s = seqX (execA E C (fg 24) B 26 E0 N c24_4 s) (execA E C (fg 24) B 26 E0 N c24_5) := x_seq (by rfl) s
noncomputable def c24_10 : Code := kR c24_2
noncomputable def c24_11 : Code := kL c24_10
noncomputable def c24_12 : Code := kL c24_11
noncomputable def r24_3 : Array Oper := kO c24_12
noncomputable def o24_3_0 : Oper := opN r24_3 0
theorem x24_12 : execA E C (fg 24) B 26 E0 N c24_12 s = regX (runA E C B 26 r24_3 r24_3.toList s) (fun s => gcM E0 [10] (forget s.1 [10], s.2)) := x_reg (ops := r24_3) (by rfl) (by rfl) s
theorem r24_3_l : r24_3.toList = [o24_3_0] := nrfl rfl
theorem s24_3_0 : stepA E C B 26 r24_3 o24_3_0 (φ, H) = some (fput φ 5 (.int .i64 0), H) := nrfl rfl
noncomputable def c24_13 : Code := kR c24_11
noncomputable def c24_14 : Code := kB c24_13
noncomputable def c24_15 : Code := kB c24_14
noncomputable def c24_16 : Code := kL c24_15
noncomputable def c24_17 : Code := kL c24_16
noncomputable def r24_4 : Array Oper := kO c24_17
noncomputable def o24_4_0 : Oper := opN r24_4 0
noncomputable def o24_4_1 : Oper := opN r24_4 1
noncomputable def o24_4_2 : Oper := opN r24_4 2
noncomputable def o24_4_3 : Oper := opN r24_4 3
theorem x24_17 : execA E C (fg 24) B 26 E0 N c24_17 s = regX (runA E C B 26 r24_4 r24_4.toList s) (fun s => gcM E0 [11, 12, 13] (forget s.1 [11, 12, 13], s.2)) := x_reg (ops := r24_4) (by rfl) (by rfl) s
theorem r24_4_l : r24_4.toList = [o24_4_0, o24_4_1, o24_4_2, o24_4_3] := nrfl rfl
theorem s24_4_0 : stepA E C B 26 r24_4 o24_4_0 (φ, H) = some (fput φ 11 (fget φ 5), H) := nrfl rfl
theorem s24_4_1 : stepA E C B 26 r24_4 o24_4_1 (φ, H) = some (fput φ 12 (fget φ 0), H) := nrfl rfl
theorem s24_4_2 : stepA E C B 26 r24_4 o24_4_2 (φ, H) = stp (some 13) φ H (aBuiltin E.T (B + 13) .len #[22] [(fget φ 12)]) := nrfl rfl
theorem s24_4_3 : stepA E C B 26 r24_4 o24_4_3 (φ, H) = stp (some 14) φ H (just (aBin E.T .lss 3 (fget φ 11) (fget φ 13))) := nrfl rfl
noncomputable def c24_18 : Code := kR c24_16
noncomputable def c24_19 : Code := kT c24_18
theorem x24_19 : execA E C (fg 24) B 26 E0 N c24_19 s = some (.normal, s) := x_skip (by rfl) s
noncomputable def c24_20 : Code := kE c24_18
theorem x24_20 : execA E C (fg 24) B 26 E0 N c24_20 s = some (.exit 0, s) := x_exit (by rfl) s
theorem x24_18 : execA E C (fg 24) B 26 E0 N c24_18 (φ, H) = condX (fget φ 14) (execA E C (fg 24) B 26 E0 N c24_19 (φ, H)) (execA E C (fg 24) B 26 E0 N c24_20 (φ, H)) := x_cond (by rfl) _
theorem x24_16 : execA E C (fg 24) B 26 E0 N c24_16 s = seqX (execA E C (fg 24) B 26 E0 N c24_17 s) (execA E C (fg 24) B 26 E0 N c24_18) := x_seq (by rfl) s
noncomputable def c24_21 : Code := kR c24_15
noncomputable def c24_22 : Code := kL c24_21
noncomputable def c24_23 : Code := kB c24_22
noncomputable def c24_24 : Code := kL c24_23
noncomputable def r24_6 : Array Oper := kO c24_24
noncomputable def o24_6_0 : Oper := opN r24_6 0
noncomputable def o24_6_1 : Oper := opN r24_6 1
noncomputable def o24_6_2 : Oper := opN r24_6 2
noncomputable def o24_6_3 : Oper := opN r24_6 3
noncomputable def o24_6_4 : Oper := opN r24_6 4
noncomputable def o24_6_5 : Oper := opN r24_6 5
noncomputable def o24_6_6 : Oper := opN r24_6 6
noncomputable def o24_6_7 : Oper := opN r24_6 7
noncomputable def o24_6_8 : Oper := opN r24_6 8
theorem x24_24 : execA E C (fg 24) B 26 E0 N c24_24 s = regX (drawA E C B 26 r24_6 s) (fun s => gcM E0 [14, 17, 18, 19, 20, 21, 22, 23, 24] (forget s.1 [14, 17, 18, 19, 20, 21, 22, 23, 24], s.2)) := x_draw (ops := r24_6) (by rfl) (by rfl) s
theorem r24_6_l : r24_6.toList = [o24_6_0, o24_6_1, o24_6_2, o24_6_3, o24_6_4, o24_6_5, o24_6_6, o24_6_7, o24_6_8] := nrfl rfl
theorem r24_6_st : statOk r24_6 = true := by kernel_rfl
theorem r24_6_dr : drawA E C B 26 r24_6 s = if neat 26 s = true then drX r24_6 (runT E C B 26 r24_6 r24_6.toList 0 s) else none := draw_eq r24_6_st s
theorem r24_6_an (l : List (Nat × Tr)) : dynOk r24_6 l = (!writing l || dynPairs [[], [], [0, 1], [0, 1, 2], [], [], [4, 5], [4, 5, 6], [0, 1, 2, 3, 4, 5, 6, 7]] (touching l)) := dynOk_eq (by kernel_rfl) l
theorem s24_6_0 : stepT E C B 26 r24_6 o24_6_0 (φ, H) = some ((fput φ 17 (fget φ 0), H), ⟨false, [], []⟩) := stT_go rfl (goT_mv rfl rfl)
theorem s24_6_1 : stepT E C B 26 r24_6 o24_6_1 (φ, H) = some ((fput φ 18 (fget φ 5), H), ⟨false, [], []⟩) := stT_go rfl (goT_mv rfl rfl)
theorem s24_6_2 : stepT E C B 26 r24_6 o24_6_2 (φ, H) = stpT (some 19) φ H (just (aIndexAddr E.T 22 (fget φ 17) (fget φ 18))) := stT_go rfl (goT_R rfl rfl)
theorem s24_6_3 : stepT E C B 26 r24_6 o24_6_3 (φ, H) = stpT (some 20) φ H (just (aLoad E.T 3 (fget φ 19))) := stT_go rfl (goT_R rfl rfl)
theorem s24_6_4 : stepT E C B 26 r24_6 o24_6_4 (φ, H) = some ((fput φ 21 (fget φ 1), H), ⟨false, [], []⟩) := stT_go rfl (goT_mv rfl rfl)
theorem s24_6_5 : stepT E C B 26 r24_6 o24_6_5 (φ, H) = some ((fput φ 22 (fget φ 5), H), ⟨false, [], []⟩) := stT_go rfl (goT_mv rfl rfl)
theorem s24_6_6 : stepT E C B 26 r24_6 o24_6_6 (φ, H) = stpT (some 23) φ H (just (aIndexAddr E.T 22 (fget φ 21) (fget φ 22))) := stT_go rfl (goT_R rfl rfl)
theorem s24_6_7 : stepT E C B 26 r24_6 o24_6_7 (φ, H) = stpT (some 24) φ H (just (aLoad E.T 3 (fget φ 23))) := stT_go rfl (goT_R rfl rfl)
theorem s24_6_8 : stepT E C B 26 r24_6 o24_6_8 (φ, H) = stpT (some 25) φ H (just (aBin E.T .neq 3 (fget φ 20) (fget φ 24))) := stT_go rfl (goT_R rfl rfl)
noncomputable def c24_25 : Code := kR c24_23
noncomputable def c24_26 : Code := kT c24_25
noncomputable def c24_27 : Code := kL c24_26
noncomputable def r24_7 : Array Oper := kO c24_27
noncomputable def o24_7_0 : Oper := opN r24_7 0
theorem x24_27 : execA E C (fg 24) B 26 E0 N c24_27 s = regX (runA E C B 26 r24_7 r24_7.toList s) (fun s => gcM E0 [0, 1, 5, 25] (forget s.1 [0, 1, 5, 25], s.2)) := x_reg (ops := r24_7) (by rfl) (by rfl) s
theorem r24_7_l : r24_7.toList = [o24_7_0] := nrfl rfl
theorem s24_7_0 : stepA E C B 26 r24_7 o24_7_0 (φ, H) = some (fput φ 4 (.bool false), H) := nrfl rfl
noncomputable def c24_28 : Code := kR c24_26
theorem x24_28 : execA E C (fg 24) B 26 E0 N c24_28 s = some (.ret, s) := x_ret (by rfl) s
theorem x24_26 : execA E C (fg 24) B 26 E0 N c24_26 s = seqX (execA E C (fg 24) B 26 E0 N c24_27 s) (execA E C (fg 24) B 26 E0 N c24_28) := x_seq (by rfl) s
noncomputable def c24_29 : Code := kE c24_25
theorem x24_29 : execA E C (fg 24) B 26 E0 N c24_29 s = some (.normal, s) := x_skip (by rfl) s
theorem x24_25 : execA E C (fg 24) B 26 E0 N c24_25 (φ, H) = condX (fget φ 25) (execA E C (fg 24) B 26 E0 N c24_26 (φ, H)) (execA E C (fg 24) B 26 E0 N c24_29 (φ, H)) := x_cond (by rfl) _
theorem x24_23 : execA E C (fg 24) B 26 E0 N c24_23 s = seqX (execA E C (fg 24) B 26 E0 N c24_24 s) (execA E C (fg 24) B 26 E0 N c24_25) := x_seq (by rfl) s
theorem x24_22 : execA E C (fg 24) B 26 E0 N c24_22 s = blockX 1 (fun s => (forget s.1 [25], s.2)) (execA E C (fg 24) B 26 E0 N c24_23 s) := x_block (by rfl) (by rfl) s
noncomputable def c24_30 : Code := kR c24_21
noncomputable def r24_5 : Array Oper := kO c24_30
noncomputable def o24_5_0 : Oper := opN r24_5 0
noncomputable def o24_5_1 : Oper := opN r24_5 1
noncomputable def o24_5_2 : Oper := opN r24_5 2
theorem x24_30 : execA E C (fg 24) B 26 E0 N c24_30 s = regX (runA E C B 26 r24_5 r24_5.toList s) (fun s => gcM E0 [15, 16] (forget s.1 [15, 16], s.2)) := x_reg (ops := r24_5) (by rfl) (by rfl) s
theorem r24_5_l : r24_5.toList = [o24_5_0, o24_5_1, o24_5_2] := nrfl rfl
theorem s24_5_0 : stepA E C B 26 r24_5 o24_5_0 (φ, H) = some (fput φ 15 (fget φ 5), H) := nrfl rfl
theorem s24_5_1 : stepA E C B 26 r24_5 o24_5_1 (φ, H) = stp (some 16) φ H (just (aBin E.T .add 3 (fget φ 15) (.int .i64 1))) := nrfl rfl
theorem s24_5_2 : stepA E C B 26 r24_5 o24_5_2 (φ, H) = some (fput φ 5 (fget φ 16), H) := nrfl rfl
theorem x24_21 : execA E C (fg 24) B 26 E0 N c24_21 s = seqX (execA E C (fg 24) B 26 E0 N c24_22 s) (execA E C (fg 24) B 26 E0 N c24_30) := x_seq (by rfl) s
theorem x24_15 : execA E C (fg 24) B 26 E0 N c24_15 s = seqX (execA E C (fg 24) B 26 E0 N c24_16 s) (execA E C (fg 24) B 26 E0 N c24_21) := x_seq (by rfl) s
theorem x24_14 : execA E C (fg 24) B 26 E0 N c24_14 s = iterA (execA E C (fg 24) B 26 E0 N c24_15) (headA E0) N s := x_loop (by rfl) s
theorem x24_13 : execA E C (fg 24) B 26 E0 N c24_13 s = blockX 0 (fun s => (forget s.1 [0, 1, 5, 14], s.2)) (execA E C (fg 24) B 26 E0 N c24_14 s) := x_block (by rfl) (by rfl) s
theorem x24_11 : execA E C (fg 24) B 26 E0 N c24_11 s = seqX (execA E C (fg 24) B 26 E0 N c24_12 s) (execA E C (fg 24) B 26 E0 N c24_13) := x_seq (by rfl) s
noncomputable def c24_31 : Code := kR c24_10
noncomputable def c24_32 : Code := kL c24_31
noncomputable def r24_8 : Array Oper := kO c24_32
noncomputable def o24_8_0 : Oper := opN r24_8 0
theorem x24_32 : execA E C (fg 24) B 26 E0 N c24_32 s = regX (runA E C B 26 r24_8 r24_8.toList s) (fun s => gcM E0 [] (forget s.1 [], s.2)) := x_reg (ops := r24_8) (by rfl) (by rfl) s
theorem r24_8_l : r24_8.toList = [o24_8_0] := nrfl rfl
theorem s24_8_0 : stepA E C B 26 r24_8 o24_8_0 (φ, H) = some (fput φ 4 (.bool true), H) := nrfl rfl
noncomputable def c24_33 : Code := kR c24_31
theorem x24_33 : execA E C (fg 24) B 26 E0 N c24_33 s = some (.ret, s) := x_ret (by rfl) s
theorem x24_31 : execA E C (fg 24) B 26 E0 N c24_31 s = seqX (execA E C (fg 24) B 26 E0 N c24_32 s) (execA E C (fg 24) B 26 E0 N c24_33) := x_seq (by rfl) s
theorem x24_10 : execA E C (fg 24) B 26 E0 N c24_10 s = seqX (execA E C (fg 24) B 26 E0 N c24_11 s) (execA E C (fg 24) B 26 E0 N c24_31) := x_seq (by rfl) s
theorem x24_2 : execA E C (fg 24) B 26 E0 N c24_2 s = seqX (execA E C (fg 24) B 26 E0 N c24_3 s) (execA E C (fg 24) B 26 E0 N c24_10) := x_seq (by rfl) s
theorem x24_0 : execA E C (fg 24) B 26 E0 N c24_0 s = seqX (execA E C (fg 24) B 26 E0 N c24_1 s) (execA E C (fg 24) B 26 E0 N c24_2) := x_seq (by rfl) s
theorem fi_24 : fInfo E 24 = some ⟨26, #[.tmp 4], c24_0⟩ := nrfl rfl
theorem b_24 (args : List AV) : bodyA E C fg N 24 args H B = bodyX E [.tmp 4] (execA E C (fg 24) B 26 H N c24_0 (frame0 args 0 [], H)) := bodyA_eq fi_24 args H
abbrev F_24 := And.intro (And.intro (And.intro (And.intro (And.intro (And.intro @x24_1 @r24_0_l) (And.intro @s24_0_0 @x24_4)) (And.intro (And.intro @r24_1_l @s24_1_0) (And.intro @s24_1_1 (And.intro @s24_1_2 @s24_1_3)))) (And.intro (And.intro (And.intro @s24_1_4 @x24_7) (And.intro @r24_2_l @s24_2_0)) (And.intro (And.intro @x24_8 @x24_6) (And.intro @x24_9 (And.intro @x24_5 @x24_3))))) (And.intro (And.intro (And.intro (And.intro @x24_12 @r24_3_l) (And.intro @s24_3_0 @x24_17)) (And.intro (And.intro @r24_4_l @s24_4_0) (And.intro @s24_4_1 (And.intro @s24_4_2 @s24_4_3)))) (And.intro (And.intro (And.intro @x24_19 @x24_20) (And.intro @x24_18 @x24_16)) (And.intro (And.intro @x24_24 @r24_6_l) (And.intro @r24_6_dr (And.intro @r24_6_an @s24_6_0)))))) (And.intro (And.intro (And.intro (And.intro (And.intro @s24_6_1 @s24_6_2) (And.intro @s24_6_3 @s24_6_4)) (And.intro (And.intro @s24_6_5 @s24_6_6) (And.intro @s24_6_7 (And.intro @s24_6_8 @x24_27)))) (And.intro (And.intro (And.intro @r24_7_l @s24_7_0) (And.intro @x24_28 @x24_26)) (And.intro (And.intro @x24_29 @x24_25) (And.intro @x24_23 (And.intro @x24_22 @x24_30))))) (And.intro (And.intro (And.intro (And.intro @r24_5_l @s24_5_0) (And.intro @s24_5_1 @s24_5_2)) (And.intro (And.intro @x24_21 @x24_15) (And.intro @x24_14 (And.intro @x24_13 @x24_11)))) (And.intro (And.intro (And.intro @x24_32 @r24_8_l) (And.intro @s24_8_0 @x24_33)) (And.intro (And.intro @x24_31 @x24_10) (And.intro @x24_2 (And.intro @x24_0 @b_24))))))
noncomputable def c56_0 : Code := kBody Proofs.Try.f56
noncomputable def c56_1 : Code := kL c56_0
noncomputable def r56_0 : Array Oper := kO c56_1
noncomputable def o56_0_0 : Oper := opN r56_0 0
noncomputable def o56_0_1 : Oper := opN r56_0 1
theorem x56_1 : execA E C (fg 56) B 40 E0 N c56_1 s = regX (runA E C B 40 r56_0 r56_0.toList s) (fun s => gcM E0 [0, 6] (forget s.1 [0, 6], s.2)) := x_reg (ops := r56_0) (by rfl) (by rfl) s
theorem r56_0_l : r56_0.toList = [o56_0_0, o56_0_1] := nrfl rfl
theorem s56_0_0 : stepA E C B 40 r56_0 o56_0_0 (φ, H) = stp (some 3) φ H (opBox (B + 3) (acells (fget φ 0))) := nrfl rfl
theorem s56_0_1 : stepA E C B 40 r56_0 o56_0_1 (φ, H) = some (fput φ 6 (.nilsl), H) := nrfl rfl
noncomputable def c56_2 : Code := kR c56_0
noncomputable def c56_3 : Code := kL c56_2
noncomputable def r56_1 : Array Oper := kO c56_3
noncomputable def o56_1_0 : Oper := opN r56_1 0
theorem x56_3 : execA E C (fg 56) B 40 E0 N c56_3 s = regX (runA E C B 40 r56_1 r56_1.toList s) (fun s => gcM E0 [] (forget s.1 [], s.2)) := x_reg (ops := r56_1) (by rfl) (by rfl) s
theorem r56_1_l : r56_1.toList = [o56_1_0] := nrfl rfl
theorem s56_1_0 : stepA E C B 40 r56_1 o56_1_0 (φ, H) = some (fput φ 7 (.nilsl), H) := nrfl rfl
noncomputable def c56_4 : Code := kR c56_2
noncomputable def c56_5 : Code := kL c56_4
noncomputable def c56_6 : Code := kL c56_5
noncomputable def r56_2 : Array Oper := kO c56_6
noncomputable def o56_2_0 : Oper := opN r56_2 0
noncomputable def o56_2_1 : Oper := opN r56_2 1
noncomputable def o56_2_2 : Oper := opN r56_2 2
noncomputable def o56_2_3 : Oper := opN r56_2 3
noncomputable def o56_2_4 : Oper := opN r56_2 4
noncomputable def o56_2_5 : Oper := opN r56_2 5
noncomputable def o56_2_6 : Oper := opN r56_2 6
noncomputable def o56_2_7 : Oper := opN r56_2 7
noncomputable def o56_2_8 : Oper := opN r56_2 8
noncomputable def o56_2_9 : Oper := opN r56_2 9
theorem x56_6 : execA E C (fg 56) B 40 E0 N c56_6 s = regX (runA E C B 40 r56_2 r56_2.toList s) (fun s => gcM E0 [1, 10, 11, 12, 13, 14, 15, 16] (forget s.1 [1, 10, 11, 12, 13, 14, 15, 16], s.2)) := x_reg (ops := r56_2) (by rfl) (by rfl) s
theorem r56_2_l : r56_2.toList = [o56_2_0, o56_2_1, o56_2_2, o56_2_3, o56_2_4, o56_2_5, o56_2_6, o56_2_7, o56_2_8, o56_2_9] := nrfl rfl
theorem s56_2_0 : stepA E C B 40 r56_2 o56_2_0 (φ, H) = stp (some 10) φ H (just (aFieldAddr E.T 49 (fget φ 3) 2)) := nrfl rfl
theorem s56_2_1 : stepA E C B 40 r56_2 o56_2_1 (φ, H) = stp (some 11) φ H (just (aFieldAddr E.T 49 (fget φ 3) 0)) := nrfl rfl
theorem s56_2_2 : stepA E C B 40 r56_2 o56_2_2 (φ, H) = stp (some 12) φ H (just (aLoad E.T 5 (fget φ 11))) := nrfl rfl
theorem s56_2_3 : stepA E C B 40 r56_2 o56_2_3 (φ, H) = stp (some 13) φ H (justO (aConv E.T 5 3 (fget φ 12))) := nrfl rfl
theorem s56_2_4 : stepA E C B 40 r56_2 o56_2_4 (φ, H) = some (fput φ 14 (fget φ 1), H) := nrfl rfl
theorem s56_2_5 : stepA E C B 40 r56_2 o56_2_5 (φ, H) = stp (some 15) φ H (just (aBin E.T .rem 3 (fget φ 13) (fget φ 14))) := nrfl rfl
theorem s56_2_6 : stepA E C B 40 r56_2 o56_2_6 (φ, H) = stp (some 16) φ H (just (aBin E.T .add 3 (.int .i64 1) (fget φ 15))) := nrfl rfl
theorem s56_2_7 : stepA E C B 40 r56_2 o56_2_7 (φ, H) = stp (some 17) φ H (just (aSlice E.T 47 (fget φ 10) none (some (fget φ 16)) none)) := nrfl rfl
theorem s56_2_8 : stepA E C B 40 r56_2 o56_2_8 (φ, H) = stp (some 18) φ H (aBuiltin E.T (B + 18) .len #[93] [(fget φ 17)]) := nrfl rfl
theorem s56_2_9 : stepA E C B 40 r56_2 o56_2_9 (φ, H) = some (fput φ 19 (.int .i64 0), H) := nrfl rfl
noncomputable def c56_7 : Code := kR c56_5
noncomputable def c56_8 : Code := kB c56_7
noncomputable def c56_9 : Code := kB c56_8
noncomputable def c56_10 : Code := kL c56_9
noncomputable def r56_3 : Array Oper := kO c56_10
noncomputable def o56_3_0 : Oper := opN r56_3 0
theorem x56_10 : execA E C (fg 56) B 40 E0 N c56_10 s = regX (runA E C B 40 r56_3 r56_3.toList s) (fun s => gcM E0 [] (forget s.1 [], s.2)) := x_reg (ops := r56_3) (by rfl) (by rfl) s
theorem r56_3_l : r56_3.toList = [o56_3_0] := nrfl rfl
theorem s56_3_0 : stepA E C B 40 r56_3 o56_3_0 (φ, H) = stp (some 20) φ H (just (aBin E.T .lss 3 (fget φ 19) (fget φ 18))) := nrfl rfl
noncomputable def c56_11 : Code := kR c56_9
noncomputable def c56_12 : Code := kL c56_11
noncomputable def c56_13 : Code := kT c56_12
theorem x56_13 : execA E C (fg 56) B 40 E0 N c56_13 s = some (.normal, s) := x_skip (by rfl) s
noncomputable def c56_14 : Code := kE c56_12
theorem x56_14 : execA E C (fg 56) B 40 E0 N c56_14 s = some (.exit 0, s) := x_exit (by rfl) s
theorem x56_12 : execA E C (fg 56) B 40 E0 N c56_12 (φ, H) = condX (fget φ 20) (execA E C (fg 56) B 40 E0 N c56_13 (φ, H)) (execA E C (fg 56) B 40 E0 N c56_14 (φ, H)) := x_cond (by rfl) _
noncomputable def c56_15 : Code := kR c56_11
noncomputable def c56_16 : Code := kL c56_15
noncomputable def c56_17 : Code := kB c56_16
noncomputable def c56_18 : Code := kL c56_17
noncomputable def r56_4 : Array Oper := kO c56_18
noncomputable def o56_4_0 : Oper := opN r56_4 0
noncomputable def o56_4_1 : Oper := opN r56_4 1
noncomputable def o56_4_2 : Oper := opN r56_4 2
theorem x56_18 : execA E C (fg 56) B 40 E0 N c56_18 s = regX (runA E C B 40 r56_4 r56_4.toList s) (fun s => gcM E0 [20, 21, 22] (forget s.1 [20, 21, 22], s.2)) := x_reg (ops := r56_4) (by rfl) (by rfl) s
theorem r56_4_l : r56_4.toList = [o56_4_0, o56_4_1, o56_4_2] := nrfl rfl
theorem s56_4_0 : stepA E C B 40 r56_4 o56_4_0 (φ, H) = stp (some 21) φ H (just (aIndexAddr E.T 93 (fget φ 17) (fget φ 19))) := nrfl rfl
theorem s56_4_1 : stepA E C B 40 r56_4 o56_4_1 (φ, H) = stp (some 22) φ H (just (aLoad E.T 5 (fget φ 21))) := nrfl rfl
theorem s56_4_2 : stepA E C B 40 r56_4 o56_4_2 (φ, H) = some (fput φ 9 (fget φ 22), H) := nrfl rfl
noncomputable def c56_19 : Code := kR c56_17
noncomputable def r56_5 : Array Oper := kO c56_19
noncomputable def o56_5_0 : Oper := opN r56_5 0
noncomputable def o56_5_1 : Oper := opN r56_5 1
noncomputable def o56_5_2 : Oper := opN r56_5 2
noncomputable def o56_5_3 : Oper := opN r56_5 3
noncomputable def o56_5_4 : Oper := opN r56_5 4
noncomputable def o56_5_5 : Oper := opN r56_5 5
noncomputable def o56_5_6 : Oper := opN r56_5 6
noncomputable def o56_5_7 : Oper := opN r56_5 7
noncomputable def o56_5_8 : Oper := opN r56_5 8
noncomputable def o56_5_9 : Oper := opN r56_5 9
noncomputable def o56_5_10 : Oper := opN r56_5 10
noncomputable def o56_5_11 : Oper := opN r56_5 11
noncomputable def o56_5_12 : Oper := opN r56_5 12
noncomputable def o56_5_13 : Oper := opN r56_5 13
theorem x56_19 : execA E C (fg 56) B 40 E0 N c56_19 s = regX (runA E C B 40 r56_5 r56_5.toList s) (fun s => gcM E0 [9, 23, 24, 25, 26, 27, 28, 29, 30, 31, 32, 33, 34, 35] (forget s.1 [9, 23, 24, 25, 26, 27, 28, 29, 30, 31, 32, 33, 34, 35], s.2)) := x_reg (ops := r56_5) (by rfl) (by rfl) s
theorem r56_5_l : r56_5.toList = [o56_5_0, o56_5_1, o56_5_2, o56_5_3, o56_5_4, o56_5_5, o56_5_6, o56_5_7, o56_5_8, o56_5_9, o56_5_10, o56_5_11, o56_5_12, o56_5_13] := nrfl rfl
theorem s56_5_0 : stepA E C B 40 r56_5 o56_5_0 (φ, H) = some (fput φ 23 (fget φ 7), H) := nrfl rfl
theorem s56_5_1 : stepA E C B 40 r56_5 o56_5_1 (φ, H) = some (fput φ 24 (fget φ 9), H) := nrfl rfl
theorem s56_5_2 : stepA E C B 40 r56_5 o56_5_2 (φ, H) = stp (some 25) φ H (justO (aConv E.T 5 3 (fget φ 24))) := nrfl rfl
theorem s56_5_3 : stepA E C B 40 r56_5 o56_5_3 (φ, H) = stp (some 26) φ H (just (aFieldAddr E.T 49 (fget φ 3) 1)) := nrfl rfl
theorem s56_5_4 : stepA E C B 40 r56_5 o56_5_4 (φ, H) = stp (some 27) φ H (just (aLoad E.T 5 (fget φ 26))) := nrfl rfl
theorem s56_5_5 : stepA E C B 40 r56_5 o56_5_5 (φ, H) = stp (some 28) φ H (justO (aConv E.T 5 3 (fget φ 27))) := nrfl rfl
theorem s56_5_6 : stepA E C B 40 r56_5 o56_5_6 (φ, H) = some (fput φ 29 (fget φ 2), H) := nrfl rfl
theorem s56_5_7 : stepA E C B 40 r56_5 o56_5_7 (φ, H) = stp (some 30) φ H (just (aBin E.T .rem 3 (fget φ 28) (fget φ 29))) := nrfl rfl
theorem s56_5_8 : stepA E C B 40 r56_5 o56_5_8 (φ, H) = stp (some 31) φ H (just (aBin E.T .add 3 (.int .i64 1) (fget φ 30))) := nrfl rfl
theorem s56_5_9 : stepA E C B 40 r56_5 o56_5_9 (φ, H) = stp (some 32) φ H (just (aBin E.T .add 3 (fget φ 31) (.int .i64 1))) := nrfl rfl
theorem s56_5_10 : stepA E C B 40 r56_5 o56_5_10 (φ, H) = stp (some 33) φ H (just (aBin E.T .rem 3 (fget φ 25) (fget φ 32))) := nrfl rfl
theorem s56_5_11 : stepA E C B 40 r56_5 o56_5_11 (φ, H) = stp (some 34) φ H (aBuildSlice E.T (B + 34) 22 1 (evO E φ) [(0, Operand.tmp 33)]) := nrfl rfl
theorem s56_5_12 : stepA E C B 40 r56_5 o56_5_12 (φ, H) = stp (some 35) φ H (aBuiltin E.T (B + 35) .append #[22, 22] [(fget φ 23), (fget φ 34)]) := nrfl rfl
theorem s56_5_13 : stepA E C B 40 r56_5 o56_5_13 (φ, H) = some (fput φ 7 (fget φ 35), H) := nrfl rfl
theorem x56_17 : execA E C (fg 56) B 40 E0 N c56_17 s = seqX (execA E C (fg 56) B 40 E0 N c56_18 s) (execA E C (fg 56) B 40 E0 N c56_19) := x_seq (by rfl) s
theorem x56_16 : execA E C (fg 56) B 40 E0 N c56_16 s = blockX 1 (fun s => (forget s.1 [], s.2)) (execA E C (fg 56) B 40 E0 N c56_17 s) := x_block (by rfl) (by rfl) s
noncomputable def c56_20 : Code := kR c56_15
noncomputable def r56_6 : Array Oper := kO c56_20
noncomputable def o56_6_0 : Oper := opN r56_6 0
noncomputable def o56_6_1 : Oper := opN r56_6 1
theorem x56_20 : execA E C (fg 56) B 40 E0 N c56_20 s = regX (runA E C B 40 r56_6 r56_6.toList s) (fun s => gcM E0 [36] (forget s.1 [36], s.2)) := x_reg (ops := r56_6) (by rfl) (by rfl) s
theorem r56_6_l : r56_6.toList = [o56_6_0, o56_6_1] := nrfl rfl
theorem s56_6_0 : stepA E C B 40 r56_6 o56_6_0 (φ, H) = stp (some 36) φ H (just (aBin E.T .add 3 (fget φ 19) (.int .i64 1))) := nrfl rfl
theorem s56_6_1 : stepA E C B 40 r56_6 o56_6_1 (φ, H) = some (fput φ 19 (fget φ 36), H) := nrfl rfl
theorem x56_15 : execA E C (fg 56) B 40 E0 N c56_15 s = seqX (execA E C (fg 56) B 40 E0 N c56_16 s) (execA E C (fg 56) B 40 E0 N c56_20) := x_seq (by rfl) s
theorem x56_11 : execA E C (fg 56) B 40 E0 N c56_11 s = seqX (execA E C (fg 56) B 40 E0 N c56_12 s) (execA E C (fg 56) B 40 E0 N c56_15) := x_seq (by rfl) s
theorem x56_9 : execA E C (fg 56) B 40 E0 N c56_9 s = seqX (execA E C (fg 56) B 40 E0 N c56_10 s) (execA E C (fg 56) B 40 E0 N c56_11) := x_seq (by rfl) s
theorem x56_8 : execA E C (fg 56) B 40 E0 N c56_8 s = iterA (execA E C (fg 56) B 40 E0 N c56_9) (headA E0) N s := x_loop (by rfl) s
theorem x56_7 : execA E C (fg 56) B 40 E0 N c56_7 s = blockX 0 (fun s => (forget s.1 [2, 3, 17, 18, 19, 20], s.2)) (execA E C (fg 56) B 40 E0 N c56_8 s) := x_block (by rfl) (by rfl) s
theorem x56_5 : execA E C (fg 56) B 40 E0 N c56_5 s = seqX (execA E C (fg 56) B 40 E0 N c56_6 s) (execA E C (fg 56) B 40 E0 N c56_7) := x_seq (by rfl) s
noncomputable def c56_21 : Code := kR c56_4
noncomputable def c56_22 : Code := kL c56_21
noncomputable def r56_7 : Array Oper := kO c56_22
noncomputable def o56_7_0 : Oper := opN r56_7 0
noncomputable def o56_7_1 : Oper := opN r56_7 1
theorem x56_22 : execA E C (fg 56) B 40 E0 N c56_22 s = regX (runA E C B 40 r56_7 r56_7.toList s) (fun s => gcM E0 [37, 38] (forget s.1 [37, 38], s.2)) := x_reg (ops := r56_7) (by rfl) (by rfl) s
theorem r56_7_l : r56_7.toList = [o56_7_0, o56_7_1] := nrfl rfl
theorem s56_7_0 : stepA E C B 40 r56_7 o56_7_0 (φ, H) = some (fput φ 37 (fget φ 7), H) := nrfl rfl
theorem s56_7_1 : stepA E C B 40 r56_7 o56_7_1 (φ, H) = mutX (some 38) φ (C 67 [(fget φ 37)] H (B + 40 * 8)) := nrfl rfl
noncomputable def c56_23 : Code := kR c56_21
noncomputable def c56_24 : Code := kL c56_23
noncomputable def r56_8 : Array Oper := kO c56_24
noncomputable def o56_8_0 : Oper := opN r56_8 0
noncomputable def o56_8_1 : Oper := opN r56_8 1
theorem x56_24 : execA E C (fg 56) B 40 E0 N c56_24 s = regX (runA E C B 40 r56_8 r56_8.toList s) (fun s => gcM E0 [7, 39] (forget s.1 [7, 39], s.2)) := x_reg (ops := r56_8) (by rfl) (by rfl) s
theorem r56_8_l : r56_8.toList = [o56_8_0, o56_8_1] := nrfl rfl
theorem s56_8_0 : stepA E C B 40 r56_8 o56_8_0 (φ, H) = some (fput φ 39 (fget φ 7), H) := nrfl rfl
theorem s56_8_1 : stepA E C B 40 r56_8 o56_8_1 (φ, H) = some (fput φ 6 (fget φ 39), H) := nrfl rfl
noncomputable def c56_25 : Code := kR c56_23
theorem x56_25 : execA E C (fg 56) B 40 E0 N c56_25 s = some (.ret, s) := x_ret (by rfl) s
theorem x56_23 : execA E C (fg 56) B 40 E0 N c56_23 s = seqX (execA E C (fg 56) B 40 E0 N c56_24 s) (execA E C (fg 56) B 40 E0 N c56_25) := x_seq (by rfl) s
theorem x56_21 : execA E C (fg 56) B 40 E0 N c56_21 s = seqX (execA E C (fg 56) B 40 E0 N c56_22 s) (execA E C (fg 56) B 40 E0 N c56_23) := x_seq (by rfl) s
theorem x56_4 : execA E C (fg 56) B 40 E0 N c56_4 s = seqX (execA E C (fg 56) B 40 E0 N c56_5 s) (execA E C (fg 56) B 40 E0 N c56_21) := x_seq (by rfl) s
theorem x56_2 : execA E C (fg 56) B 40 E0 N c56_2 s = seqX (execA E C (fg 56) B 40 E0 N c56_3 s) (execA E C (fg 56) B 40 E0 N c56_4) := x_seq (by rfl) s
theorem x56_0 : execA E C (fg 56) B 40 E0 N c56_0 s = seqX (execA E C (fg 56) B 40 E0 N c56_1 s) (execA E C (fg 56) B 40 E0 N c56_2) := x_seq (by rfl) s
theorem fi_56 : fInfo E 56 = some ⟨40, #[.tmp 6], c56_0⟩ := nrfl rfl
theorem b_56 (args : List AV) : bodyA E C fg N 56 args H B = bodyX E [.tmp 6] (execA E C (fg 56) B 40 H N c56_0 (frame0 args 0 [], H)) := bodyA_eq fi_56 args H
abbrev F_56 := And.intro (And.intro (And.intro (And.intro (And.intro (And.intro @x56_1 @r56_0_l) (And.intro @s56_0_0 @s56_0_1)) (And.intro (And.intro @x56_3 @r56_1_l) (And.intro @s56_1_0 (And.intro @x56_6 @r56_2_l)))) (And.intro (And.intro (And.intro @s56_2_0 @s56_2_1) (And.intro @s56_2_2 @s56_2_3)) (And.intro (And.intro @s56_2_4 @s56_2_5) (And.intro @s56_2_6 (And.intro @s56_2_7 @s56_2_8))))) (And.intro (And.intro (And.intro (And.intro @s56_2_9 @x56_10) (And.intro @r56_3_l @s56_3_0)) (And.intro (And.intro @x56_13 @x56_14) (And.intro @x56_12 (And.intro @x56_18 @r56_4_l)))) (And.intro (And.intro (And.intro @s56_4_0 @s56_4_1) (And.intro @s56_4_2 @x56_19)) (And.intro (And.intro @r56_5_l @s56_5_0) (And.intro @s56_5_1 (And.intro @s56_5_2 @s56_5_3)))))) (And.intro (And.intro (And.intro (And.intro (And.intro @s56_5_4 @s56_5_5) (And.intro @s56_5_6 @s56_5_7)) (And.intro (And.intro @s56_5_8 @s56_5_9) (And.intro @s56_5_10 (And.intro @s56_5_11 @s56_5_12)))) (And.intro (And.intro (And.intro @s56_5_13 @x56_17) (And.intro @x56_16 @x56_20)) (And.intro (And.intro @r56_6_l @s56_6_0) (And.intro @s56_6_1 (And.intro @x56_15 @x56_11))))) (And.intro (And.intro (And.intro (And.intro @x56_9 @x56_8) (And.intro @x56_7 @x56_5)) (And.intro (And.intro @x56_22 @r56_7_l) (And.intro @s56_7_0 (And.intro @s56_7_1 @x56_24)))) (And.intro (And.intro (And.intro @r56_8_l @s56_8_0) (And.intro @s56_8_1 (And.intro @x56_25 @x56_23))) (And.intro (And.intro @x56_21 @x56_4) (And.intro @x56_2 (And.intro @x56_0 @b_56))))))
noncomputable def c67_0 : Code := kBody Proofs.Try.f67
noncomputable def r67_0 : Array Oper := kO c67_0
noncomputable def o67_0_0 : Oper := opN r67_0 0
noncomputable def o67_0_1 : Oper := opN r67_0 1
theorem x67_0 : execA E C (fg 67) B 4 E0 N c67_0 s = regX (runA E C B 4 r67_0 r67_0.toList s) (fun s => gcM E0 [0, 2, 3] (forget s.1 [0, 2, 3], s.2)) := x_reg (ops := r67_0) (by rfl) (by rfl) s
theorem r67_0_l : r67_0.toList = [o67_0_0, o67_0_1] := nrfl rfl
theorem s67_0_0 : stepA E C B 4 r67_0 o67_0_0 (φ, H) = some (fput φ 2 (fget φ 0), H) := nrfl rfl
theorem s67_0_1 : stepA E C B 4 r67_0 o67_0_1 (φ, H) = mutX (some 3) φ (C 108 [(fget φ 2), (.clo 109 [])] H (B + 4 * 8)) := nrfl rfl
theorem fi_67 : fInfo E 67 = some ⟨4, #[], c67_0⟩ := nrfl rfl
theorem b_67 (args : List AV) : bodyA E C fg N 67 args H B = bodyX E [] (execA E C (fg 67) B 4 H N c67_0 (frame0 args 0 [], H)) := bodyA_eq fi_67 args H
abbrev F_67 := And.intro (And.intro @x67_0 @r67_0_l) (And.intro @s67_0_0 (And.intro @s67_0_1 @b_67))
noncomputable def c109_0 : Code := kBody Proofs.Try.f109
noncomputable def c109_1 : Code := kL c109_0
noncomputable def r109_0 : Array Oper := kO c109_1
noncomputable def o109_0_0 : Oper := opN r109_0 0
theorem x109_1 : execA E C (fg 109) B 8 E0 N c109_1 s = regX (runA E C B 8 r109_0 r109_0.toList s) (fun s => gcM E0 [4] (forget s.1 [4], s.2)) := x_reg (ops := r109_0) (by rfl) (by rfl) s
theorem r109_0_l : r109_0.toList = [o109_0_0] := nrfl rfl
theorem s109_0_0 : stepA E C B 8 r109_0 o109_0_0 (φ, H) = some (fput φ 4 (.int .i64 0), H) := nrfl rfl
noncomputable def c109_2 : Code := kR c109_0
noncomputable def c109_3 : Code := kL c109_2
noncomputable def r109_1 : Array Oper := kO c109_3
noncomputable def o109_1_0 : Oper := opN r109_1 0
noncomputable def o109_1_1 : Oper := opN r109_1 1
noncomputable def o109_1_2 : Oper := opN r109_1 2
noncomputable def o109_1_3 : Oper := opN r109_1 3
theorem x109_3 : execA E C (fg 109) B 8 E0 N c109_3 s = regX (runA E C B 8 r109_1 r109_1.toList s) (fun s => gcM E0 [0, 1, 5, 6, 7] (forget s.1 [0, 1, 5, 6, 7], s.2)) := x_reg (ops := r109_1) (by rfl) (by rfl) s
theorem r109_1_l : r109_1.toList = [o109_1_0, o109_1_1, o109_1_2, o109_1_3] := nrfl rfl
theorem s109_1_0 : stepA E C B 8 r109_1 o109_1_0 (φ, H) = some (fput φ 5 (fget φ 1), H) := nrfl rfl
theorem s109_1_1 : stepA E C B 8 r109_1 o109_1_1 (φ, H) = some (fput φ 6 (fget φ 0), H) := nrfl rfl
theorem s109_1_2 : stepA E C B 8 r109_1 o109_1_2 (φ, H) = stp (some 7) φ H (just (aBin E.T .sub 3 (fget φ 5) (fget φ 6))) := nrfl rfl
theorem s109_1_3 : stepA E C B 8 r109_1 o109_1_3 (φ, H) = some (fput φ 4 (fget φ 7), H) := nrfl rfl
noncomputable def c109_4 : Code := kR c109_2
theorem x109_4 : execA E C (fg 109) B 8 E0 N c109_4 s = some (.ret, s) := x_ret (by rfl) s
theorem x109_2 : execA E C (fg 109) B 8 E0 N c109_2 s = seqX (execA E C (fg 109) B 8 E0 N c109_3 s) (execA E C (fg 109) B 8 E0 N c109_4) := x_seq (by rfl) s
theorem x109_0 : execA E C (fg 109) B 8 E0 N c109_0 s = seqX (execA E C (fg 109) B 8 E0 N c109_1 s) (execA E C (fg 109) B 8 E0 N c109_2) := x_seq (by rfl) s
theorem fi_109 : fInfo E 109 = some ⟨8, #[.tmp 4], c109_0⟩ := nrfl rfl
theorem b_109 (args : List AV) : bodyA E C fg N 109 args H B = bodyX E [.tmp 4] (execA E C (fg 109) B 8 H N c109_0 (frame0 args 0 [], H)) := bodyA_eq fi_109 args H
abbrev F_109 := And.intro (And.intro (And.intro @x109_1 (And.intro @r109_0_l @s109_0_0)) (And.intro @x109_3 (And.intro @r109_1_l @s109_1_0))) (And.intro (And.intro @s109_1_1 (And.intro @s109_1_2 @s109_1_3)) (And.intro (And.intro @x109_4 @x109_2) (And.intro @x109_0 @b_109)))
noncomputable def c58_0 : Code := kBody Proofs.Try.f58
noncomputable def c58_1 : Code := kL c58_0
noncomputable def r58_0 : Array Oper := kO c58_1
noncomputable def o58_0_0 : Oper := opN r58_0 0
theorem x58_1 : execA E C (fg 58) B 17 E0 N c58_1 s = regX (runA E C B 17 r58_0 r58_0.toList s) (fun s => gcM E0 [2] (forget s.1 [2], s.2)) := x_reg (ops := r58_0) (by rfl) (by rfl) s
theorem r58_0_l : r58_0.toList = [o58_0_0] := nrfl rfl
theorem s58_0_0 : stepA E C B 17 r58_0 o58_0_0 (φ, H) = some (fput φ 2 (.int .i64 0), H) := nrfl rfl
noncomputable def c58_2 : Code := kR c58_0
noncomputable def c58_3 : Code := kL c58_2
noncomputable def r58_1 : Array Oper := kO c58_3
noncomputable def o58_1_0 : Oper := opN r58_1 0
theorem x58_3 : execA E C (fg 58) B 17 E0 N c58_3 s = regX (runA E C B 17 r58_1 r58_1.toList s) (fun s => gcM E0 [] (forget s.1 [], s.2)) := x_reg (ops := r58_1) (by rfl) (by rfl) s
theorem r58_1_l : r58_1.toList = [o58_1_0] := nrfl rfl
theorem s58_1_0 : stepA E C B 17 r58_1 o58_1_0 (φ, H) = some (fput φ 3 (.int .i64 0), H) := nrfl rfl
noncomputable def c58_4 : Code := kR c58_2
noncomputable def c58_5 : Code := kL c58_4
noncomputable def c58_6 : Code := kL c58_5
noncomputable def r58_2 : Array Oper := kO c58_6
noncomputable def o58_2_0 : Oper := opN r58_2 0
noncomputable def o58_2_1 : Oper := opN r58_2 1
noncomputable def o58_2_2 : Oper := opN r58_2 2
theorem x58_6 : execA E C (fg 58) B 17 E0 N c58_6 s = regX (runA E C B 17 r58_2 r58_2.toList s) (fun s => gcM E0 [0] (forget s.1 [0], s.2)) := x_reg (ops := r58_2) (by rfl) (by rfl) s
theorem r58_2_l : r58_2.toList = [o58_2_0, o58_2_1, o58_2_2] := nrfl rfl
theorem s58_2_0 : stepA E C B 17 r58_2 o58_2_0 (φ, H) = some (fput φ 6 (fget φ 0), H) := nrfl rfl
theorem s58_2_1 : stepA E C B 17 r58_2 o58_2_1 (φ, H) = stp (some 7) φ H (aBuiltin E.T (B + 7) .len #[22] [(fget φ 6)]) := nrfl rfl
theorem s58_2_2 : stepA E C B 17 r58_2 o58_2_2 (φ, H) = some (fput φ 8 (.int .i64 0), H) := nrfl rfl
noncomputable def c58_7 : Code := kR c58_5
noncomputable def c58_8 : Code := kB c58_7
noncomputable def c58_9 : Code := kB c58_8
noncomputable def c58_10 : Code := kL c58_9
noncomputable def r58_3 : Array Oper := kO c58_10
noncomputable def o58_3_0 : Oper := opN r58_3 0
theorem x58_10 : execA E C (fg 58) B 17 E0 N c58_10 s = regX (runA E C B 17 r58_3 r58_3.toList s) (fun s => gcM E0 [] (forget s.1 [], s.2)) := x_reg (ops := r58_3) (by rfl) (by rfl) s
theorem r58_3_l : r58_3.toList = [o58_3_0] := nrfl rfl
theorem s58_3_0 : stepA E C B 17 r58_3 o58_3_0 (φ, H) = stp (some 9) φ H (just (aBin E.T .lss 3 (fget φ 8) (fget φ 7))) := nrfl rfl
noncomputable def c58_11 : Code := kR c58_9
noncomputable def c58_12 : Code := kL c58_11
noncomputable def c58_13 : Code := kT c58_12
theorem x58_13 : execA E C (fg 58) B 17 E0 N c58_13 s = some (.normal, s) := x_skip (by rfl) s
noncomputable def c58_14 : Code := kE c58_12
theorem x58_14 : execA E C (fg 58) B 17 E0 N c58_14 s = some (.exit 0, s) := x_exit (by rfl) s
theorem x58_12 : execA E C (fg 58) B 17 E0 N c58_12 (φ, H) = condX (fget φ 9) (execA E C (fg 58) B 17 E0 N c58_13 (φ, H)) (execA E C (fg 58) B 17 E0 N c58_14 (φ, H)) := x_cond (by rfl) _
noncomputable def c58_15 : Code := kR c58_11
noncomputable def c58_16 : Code := kL c58_15
noncomputable def c58_17 : Code := kB c58_16
noncomputable def c58_18 : Code := kL c58_17
noncomputable def r58_4 : Array Oper := kO c58_18
noncomputable def o58_4_0 : Oper := opN r58_4 0
noncomputable def o58_4_1 : Oper := opN r58_4 1
noncomputable def o58_4_2 : Oper := opN r58_4 2
theorem x58_18 : execA E C (fg 58) B 17 E0 N c58_18 s = regX (runA E C B 17 r58_4 r58_4.toList s) (fun s => gcM E0 [9, 10, 11] (forget s.1 [9, 10, 11], s.2)) := x_reg (ops := r58_4) (by rfl) (by rfl) s
theorem r58_4_l : r58_4.toList = [o58_4_0, o58_4_1, o58_4_2] := nrfl rfl
theorem s58_4_0 : stepA E C B 17 r58_4 o58_4_0 (φ, H) = stp (some 10) φ H (just (aIndexAddr E.T 22 (fget φ 6) (fget φ 8))) := nrfl rfl
theorem s58_4_1 : stepA E C B 17 r58_4 o58_4_1 (φ, H) = stp (some 11) φ H (just (aLoad E.T 3 (fget φ 10))) := nrfl rfl
theorem s58_4_2 : stepA E C B 17 r58_4 o58_4_2 (φ, H) = some (fput φ 5 (fget φ 11), H) := nrfl rfl
noncomputable def c58_19 : Code := kR c58_17
noncomputable def r58_5 : Array Oper := kO c58_19
noncomputable def o58_5_0 : Oper := opN r58_5 0
noncomputable def o58_5_1 : Oper := opN r58_5 1
noncomputable def o58_5_2 : Oper := opN r58_5 2
noncomputable def o58_5_3 : Oper := opN r58_5 3
theorem x58_19 : execA E C (fg 58) B 17 E0 N c58_19 s = regX (runA E C B 17 r58_5 r58_5.toList s) (fun s => gcM E0 [5, 12, 13, 14] (forget s.1 [5, 12, 13, 14], s.2)) := x_reg (ops := r58_5) (by rfl) (by rfl) s
theorem r58_5_l : r58_5.toList = [o58_5_0, o58_5_1, o58_5_2, o58_5_3] := nrfl rfl
theorem s58_5_0 : stepA E C B 17 r58_5 o58_5_0 (φ, H) = some (fput φ 12 (fget φ 3), H) := nrfl rfl
theorem s58_5_1 : stepA E C B 17 r58_5 o58_5_1 (φ, H) = some (fput φ 13 (fget φ 5), H) := nrfl rfl
theorem s58_5_2 : stepA E C B 17 r58_5 o58_5_2 (φ, H) = stp (some 14) φ H (just (aBin E.T .add 3 (fget φ 12) (fget φ 13))) := nrfl rfl
theorem s58_5_3 : stepA E C B 17 r58_5 o58_5_3 (φ, H) = some (fput φ 3 (fget φ 14), H) := nrfl rfl
theorem x58_17 : execA E C (fg 58) B 17 E0 N c58_17 s = seqX (execA E C (fg 58) B 17 E0 N c58_18 s) (execA E C (fg 58) B 17 E0 N c58_19) := x_seq (by rfl) s
theorem x58_16 : execA E C (fg 58) B 17 E0 N c58_16 s = blockX 1 (fun s => (forget s.1 [], s.2)) (execA E C (fg 58) B 17 E0 N c58_17 s) := x_block (by rfl) (by rfl) s
noncomputable def c58_20 : Code := kR c58_15
noncomputable def r58_6 : Array Oper := kO c58_20
noncomputable def o58_6_0 : Oper := opN r58_6 0
noncomputable def o58_6_1 : Oper := opN r58_6 1
theorem x58_20 : execA E C (fg 58) B 17 E0 N c58_20 s = regX (runA E C B 17 r58_6 r58_6.toList s) (fun s => gcM E0 [15] (forget s.1 [15], s.2)) := x_reg (ops := r58_6) (by rfl) (by rfl) s
theorem r58_6_l : r58_6.toList = [o58_6_0, o58_6_1] := nrfl rfl
theorem s58_6_0 : stepA E C B 17 r58_6 o58_6_0 (φ, H) = stp (some 15) φ H (just (aBin E.T .add 3 (fget φ 8) (.int .i64 1))) := nrfl rfl
theorem s58_6_1 : stepA E C B 17 r58_6 o58_6_1 (φ, H) = some (fput φ 8 (fget φ 15), H) := nrfl rfl
theorem x58_15 : execA E C (fg 58) B 17 E0 N c58_15 s = seqX (execA E C (fg 58) B 17 E0 N c58_16 s) (execA E C (fg 58) B 17 E0 N c58_20) := x_seq (by rfl) s
theorem x58_11 : execA E C (fg 58) B 17 E0 N c58_11 s = seqX (execA E C (fg 58) B 17 E0 N c58_12 s) (execA E C (fg 58) B 17 E0 N c58_15) := x_seq (by rfl) s
theorem x58_9 : execA E C (fg 58) B 17 E0 N c58_9 s = seqX (execA E C (fg 58) B 17 E0 N c58_10 s) (execA E C (fg 58) B 17 E0 N c58_11) := x_seq (by rfl) s
theorem x58_8 : execA E C (fg 58) B 17 E0 N c58_8 s = iterA (execA E C (fg 58) B 17 E0 N c58_9) (headA E0) N s := x_loop (by rfl) s
theorem x58_7 : execA E C (fg 58) B 17 E0 N c58_7 s = blockX 0 (fun s => (forget s.1 [6, 7, 8, 9], s.2)) (execA E C (fg 58) B 17 E0 N c58_8 s) := x_block (by rfl) (by rfl) s
theorem x58_5 : execA E C (fg 58) B 17 E0 N c58_5 s = seqX (execA E C (fg 58) B 17 E0 N c58_6 s) (execA E C (fg 58) B 17 E0 N c58_7) := x_seq (by rfl) s
noncomputable def c58_21 : Code := kR c58_4
noncomputable def c58_22 : Code := kL c58_21
noncomputable def r58_7 : Array Oper := kO c58_22
noncomputable def o58_7_0 : Oper := opN r58_7 0
noncomputable def o58_7_1 : Oper := opN r58_7 1
theorem x58_22 : execA E C (fg 58) B 17 E0 N c58_22 s = regX (runA E C B 17 r58_7 r58_7.toList s) (fun s => gcM E0 [3, 16] (forget s.1 [3, 16], s.2)) := x_reg (ops := r58_7) (by rfl) (by rfl) s
theorem r58_7_l : r58_7.toList = [o58_7_0, o58_7_1] := nrfl rfl
theorem s58_7_0 : stepA E C B 17 r58_7 o58_7_0 (φ, H) = some (fput φ 16 (fget φ 3), H) := nrfl rfl
theorem s58_7_1 : stepA E C B 17 r58_7 o58_7_1 (φ, H) = some (fput φ 2 (fget φ 16), H) := nrfl rfl
noncomputable def c58_23 : Code := kR c58_21
theorem x58_23 : execA E C (fg 58) B 17 E0 N c58_23 s = some (.ret, s) := x_ret (by rfl) s
theorem x58_21 : execA E C (fg 58) B 17 E0 N c58_21 s = seqX (execA E C (fg 58) B 17 E0 N c58_22 s) (execA E C (fg 58) B 17 E0 N c58_23) := x_seq (by rfl) s
theorem x58_4 : execA E C (fg 58) B 17 E0 N c58_4 s = seqX (execA E C (fg 58) B 17 E0 N c58_5 s) (execA E C (fg 58) B 17 E0 N c58_21) := x_seq (by rfl) s
theorem x58_2 : execA E C (fg 58) B 17 E0 N c58_2 s = seqX (execA E C (fg 58) B 17 E0 N c58_3 s) (execA E C (fg 58) B 17 E0 N c58_4) := x_seq (by rfl) s
theorem x58_0 : execA E C (fg 58) B 17 E0 N c58_0 s = seqX (execA E C (fg 58) B 17 E0 N c58_1 s) (execA E C (fg 58) B 17 E0 N c58_2) := x_seq (by rfl) s
theorem fi_58 : fInfo E 58 = some ⟨17, #[.tmp 2], c58_0⟩ := nrfl rfl
theorem b_58 (args : List AV) : bodyA E C fg N 58 args H B = bodyX E [.tmp 2] (execA E C (fg 58) B 17 H N c58_0 (frame0 args 0 [], H)) := bodyA_eq fi_58 args H
abbrev F_58 := And.intro (And.intro (And.intro (And.intro (And.intro @x58_1 (And.intro @r58_0_l @s58_0_0)) (And.intro @x58_3 (And.intro @r58_1_l @s58_1_0))) (And.intro (And.intro @x58_6 (And.intro @r58_2_l @s58_2_0)) (And.intro @s58_2_1 (And.intro @s58_2_2 @x58_10)))) (And.intro (And.intro (And.intro @r58_3_l (And.intro @s58_3_0 @x58_13)) (And.intro @x58_14 (And.intro @x58_12 @x58_18))) (And.intro (And.intro @r58_4_l (And.intro @s58_4_0 @s58_4_1)) (And.intro (And.intro @s58_4_2 @x58_19) (And.intro @r58_5_l @s58_5_0))))) (And.intro (And.intro (And.intro (And.intro @s58_5_1 (And.intro @s58_5_2 @s58_5_3)) (And.intro @x58_17 (And.intro @x58_16 @x58_20))) (And.intro (And.intro @r58_6_l (And.intro @s58_6_0 @s58_6_1)) (And.intro @x58_15 (And.intro @x58_11 @x58_9)))) (And.intro (And.intro (And.intro @x58_8 (And.intro @x58_7 @x58_5)) (And.intro @x58_22 (And.intro @r58_7_l @s58_7_0))) (And.intro (And.intro @s58_7_1 (And.intro @x58_23 @x58_21)) (And.intro (And.intro @x58_4 @x58_2) (And.intro @x58_0 @b_58)))))
noncomputable def c62_0 : Code := kBody Proofs.Try.f62
noncomputable def c62_1 : Code := kL c62_0
noncomputable def r62_0 : Array Oper := kO c62_1
noncomputable def o62_0_0 : Oper := opN r62_0 0
theorem x62_1 : execA E C (fg 62) B 23 E0 N c62_1 s = regX (runA E C B 23 r62_0 r62_0.toList s) (fun s => gcM E0 [4] (forget s.1 [4], s.2)) := x_reg (ops := r62_0) (by rfl) (by rfl) s
theorem r62_0_l : r62_0.toList = [o62_0_0] := nrfl rfl
theorem s62_0_0 : stepA E C B 23 r62_0 o62_0_0 (φ, H) = some (fput φ 4 (.bool false), H) := nrfl rfl
noncomputable def c62_2 : Code := kR c62_0
noncomputable def c62_3 : Code := kL c62_2
noncomputable def c62_4 : Code := kL c62_3
noncomputable def r62_1 : Array Oper := kO c62_4
noncomputable def o62_1_0 : Oper := opN r62_1 0
noncomputable def o62_1_1 : Oper := opN r62_1 1
noncomputable def o62_1_2 : Oper := opN r62_1 2
theorem x62_4 : execA E C (fg 62) B 23 E0 N c62_4 s = regX (runA E C B 23 r62_1 r62_1.toList s) (fun s => gcM E0 [6] (forget s.1 [6], s.2)) := x_reg (ops := r62_1) (by rfl) (by rfl) s
theorem r62_1_l : r62_1.toList = [o62_1_0, o62_1_1, o62_1_2] := nrfl rfl
theorem s62_1_0 : stepA E C B 23 r62_1 o62_1_0 (φ, H) = some (fput φ 6 (fget φ 0), H) := nrfl rfl
theorem s62_1_1 : stepA E C B 23 r62_1 o62_1_1 (φ, H) = stp (some 7) φ H (aBuiltin E.T (B + 7) .len #[22] [(fget φ 6)]) := nrfl rfl
theorem s62_1_2 : stepA E C B 23 r62_1 o62_1_2 (φ, H) = some (fput φ 8 (.int .i64 0), H) := nrfl rfl
noncomputable def c62_5 : Code := kR c62_3
noncomputable def c62_6 : Code := kB c62_5
noncomputable def c62_7 : Code := kB c62_6
noncomputable def c62_8 : Code := kL c62_7
noncomputable def r62_2 : Array Oper := kO c62_8
noncomputable def o62_2_0 : Oper := opN r62_2 0
theorem x62_8 : execA E C (fg 62) B 23 E0 N c62_8 s = regX (runA E C B 23 r62_2 r62_2.toList s) (fun s => gcM E0 [] (forget s.1 [], s.2)) := x_reg (ops := r62_2) (by rfl) (by rfl) s
theorem r62_2_l : r62_2.toList = [o62_2_0] := nrfl rfl
theorem s62_2_0 : stepA E C B 23 r62_2 o62_2_0 (φ, H) = stp (some 9) φ H (just (aBin E.T .lss 3 (fget φ 8) (fget φ 7))) := nrfl rfl
noncomputable def c62_9 : Code := kR c62_7
noncomputable def c62_10 : Code := kL c62_9
noncomputable def c62_11 : Code := kT c62_10
theorem x62_11 : execA E C (fg 62) B 23 E0 N c62_11 s = some (.normal, s) := x_skip (by rfl) s
noncomputable def c62_12 : Code := kE c62_10
theorem x62_12 : execA E C (fg 62) B 23 E0 N c62_12 s = some (.exit 0, s) := x_exit (by rfl) s
theorem x62_10 : execA E C (fg 62) B 23 E0 N c62_10 (φ, H) = condX (fget φ 9) (execA E C (fg 62) B 23 E0 N c62_11 (φ, H)) (execA E C (fg 62) B 23 E0 N c62_12 (φ, H)) := x_cond (by rfl) _
noncomputable def c62_13 : Code := kR c62_9
noncomputable def c62_14 : Code := kL c62_13
noncomputable def c62_15 : Code := kB c62_14
noncomputable def c62_16 : Code := kL c62_15
noncomputable def r62_3 : Array Oper := kO c62_16
noncomputable def o62_3_0 : Oper := opN r62_3 0
noncomputable def o62_3_1 : Oper := opN r62_3 1
theorem x62_16 : execA E C (fg 62) B 23 E0 N c62_16 s = regX (runA E C B 23 r62_3 r62_3.toList s) (fun s => gcM E0 [9, 10] (forget s.1 [9, 10], s.2)) := x_reg (ops := r62_3) (by rfl) (by rfl) s
theorem r62_3_l : r62_3.toList = [o62_3_0, o62_3_1] := nrfl rfl
theorem s62_3_0 : stepA E C B 23 r62_3 o62_3_0 (φ, H) = some (fput φ 10 (fget φ 8), H) := nrfl rfl
theorem s62_3_1 : stepA E C B 23 r62_3 o62_3_1 (φ, H) = some (fput φ 5 (fget φ 10), H) := nrfl rfl
noncomputable def c62_17 : Code := kR c62_15
noncomputable def c62_18 : Code := kL c62_17
noncomputable def r62_4 : Array Oper := kO c62_18
noncomputable def o62_4_0 : Oper := opN r62_4 0
noncomputable def o62_4_1 : Oper := opN r62_4 1
noncomputable def o62_4_2 : Oper := opN r62_4 2
noncomputable def o62_4_3 : Oper := opN r62_4 3
noncomputable def o62_4_4 : Oper := opN r62_4 4
noncomputable def o62_4_5 : Oper := opN r62_4 5
noncomputable def o62_4_6 : Oper := opN r62_4 6
noncomputable def o62_4_7 : Oper := opN r62_4 7
noncomputable def o62_4_8 : Oper := opN r62_4 8
noncomputable def o62_4_9 : Oper := opN r62_4 9
noncomputable def o62_4_10 : Oper := opN r62_4 10
theorem x62_18 : execA E C (fg 62) B 23 E0 N c62_18 s = regX (drawA E C B 23 r62_4 s) (fun s => gcM E0 [5, 11, 12, 13, 14, 15, 16, 17, 18, 19, 20] (forget s.1 [5, 11, 12, 13, 14, 15, 16, 17, 18, 19, 20], s.2)) := x_draw (ops := r62_4) (by rfl) (by rfl) s
theorem r62_4_l : r62_4.toList = [o62_4_0, o62_4_1, o62_4_2, o62_4_3, o62_4_4, o62_4_5, o62_4_6, o62_4_7, o62_4_8, o62_4_9, o62_4_10] := nrfl rfl
theorem r62_4_st : statOk r62_4 = true := by kernel_rfl
theorem r62_4_dr : drawA E C B 23 r62_4 s = if neat 23 s = true then drX r62_4 (runT E C B 23 r62_4 r62_4.toList 0 s) else none := draw_eq r62_4_st s
theorem r62_4_an (l : List (Nat × Tr)) : dynOk r62_4 l = (!writing l || dynPairs [[], [], [1], [0, 1, 2], [0, 1, 2, 3], [], [], [6], [5, 6, 7], [0, 1, 2, 3, 4, 5, 6, 7, 8], [0, 1, 2, 3, 4, 5, 6, 7, 8, 9]] (touching l)) := dynOk_eq (by kernel_rfl) l
theorem s62_4_0 : stepT E C B 23 r62_4 o62_4_0 (φ, H) = some ((fput φ 11 (fget φ 0), H), ⟨false, [], []⟩) := stT_go rfl (goT_mv rfl rfl)
theorem s62_4_1 : stepT E C B 23 r62_4 o62_4_1 (φ, H) = some ((fput φ 12 (fget φ 5), H), ⟨false, [], []⟩) := stT_go rfl (goT_mv rfl rfl)
theorem s62_4_2 : stepT E C B 23 r62_4 o62_4_2 (φ, H) = stpT (some 13) φ H (just (aBin E.T .add 3 (fget φ 12) (.int .i64 1))) := stT_go rfl (goT_R rfl rfl)
theorem s62_4_3 : stepT E C B 23 r62_4 o62_4_3 (φ, H) = stpT (some 14) φ H (just (aSlice E.T 22 (fget φ 11) none (some (fget φ 13)) none)) := stT_go rfl (goT_R rfl rfl)
theorem s62_4_4 : stepT E C B 23 r62_4 o62_4_4 (φ, H) = stpT (some 15) φ H (aCall C (fun j => B + j * 23 + 15) true 58 [(fget φ 14)]) := stT_go rfl (goT_R rfl rfl)
theorem s62_4_5 : stepT E C B 23 r62_4 o62_4_5 (φ, H) = some ((fput φ 16 (fget φ 1), H), ⟨false, [], []⟩) := stT_go rfl (goT_mv rfl rfl)
theorem s62_4_6 : stepT E C B 23 r62_4 o62_4_6 (φ, H) = some ((fput φ 17 (fget φ 5), H), ⟨false, [], []⟩) := stT_go rfl (goT_mv rfl rfl)
theorem s62_4_7 : stepT E C B 23 r62_4 o62_4_7 (φ, H) = stpT (some 18) φ H (just (aBin E.T .add 3 (fget φ 17) (.int .i64 1))) := stT_go rfl (goT_R rfl rfl)
theorem s62_4_8 : stepT E C B 23 r62_4 o62_4_8 (φ, H) = stpT (some 19) φ H (just (aSlice E.T 22 (fget φ 16) none (some (fget φ 18)) none)) := stT_go rfl (goT_R rfl rfl)
theorem s62_4_9 : stepT E C B 23 r62_4 o62_4_9 (φ, H) = stpT (some 20) φ H (aCall C (fun j => B + j * 23 + 20) true 58 [(fget φ 19)]) := stT_go rfl (goT_R rfl rfl)
theorem s62_4_10 : stepT E C B 23 r62_4 o62_4_10 (φ, H) = stpT (some 21) φ H (just (aBin E.T .lss 3 (fget φ 15) (fget φ 20))) := stT_go rfl (goT_R rfl rfl)
noncomputable def c62_19 : Code := kR c62_17
noncomputable def c62_20 : Code := kT c62_19
noncomputable def c62_21 : Code := kL c62_20
noncomputable def r62_5 : Array Oper := kO c62_21
noncomputable def o62_5_0 : Oper := opN r62_5 0
theorem x62_21 : execA E C (fg 62) B 23 E0 N c62_21 s = regX (runA E C B 23 r62_5 r62_5.toList s) (fun s => gcM E0 [0, 1, 7, 8, 21] (forget s.1 [0, 1, 7, 8, 21], s.2)) := x_reg (ops := r62_5) (by rfl) (by rfl) s
theorem r62_5_l : r62_5.toList = [o62_5_0] := nrfl rfl
theorem s62_5_0 : stepA E C B 23 r62_5 o62_5_0 (φ, H) = some (fput φ 4 (.bool false), H) := nrfl rfl
noncomputable def c62_22 : Code := kR c62_20
theorem x62_22 : execA E C (fg 62) B 23 E0 N c62_22 s = some (.ret, s) := x_ret (by rfl) s
theorem x62_20 : execA E C (fg 62) B 23 E0 N c62_20 s = seqX (execA E C (fg 62) B 23 E0 N c62_21 s) (execA E C (fg 62) B 23 E0 N c62_22) := x_seq (by rfl) s
noncomputable def c62_23 : Code := kE c62_19
theorem x62_23 : execA E C (fg 62) B 23 E0 N c62_23 s = some (.normal, s) := x_skip (by rfl) s
theorem x62_19 : execA E C (fg 62) B 23 E0 N c62_19 (φ, H) = condX (fget φ 21) (execA E C (fg 62) B 23 E0 N c62_20 (φ, H)) (execA E C (fg 62) B 23 E0 N c62_23 (φ, H)) := x_cond (by rfl) _
theorem x62_17 : execA E C (fg 62) B 23 E0 N c62_17 s = seqX (execA E C (fg 62) B 23 E0 N c62_18 s) (execA E C (fg 62) B 23 E0 N c62_19) := x_seq (by rfl) s
theorem x62_15 : execA E C (fg 62) B 23 E0 N c62_15 s = seqX (execA E C (fg 62) B 23 E0 N c62_16 s) (execA E C (fg 62) B 23 E0 N c62_17) := x_seq (by rfl) s
theorem x62_14 : execA E C (fg 62) B 23 E0 N c62_14 s = blockX 1 (fun s => (forget s.1 [21], s.2)) (execA E C (fg 62) B 23 E0 N c62_15 s) := x_block (by rfl) (by rfl) s
noncomputable def c62_24 : Code := kR c62_13
noncomputable def r62_6 : Array Oper := kO c62_24
noncomputable def o62_6_0 : Oper := opN r62_6 0
noncomputable def o62_6_1 : Oper := opN r62_6 1
theorem x62_24 : execA E C (fg 62) B 23 E0 N c62_24 s = regX (runA E C B 23 r62_6 r62_6.toList s) (fun s => gcM E0 [22] (forget s.1 [22], s.2)) := x_reg (ops := r62_6) (by rfl) (by rfl) s
theorem r62_6_l : r62_6.toList = [o62_6_0, o62_6_1] := nrfl rfl
theorem s62_6_0 : stepA E C B 23 r62_6 o62_6_0 (φ, H) = stp (some 22) φ H (just (aBin E.T .add 3 (fget φ 8) (.int .i64 1))) := nrfl rfl
theorem s62_6_1 : stepA E C B 23 r62_6 o62_6_1 (φ, H) = some (fput φ 8 (fget φ 22), H) := nrfl rfl
theorem x62_13 : execA E C (fg 62) B 23 E0 N c62_13 s = seqX (execA E C (fg 62) B 23 E0 N c62_14 s) (execA E C (fg 62) B 23 E0 N c62_24) := x_seq (by rfl) s
theorem x62_9 : execA E C (fg 62) B 23 E0 N c62_9 s = seqX (execA E C (fg 62) B 23 E0 N c62_10 s) (execA E C (fg 62) B 23 E0 N c62_13) := x_seq (by rfl) s
theorem x62_7 : execA E C (fg 62) B 23 E0 N c62_7 s = seqX (execA E C (fg 62) B 23 E0 N c62_8 s) (execA E C (fg 62) B 23 E0 N c62_9) := x_seq (by rfl) s
theorem x62_6 : execA E C (fg 62) B 23 E0 N c62_6 s = iterA (execA E C (fg 62) B 23 E0 N c62_7) (headA E0) N s := x_loop (by rfl) s
theorem x62_5 : execA E C (fg 62) B 23 E0 N c62_5 s = blockX 0 (fun s => (forget s.1 [0, 1, 7, 8, 9], s.2)) (execA E C (fg 62) B 23 E0 N c62_6 s) := x_block (by rfl) (by rfl) s
theorem x62_3 : execA E C (fg 62) B 23 E0 N c62_3 s = seqX (execA E C (fg 62) B 23 E0 N c62_4 s) (execA E C (fg 62) B 23 E0 N c62_5) := x_seq (by rfl) s
noncomputable def c62_25 : Code := kR c62_2
noncomputable def c62_26 : Code := kL c62_25
noncomputable def r62_7 : Array Oper := kO c62_26
noncomputable def o62_7_0 : Oper := opN r62_7 0
theorem x62_26 : execA E C (fg 62) B 23 E0 N c62_26 s = regX (runA E C B 23 r62_7 r62_7.toList s) (fun s => gcM E0 [] (forget s.1 [], s.2)) := x_reg (ops := r62_7) (by rfl) (by rfl) s
theorem r62_7_l : r62_7.toList = [o62_7_0] := nrfl rfl
theorem s62_7_0 : stepA E C B 23 r62_7 o62_7_0 (φ, H) = some (fput φ 4 (.bool true), H) := nrfl rfl
noncomputable def c62_27 : Code := kR c62_25
theorem x62_27 : execA E C (fg 62) B 23 E0 N c62_27 s = some (.ret, s) := x_ret (by rfl) s
theorem x62_25 : execA E C (fg 62) B 23 E0 N c62_25 s = seqX (execA E C (fg 62) B 23 E0 N c62_26 s) (execA E C (fg 62) B 23 E0 N c62_27) := x_seq (by rfl) s
theorem x62_2 : execA E C (fg 62) B 23 E0 N c62_2 s = seqX (execA E C (fg 62) B 23 E0 N c62_3 s) (execA E C (fg 62) B 23 E0 N c62_25) := x_seq (by rfl) s
theorem x62_0 : execA E C (fg 62) B 23 E0 N c62_0 s = seqX (execA E C (fg 62) B 23 E0 N c62_1 s) (execA E C (fg 62) B 23 E0 N c62_2) := x_seq (by rfl) s
theorem fi_62 : fInfo E 62 = some ⟨23, #[.tmp 4], c62_0⟩ := nrfl rfl
theorem b_62 (args : List AV) : bodyA E C fg N 62 args H B = bodyX E [.tmp 4] (execA E C (fg 62) B 23 H N c62_0 (frame0 args 0 [], H)) := bodyA_eq fi_62 args H
abbrev F_62 := And.intro (And.intro (And.intro (And.intro (And.intro @x62_1 (And.intro @r62_0_l @s62_0_0)) (And.intro (And.intro @x62_4 @r62_1_l) (And.intro @s62_1_0 @s62_1_1))) (And.intro (And.intro (And.intro @s62_1_2 @x62_8) (And.intro @r62_2_l @s62_2_0)) (And.intro (And.intro @x62_11 @x62_12) (And.intro @x62_10 @x62_16)))) (And.intro (And.intro (And.intro @r62_3_l (And.intro @s62_3_0 @s62_3_1)) (And.intro (And.intro @x62_18 @r62_4_l) (And.intro @r62_4_dr @r62_4_an))) (And.intro (And.intro (And.intro @s62_4_0 @s62_4_1) (And.intro @s62_4_2 @s62_4_3)) (And.intro (And.intro @s62_4_4 @s62_4_5) (And.intro @s62_4_6 @s62_4_7))))) (And.intro (And.intro (And.intro (And.intro @s62_4_8 (And.intro @s62_4_9 @s62_4_10)) (And.intro (And.intro @x62_21 @r62_5_l) (And.intro @s62_5_0 @x62_22))) (And.intro (And.intro (And.intro @x62_20 @x62_23) (And.intro @x62_19 @x62_17)) (And.intro (And.intro @x62_15 @x62_14) (And.intro @x62_24 @r62_6_l)))) (And.intro (And.intro (And.intro (And.intro @s62_6_0 @s62_6_1) (And.intro @x62_13 @x62_9)) (And.intro (And.intro @x62_7 @x62_6) (And.intro @x62_5 @x62_3))) (And.intro (And.intro (And.intro @x62_26 @r62_7_l) (And.intro @s62_7_0 @x62_27)) (And.intro (And.intro @x62_25 @x62_2) (And.intro @x62_0 @b_62)))))
noncomputable def c59_0 : Code := kBody Proofs.Try.f59
noncomputable def c59_1 : Code := kL c59_0
noncomputable def r59_0 : Array Oper := kO c59_1
noncomputable def o59_0_0 : Oper := opN r59_0 0
noncomputable def o59_0_1 : Oper := opN r59_0 1
theorem x59_1 : execA E C (fg 59) B 12 E0 N c59_1 s = regX (runA E C B 12 r59_0 r59_0.toList s) (fun s => gcM E0 [0, 4] (forget s.1 [0, 4], s.2)) := x_reg (ops := r59_0) (by rfl) (by rfl) s
theorem r59_0_l : r59_0.toList = [o59_0_0, o59_0_1] := nrfl rfl
theorem s59_0_0 : stepA E C B 12 r59_0 o59_0_0 (φ, H) = stp (some 2) φ H (opBox (B + 2) (acells (fget φ 0))) := nrfl rfl
theorem s59_0_1 : stepA E C B 12 r59_0 o59_0_1 (φ, H) = some (fput φ 4 (.nilsl), H) := nrfl rfl
noncomputable def c59_2 : Code := kR c59_0
noncomputable def c59_3 : Code := kL c59_2
noncomputable def r59_1 : Array Oper := kO c59_3
noncomputable def o59_1_0 : Oper := opN r59_1 0
theorem x59_3 : execA E C (fg 59) B 12 E0 N c59_3 s = regX (runA E C B 12 r59_1 r59_1.toList s) (fun s => gcM E0 [] (forget s.1 [], s.2)) := x_reg (ops := r59_1) (by rfl) (by rfl) s
theorem r59_1_l : r59_1.toList = [o59_1_0] := nrfl rfl
theorem s59_1_0 : stepA E C B 12 r59_1 o59_1_0 (φ, H) = stp (some 5) φ H (opBox (B + 5) (zeroCells E.T 39)) := nrfl rfl
noncomputable def c59_4 : Code := kR c59_2
noncomputable def c59_5 : Code := kL c59_4
noncomputable def r59_2 : Array Oper := kO c59_5
noncomputable def o59_2_0 : Oper := opN r59_2 0
theorem x59_5 : execA E C (fg 59) B 12 E0 N c59_5 s = regX (runA E C B 12 r59_2 r59_2.toList s) (fun s => gcM E0 [] (forget s.1 [], s.2)) := x_reg (ops := r59_2) (by rfl) (by rfl) s
theorem r59_2_l : r59_2.toList = [o59_2_0] := nrfl rfl
theorem s59_2_0 : stepA E C B 12 r59_2 o59_2_0 (φ, H) = stp (some 6) φ H (opBox (B + 6) (zeroCells E.T 94)) := nrfl rfl
noncomputable def c59_6 : Code := kR c59_4
noncomputable def c59_7 : Code := kL c59_6
noncomputable def r59_3 : Array Oper := kO c59_7
noncomputable def o59_3_0 : Oper := opN r59_3 0
noncomputable def o59_3_1 : Oper := opN r59_3 1
theorem x59_7 : execA E C (fg 59) B 12 E0 N c59_7 s = regX (runA E C B 12 r59_3 r59_3.toList s) (fun s => gcM E0 [2, 7] (forget s.1 [2, 7], s.2)) := x_reg (ops := r59_3) (by rfl) (by rfl) s
theorem r59_3_l : r59_3.toList = [o59_3_0, o59_3_1] := nrfl rfl
theorem s59_3_0 : stepA E C B 12 r59_3 o59_3_0 (φ, H) = stp (some 7) φ H (.pure (.clo 105 [(fget φ 2), (fget φ 5), (fget φ 6)], [])) := nrfl rfl
theorem s59_3_1 : stepA E C B 12 r59_3 o59_3_1 (φ, H) = stp none φ H (opStore E.T 94 (fget φ 6) (fget φ 7)) := nrfl rfl
noncomputable def c59_8 : Code := kR c59_6
noncomputable def c59_9 : Code := kL c59_8
noncomputable def r59_4 : Array Oper := kO c59_9
noncomputable def o59_4_0 : Oper := opN r59_4 0
noncomputable def o59_4_1 : Oper := opN r59_4 1
noncomputable def o59_4_2 : Oper := opN r59_4 2
theorem x59_9 : execA E C (fg 59) B 12 E0 N c59_9 s = regX (runA E C B 12 r59_4 r59_4.toList s) (fun s => gcM E0 [1, 6, 8, 9, 10] (forget s.1 [1, 6, 8, 9, 10], s.2)) := x_reg (ops := r59_4) (by rfl) (by rfl) s
theorem r59_4_l : r59_4.toList = [o59_4_0, o59_4_1, o59_4_2] := nrfl rfl
theorem s59_4_0 : stepA E C B 12 r59_4 o59_4_0 (φ, H) = stp (some 8) φ H (just (aLoad E.T 94 (fget φ 6))) := nrfl rfl
theorem s59_4_1 : stepA E C B 12 r59_4 o59_4_1 (φ, H) = some (fput φ 9 (fget φ 1), H) := nrfl rfl
theorem s59_4_2 : stepA E C B 12 r59_4 o59_4_2 (φ, H) = callV E C (B + 12 * 8) (some 10) (fun j => B + j * 12 + 10) φ H (fget φ 8) [(.nilsl), (fget φ 9), (.int .i64 8)] true := nrfl rfl
noncomputable def c59_10 : Code := kR c59_8
noncomputable def c59_11 : Code := kL c59_10
noncomputable def r59_5 : Array Oper := kO c59_11
noncomputable def o59_5_0 : Oper := opN r59_5 0
noncomputable def o59_5_1 : Oper := opN r59_5 1
theorem x59_11 : execA E C (fg 59) B 12 E0 N c59_11 s = regX (runA E C B 12 r59_5 r59_5.toList s) (fun s => gcM E0 [5, 11] (forget s.1 [5, 11], s.2)) := x_reg (ops := r59_5) (by rfl) (by rfl) s
theorem r59_5_l : r59_5.toList = [o59_5_0, o59_5_1] := nrfl rfl
theorem s59_5_0 : stepA E C B 12 r59_5 o59_5_0 (φ, H) = stp (some 11) φ H (just (aLoad E.T 39 (fget φ 5))) := nrfl rfl
theorem s59_5_1 : stepA E C B 12 r59_5 o59_5_1 (φ, H) = some (fput φ 4 (fget φ 11), H) := nrfl rfl
noncomputable def c59_12 : Code := kR c59_10
theorem x59_12 : execA E C (fg 59) B 12 E0 N c59_12 s = some (.ret, s) := x_ret (by rfl) s
theorem x59_10 : execA E C (fg 59) B 12 E0 N c59_10 s = seqX (execA E C (fg 59) B 12 E0 N c59_11 s) (execA E C (fg 59) B 12 E0 N c59_12) := x_seq (by rfl) s
theorem x59_8 : execA E C (fg 59) B 12 E0 N c59_8 s = seqX (execA E C (fg 59) B 12 E0 N c59_9 s) (execA E C (fg 59) B 12 E0 N c59_10) := x_seq (by rfl) s
theorem x59_6 : execA E C (fg 59) B 12 E0 N c59_6 s = seqX (execA E C (fg 59) B 12 E0 N c59_7 s) (execA E C (fg 59) B 12 E0 N c59_8) := x_seq (by rfl) s
theorem x59_4 : execA E C (fg 59) B 12 E0 N c59_4 s = seqX (execA E C (fg 59) B 12 E0 N c59_5 s) (execA E C (fg 59) B 12 E0 N c59_6) := x_seq (by rfl) s
theorem x59_2 : execA E C (fg 59) B 12 E0 N c59_2 s = seqX (execA E C (fg 59) B 12 E0 N c59_3 s) (execA E C (fg 59) B 12 E0 N c59_4) := x_seq (by rfl) s
theorem x59_0 : execA E C (fg 59) B 12 E0 N c59_0 s = seqX (execA E C (fg 59) B 12 E0 N c59_1 s) (execA E C (fg 59) B 12 E0 N c59_2) := x_seq (by rfl) s
theorem fi_59 : fInfo E 59 = some ⟨12, #[.tmp 4], c59_0⟩ := nrfl rfl
theorem b_59 (args : List AV) : bodyA E C fg N 59 args H B = bodyX E [.tmp 4] (execA E C (fg 59) B 12 H N c59_0 (frame0 args 0 [], H)) := bodyA_eq fi_59 args H
abbrev F_59 := And.intro (And.intro (And.intro (And.intro @x59_1 (And.intro @r59_0_l @s59_0_0)) (And.intro (And.intro @s59_0_1 @x59_3) (And.intro @r59_1_l @s59_1_0))) (And.intro (And.intro (And.intro @x59_5 @r59_2_l) (And.intro @s59_2_0 @x59_7)) (And.intro (And.intro @r59_3_l @s59_3_0) (And.intro @s59_3_1 @x59_9)))) (And.intro (And.intro (And.intro (And.intro @r59_4_l @s59_4_0) (And.intro @s59_4_1 @s59_4_2)) (And.intro (And.intro @x59_11 @r59_5_l) (And.intro @s59_5_0 @s59_5_1))) (And.intro (And.intro (And.intro @x59_12 @x59_10) (And.intro @x59_8 @x59_6)) (And.intro (And.intro @x59_4 @x59_2) (And.intro @x59_0 @b_59))))
noncomputable def c105_0 : Code := kBody Proofs.Try.f105
noncomputable def c105_1 : Code := kL c105_0
noncomputable def c105_2 : Code := kL c105_1
noncomputable def r105_0 : Array Oper := kO c105_2
noncomputable def o105_0_0 : Oper := opN r105_0 0
noncomputable def o105_0_1 : Oper := opN r105_0 1
noncomputable def o105_0_2 : Oper := opN r105_0 2
noncomputable def o105_0_3 : Oper := opN r105_0 3
theorem x105_2 : execA E C (fg 105) B 42 E0 N c105_2 s = regX (runA E C B 42 r105_0 r105_0.toList s) (fun s => gcM E0 [3, 10, 11, 12] (forget s.1 [3, 10, 11, 12], s.2)) := x_reg (ops := r105_0) (by rfl) (by rfl) s
theorem r105_0_l : r105_0.toList = [o105_0_0, o105_0_1, o105_0_2, o105_0_3] := nrfl rfl
theorem s105_0_0 : stepA E C B 42 r105_0 o105_0_0 (φ, H) = some (fput φ 10 (fget φ 0), H) := nrfl rfl
theorem s105_0_1 : stepA E C B 42 r105_0 o105_0_1 (φ, H) = stp (some 11) φ H (aBuiltin E.T (B + 11) .len #[22] [(fget φ 10)]) := nrfl rfl
theorem s105_0_2 : stepA E C B 42 r105_0 o105_0_2 (φ, H) = stp (some 12) φ H (just (aLoad E.T 3 (fget φ 3))) := nrfl rfl
theorem s105_0_3 : stepA E C B 42 r105_0 o105_0_3 (φ, H) = stp (some 13) φ H (just (aBin E.T .eql 3 (fget φ 11) (fget φ 12))) := nrfl rfl
noncomputable def c105_3 : Code := kR c105_1
noncomputable def c105_4 : Code := kT c105_3
noncomputable def c105_5 : Code := kL c105_4
noncomputable def c105_6 : Code := kL c105_5
noncomputable def r105_1 : Array Oper := kO c105_6
noncomputable def o105_1_0 : Oper := opN r105_1 0
noncomputable def o105_1_1 : Oper := opN r105_1 1
theorem x105_6 : execA E C (fg 105) B 42 E0 N c105_6 s = regX (runA E C B 42 r105_1 r105_1.toList s) (fun s => gcM E0 [1, 2, 5, 13, 14] (forget s.1 [1, 2, 5, 13, 14], s.2)) := x_reg (ops := r105_1) (by rfl) (by rfl) s
theorem r105_1_l : r105_1.toList = [o105_1_0, o105_1_1] := nrfl rfl
theorem s105_1_0 : stepA E C B 42 r105_1 o105_1_0 (φ, H) = some (fput φ 14 (fget φ 1), H) := nrfl rfl
theorem s105_1_1 : stepA E C B 42 r105_1 o105_1_1 (φ, H) = stp (some 15) φ H (just (aBin E.T .eql 3 (fget φ 14) (.int .i64 0))) := nrfl rfl
noncomputable def c105_7 : Code := kR c105_5
noncomputable def c105_8 : Code := kT c105_7
noncomputable def r105_2 : Array Oper := kO c105_8
noncomputable def o105_2_0 : Oper := opN r105_2 0
noncomputable def o105_2_1 : Oper := opN r105_2 1
noncomputable def o105_2_2 : Oper := opN r105_2 2
noncomputable def o105_2_3 : Oper := opN r105_2 3
noncomputable def o105_2_4 : Oper := opN r105_2 4
theorem x105_8 : execA E C (fg 105) B 42 E0 N c105_8 s = regX (runA E C B 42 r105_2 r105_2.toList s) (fun s => gcM E0 [0, 4, 15, 16, 17, 18, 19] (forget s.1 [0, 4, 15, 16, 17, 18, 19], s.2)) := x_reg (ops := r105_2) (by rfl) (by rfl) s
theorem r105_2_l : r105_2.toList = [o105_2_0, o105_2_1, o105_2_2, o105_2_3, o105_2_4] := nrfl rfl
theorem s105_2_0 : stepA E C B 42 r105_2 o105_2_0 (φ, H) = stp (some 16) φ H (just (aLoad E.T 39 (fget φ 4))) := nrfl rfl
theorem s105_2_1 : stepA E C B 42 r105_2 o105_2_1 (φ, H) = some (fput φ 17 (fget φ 0), H) := nrfl rfl
theorem s105_2_2 : stepA E C B 42 r105_2 o105_2_2 (φ, H) = stp (some 18) φ H (aBuildSlice E.T (B + 18) 39 1 (evO E φ) [(0, Operand.tmp 17)]) := nrfl rfl
theorem s105_2_3 : stepA E C B 42 r105_2 o105_2_3 (φ, H) = stp (some 19) φ H (aBuiltin E.T (B + 19) .append #[39, 39] [(fget φ 16), (fget φ 18)]) := nrfl rfl
theorem s105_2_4 : stepA E C B 42 r105_2 o105_2_4 (φ, H) = stp none φ H (opStore E.T 39 (fget φ 4) (fget φ 19)) := nrfl rfl
noncomputable def c105_9 : Code := kE c105_7
theorem x105_9 : execA E C (fg 105) B 42 E0 N c105_9 s = some (.normal, s) := x_skip (by rfl) s
theorem x105_7 : execA E C (fg 105) B 42 E0 N c105_7 (φ, H) = condX (fget φ 15) (execA E C (fg 105) B 42 E0 N c105_8 (φ, H)) (execA E C (fg 105) B 42 E0 N c105_9 (φ, H)) := x_cond (by rfl) _
theorem x105_5 : execA E C (fg 105) B 42 E0 N c105_5 s = seqX (execA E C (fg 105) B 42 E0 N c105_6 s) (execA E C (fg 105) B 42 E0 N c105_7) := x_seq (by rfl) s
noncomputable def c105_10 : Code := kR c105_4
theorem x105_10 : execA E C (fg 105) B 42 E0 N c105_10 s = some (.ret, s) := x_ret (by rfl) s
theorem x105_4 : execA E C (fg 105) B 42 E0 N c105_4 s = seqX (execA E C (fg 105) B 42 E0 N c105_5 s) (execA E C (fg 105) B 42 E0 N c105_10) := x_seq (by rfl) s
noncomputable def c105_11 : Code := kE c105_3
theorem x105_11 : execA E C (fg 105) B 42 E0 N c105_11 s = some (.normal, s) := x_skip (by rfl) s
theorem x105_3 : execA E C (fg 105) B 42 E0 N c105_3 (φ, H) = condX (fget φ 13) (execA E C (fg 105) B 42 E0 N c105_4 (φ, H)) (execA E C (fg 105) B 42 E0 N c105_11 (φ, H)) := x_cond (by rfl) _
theorem x105_1 : execA E C (fg 105) B 42 E0 N c105_1 s = seqX (execA E C (fg 105) B 42 E0 N c105_2 s) (execA E C (fg 105) B 42 E0 N c105_3) := x_seq (by rfl) s
noncomputable def c105_12 : Code := kR c105_0
noncomputable def c105_13 : Code := kL c105_12
noncomputable def r105_3 : Array Oper := kO c105_13
noncomputable def o105_3_0 : Oper := opN r105_3 0
noncomputable def o105_3_1 : Oper := opN r105_3 1
noncomputable def o105_3_2 : Oper := opN r105_3 2
noncomputable def o105_3_3 : Oper := opN r105_3 3
theorem x105_13 : execA E C (fg 105) B 42 E0 N c105_13 s = regX (runA E C B 42 r105_3 r105_3.toList s) (fun s => gcM E0 [2, 4, 13, 20, 21, 22] (forget s.1 [2, 4, 13, 20, 21, 22], s.2)) := x_reg (ops := r105_3) (by rfl) (by rfl) s
theorem r105_3_l : r105_3.toList = [o105_3_0, o105_3_1, o105_3_2, o105_3_3] := nrfl rfl
theorem s105_3_0 : stepA E C B 42 r105_3 o105_3_0 (φ, H) = some (fput φ 20 (fget φ 2), H) := nrfl rfl
theorem s105_3_1 : stepA E C B 42 r105_3 o105_3_1 (φ, H) = some (fput φ 21 (fget φ 1), H) := nrfl rfl
theorem s105_3_2 : stepA E C B 42 r105_3 o105_3_2 (φ, H) = stp (some 22) φ H (aBuiltin E.T (B + 22) .min #[3, 3] [(fget φ 20), (fget φ 21)]) := nrfl rfl
theorem s105_3_3 : stepA E C B 42 r105_3 o105_3_3 (φ, H) = some (fput φ 9 (fget φ 22), H) := nrfl rfl
noncomputable def c105_14 : Code := kR c105_12
noncomputable def c105_15 : Code := kB c105_14
noncomputable def c105_16 : Code := kB c105_15
noncomputable def c105_17 : Code := kL c105_16
noncomputable def c105_18 : Code := kL c105_17
noncomputable def r105_4 : Array Oper := kO c105_18
noncomputable def o105_4_0 : Oper := opN r105_4 0
noncomputable def o105_4_1 : Oper := opN r105_4 1
theorem x105_18 : execA E C (fg 105) B 42 E0 N c105_18 s = regX (runA E C B 42 r105_4 r105_4.toList s) (fun s => gcM E0 [23] (forget s.1 [23], s.2)) := x_reg (ops := r105_4) (by rfl) (by rfl) s
theorem r105_4_l : r105_4.toList = [o105_4_0, o105_4_1] := nrfl rfl
theorem s105_4_0 : stepA E C B 42 r105_4 o105_4_0 (φ, H) = some (fput φ 23 (fget φ 9), H) := nrfl rfl
theorem s105_4_1 : stepA E C B 42 r105_4 o105_4_1 (φ, H) = stp (some 24) φ H (just (aBin E.T .geq 3 (fget φ 23) (.int .i64 0))) := nrfl rfl
noncomputable def c105_19 : Code := kR c105_17
noncomputable def c105_20 : Code := kT c105_19
theorem x105_20 : execA E C (fg 105) B 42 E0 N c105_20 s = some (.normal, s) := x_skip (by rfl) s
noncomputable def c105_21 : Code := kE c105_19
theorem x105_21 : execA E C (fg 105) B 42 E0 N c105_21 s = some (.exit 0, s) := x_exit (by rfl) s
theorem x105_19 : execA E C (fg 105) B 42 E0 N c105_19 (φ, H) = condX (fget φ 24) (execA E C (fg 105) B 42 E0 N c105_20 (φ, H)) (execA E C (fg 105) B 42 E0 N c105_21 (φ, H)) := x_cond (by rfl) _
theorem x105_17 : execA E C (fg 105) B 42 E0 N c105_17 s = seqX (execA E C (fg 105) B 42 E0 N c105_18 s) (execA E C (fg 105) B 42 E0 N c105_19) := x_seq (by rfl) s
noncomputable def c105_22 : Code := kR c105_16
noncomputable def c105_23 : Code := kL c105_22
noncomputable def c105_24 : Code := kB c105_23
noncomputable def r105_6 : Array Oper := kO c105_24
noncomputable def o105_6_0 : Oper := opN r105_6 0
noncomputable def o105_6_1 : Oper := opN r105_6 1
noncomputable def o105_6_2 : Oper := opN r105_6 2
noncomputable def o105_6_3 : Oper := opN r105_6 3
noncomputable def o105_6_4 : Oper := opN r105_6 4
noncomputable def o105_6_5 : Oper := opN r105_6 5
noncomputable def o105_6_6 : Oper := opN r105_6 6
noncomputable def o105_6_7 : Oper := opN r105_6 7
noncomputable def o105_6_8 : Oper := opN r105_6 8
noncomputable def o105_6_9 : Oper := opN r105_6 9
noncomputable def o105_6_10 : Oper := opN r105_6 10
noncomputable def o105_6_11 : Oper := opN r105_6 11
noncomputable def o105_6_12 : Oper := opN r105_6 12
noncomputable def o105_6_13 : Oper := opN r105_6 13
noncomputable def o105_6_14 : Oper := opN r105_6 14
theorem x105_24 : execA E C (fg 105) B 42 E0 N c105_24 s = regX (drawA E C B 42 r105_6 s) (fun s => gcM E0 [24, 27, 28, 29, 30, 31, 32, 33, 34, 35, 36, 37, 38, 39, 40, 41] (forget s.1 [24, 27, 28, 29, 30, 31, 32, 33, 34, 35, 36, 37, 38, 39, 40, 41], s.2)) := x_draw (ops := r105_6) (by rfl) (by rfl) s
theorem r105_6_l : r105_6.toList = [o105_6_0, o105_6_1, o105_6_2, o105_6_3, o105_6_4, o105_6_5, o105_6_6, o105_6_7, o105_6_8, o105_6_9, o105_6_10, o105_6_11, o105_6_12, o105_6_13, o105_6_14] := nrfl rfl
theorem r105_6_st : statOk r105_6 = true := by kernel_rfl
theorem r105_6_dr : drawA E C B 42 r105_6 s = if neat 42 s = true then drX r105_6 (runT E C B 42 r105_6 r105_6.toList 0 s) else none := draw_eq r105_6_st s
theorem r105_6_an (l : List (Nat × Tr)) : dynOk r105_6 l = (!writing l || dynPairs [[], [], [], [2], [], [4], [1, 2, 3, 4, 5], [], [7], [1, 2, 3, 4, 5, 6, 7, 8], [], [], [10, 11], [], [0, 1, 2, 3, 4, 5, 6, 7, 8, 9, 10, 11, 12, 13]] (touching l)) := dynOk_eq (by kernel_rfl) l
theorem s105_6_0 : stepT E C B 42 r105_6 o105_6_0 (φ, H) = stpT (some 27) φ H (just (aLoad E.T 94 (fget φ 5))) := stT_go rfl (goT_R rfl rfl)
theorem s105_6_1 : stepT E C B 42 r105_6 o105_6_1 (φ, H) = some ((fput φ 28 (fget φ 0), H), ⟨false, [], []⟩) := stT_go rfl (goT_mv rfl rfl)
theorem s105_6_2 : stepT E C B 42 r105_6 o105_6_2 (φ, H) = some ((fput φ 29 (fget φ 0), H), ⟨false, [], []⟩) := stT_go rfl (goT_mv rfl rfl)
theorem s105_6_3 : stepT E C B 42 r105_6 o105_6_3 (φ, H) = stpT (some 30) φ H (aBuiltin E.T (B + 30) .len #[22] [(fget φ 29)]) := stT_go rfl (goT_R rfl rfl)
theorem s105_6_4 : stepT E C B 42 r105_6 o105_6_4 (φ, H) = some ((fput φ 31 (fget φ 0), H), ⟨false, [], []⟩) := stT_go rfl (goT_mv rfl rfl)
theorem s105_6_5 : stepT E C B 42 r105_6 o105_6_5 (φ, H) = stpT (some 32) φ H (aBuiltin E.T (B + 32) .len #[22] [(fget φ 31)]) := stT_go rfl (goT_R rfl rfl)
theorem s105_6_6 : stepT E C B 42 r105_6 o105_6_6 (φ, H) = stpT (some 33) φ H (just (aSlice E.T 22 (fget φ 28) none (some (fget φ 30)) (some (fget φ 32)))) := stT_go rfl (goT_R rfl rfl)
theorem s105_6_7 : stepT E C B 42 r105_6 o105_6_7 (φ, H) = some ((fput φ 34 (fget φ 9), H), ⟨false, [], []⟩) := stT_go rfl (goT_mv rfl rfl)
theorem s105_6_8 : stepT E C B 42 r105_6 o105_6_8 (φ, H) = stpT (some 35) φ H (aBuildSlice E.T (B + 35) 22 1 (evO E φ) [(0, Operand.tmp 34)]) := stT_go rfl (goT_R rfl rfl)
theorem s105_6_9 : stepT E C B 42 r105_6 o105_6_9 (φ, H) = stpT (some 36) φ H (aBuiltin E.T (B + 36) .append #[22, 22] [(fget φ 33), (fget φ 35)]) := stT_go rfl (goT_R rfl rfl)
theorem s105_6_10 : stepT E C B 42 r105_6 o105_6_10 (φ, H) = some ((fput φ 37 (fget φ 1), H), ⟨false, [], []⟩) := stT_go rfl (goT_mv rfl rfl)
theorem s105_6_11 : stepT E C B 42 r105_6 o105_6_11 (φ, H) = some ((fput φ 38 (fget φ 9), H), ⟨false, [], []⟩) := stT_go rfl (goT_mv rfl rfl)
theorem s105_6_12 : stepT E C B 42 r105_6 o105_6_12 (φ, H) = stpT (some 39) φ H (just (aBin E.T .sub 3 (fget φ 37) (fget φ 38))) := stT_go rfl (goT_R rfl rfl)
theorem s105_6_13 : stepT E C B 42 r105_6 o105_6_13 (φ, H) = some ((fput φ 40 (fget φ 9), H), ⟨false, [], []⟩) := stT_go rfl (goT_mv rfl rfl)
theorem s105_6_14 : stepT E C B 42 r105_6 o105_6_14 (φ, H) = callVT E C (B + 42 * 8) (some 41) (fun j => B + j * 42 + 41) φ H (fget φ 27) [(fget φ 36), (fget φ 39), (fget φ 40)] true := stT_go rfl (goT_V rfl rfl)
theorem x105_23 : execA E C (fg 105) B 42 E0 N c105_23 s = blockX 1 (fun s => (forget s.1 [], s.2)) (execA E C (fg 105) B 42 E0 N c105_24 s) := x_block (by rfl) (by rfl) s
noncomputable def c105_25 : Code := kR c105_22
noncomputable def r105_5 : Array Oper := kO c105_25
noncomputable def o105_5_0 : Oper := opN r105_5 0
noncomputable def o105_5_1 : Oper := opN r105_5 1
noncomputable def o105_5_2 : Oper := opN r105_5 2
theorem x105_25 : execA E C (fg 105) B 42 E0 N c105_25 s = regX (runA E C B 42 r105_5 r105_5.toList s) (fun s => gcM E0 [25, 26] (forget s.1 [25, 26], s.2)) := x_reg (ops := r105_5) (by rfl) (by rfl) s
theorem r105_5_l : r105_5.toList = [o105_5_0, o105_5_1, o105_5_2] := nrfl rfl
theorem s105_5_0 : stepA E C B 42 r105_5 o105_5_0 (φ, H) = some (fput φ 25 (fget φ 9), H) := nrfl rfl
theorem s105_5_1 : stepA E C B 42 r105_5 o105_5_1 (φ, H) = stp (some 26) φ H (just (aBin E.T .sub 3 (fget φ 25) (.int .i64 1))) := nrfl rfl
theorem s105_5_2 : stepA E C B 42 r105_5 o105_5_2 (φ, H) = some (fput φ 9 (fget φ 26), H) := nrfl rfl
theorem x105_22 : execA E C (fg 105) B 42 E0 N c105_22 s = seqX (execA E C (fg 105) B 42 E0 N c105_23 s) (execA E C (fg 105) B 42 E0 N c105_25) := x_seq (by rfl) s
theorem x105_16 : execA E C (fg 105) B 42 E0 N c105_16 s = seqX (execA E C (fg 105) B 42 E0 N c105_17 s) (execA E C (fg 105) B 42 E0 N c105_22) := x_seq (by rfl) s
theorem x105_15 : execA E C (fg 105) B 42 E0 N c105_15 s = iterA (execA E C (fg 105) B 42 E0 N c105_16) (headA E0) N s := x_loop (by rfl) s
theorem x105_14 : execA E C (fg 105) B 42 E0 N c105_14 s = blockX 0 (fun s => (forget s.1 [0, 1, 5, 9, 24], s.2)) (execA E C (fg 105) B 42 E0 N c105_15 s) := x_block (by rfl) (by rfl) s
theorem x105_12 : execA E C (fg 105) B 42 E0 N c105_12 s = seqX (execA E C (fg 105) B 42 E0 N c105_13 s) (execA E C (fg 105) B 42 E0 N c105_14) := x_seq (by rfl) s
theorem x105_0 : execA E C (fg 105) B 42 E0 N c105_0 s = seqX (execA E C (fg 105) B 42 E0 N c105_1 s) (execA E C (fg 105) B 42 E0 N c105_12) := x_seq (by rfl) s
theorem fi_105 : fInfo E 105 = some ⟨42, #[], c105_0⟩ := nrfl rfl
theorem b_105 (args : List AV) : bodyA E C fg N 105 args H B = bodyX E [] (execA E C (fg 105) B 42 H N c105_0 (frame0 args 0 [], H)) := bodyA_eq fi_105 args H
abbrev F_105 := And.intro (And.intro (And.intro (And.intro (And.intro (And.intro @x105_2 @r105_0_l) (And.intro @s105_0_0 @s105_0_1)) (And.intro (And.intro @s105_0_2 @s105_0_3) (And.intro @x105_6 @r105_1_l))) (And.intro (And.intro (And.intro @s105_1_0 @s105_1_1) (And.intro @x105_8 @r105_2_l)) (And.intro (And.intro @s105_2_0 @s105_2_1) (And.intro @s105_2_2 (And.intro @s105_2_3 @s105_2_4))))) (And.intro (And.intro (And.intro (And.intro @x105_9 @x105_7) (And.intro @x105_5 @x105_10)) (And.intro (And.intro @x105_4 @x105_11) (And.intro @x105_3 (And.intro @x105_1 @x105_13)))) (And.intro (And.intro (And.intro @r105_3_l @s105_3_0) (And.intro @s105_3_1 @s105_3_2)) (And.intro (And.intro @s105_3_3 @x105_18) (And.intro @r105_4_l (And.intro @s105_4_0 @s105_4_1)))))) (And.intro (And.intro (And.intro (And.intro (And.intro @x105_20 @x105_21) (And.intro @x105_19 @x105_17)) (And.intro (And.intro @x105_24 @r105_6_l) (And.intro @r105_6_dr (And.intro @r105_6_an @s105_6_0)))) (And.intro (And.intro (And.intro @s105_6_1 @s105_6_2) (And.intro @s105_6_3 @s105_6_4)) (And.intro (And.intro @s105_6_5 @s105_6_6) (And.intro @s105_6_7 (And.intro @s105_6_8 @s105_6_9))))) (And.intro (And.intro (And.intro (And.intro @s105_6_10 @s105_6_11) (And.intro @s105_6_12 @s105_6_13)) (And.intro (And.intro @s105_6_14 @x105_23) (And.intro @x105_25 (And.intro @r105_5_l @s105_5_0)))) (And.intro (And.intro (And.intro @s105_5_1 @s105_5_2) (And.intro @x105_22 @x105_16)) (And.intro (And.intro @x105_15 @x105_14) (And.intro @x105_12 (And.intro @x105_0 @b_105))))))
end Go.AM.Ytfmnoohhhokicaa
end

section
namespace Go.AM.Ytfmnoohhhokicaa
open Go Go.AM Go.AM.Rub
set_option maxRecDepth 100000
set_option maxHeartbeats 4000000
def chE (l : List Int) (i : Nat) : Int := if rowF l i < 0 ∨ rowF l i > 8 then 1 else if 0 < i ∧ rowF l i > rowF l (i - 1) then 7 else 0
def chkR (l : List Int) : Int := if l.length = 0 then 4 else if l.length > 6 then 3 else fe (chE l) 0 l.length
theorem chkR_zero {l : List Int} : chkR l = 0 ↔ 0 < l.length ∧ l.length ≤ 6 ∧ Rw l.length l := by
  unfold chkR
  split
  · rename_i h; exact ⟨fun e => absurd e (by decide), fun e => by omega⟩
  · split
    · rename_i h; exact ⟨fun e => absurd e (by decide), fun e => by omega⟩
    · rename_i h1 h2
      rw [fe_zero]
      constructor
      · intro h
        have h0 : ∀ i, i < l.length → 0 ≤ rowF l i ∧ rowF l i ≤ 8 ∧ (0 < i → rowF l i ≤ rowF l (i - 1)) := by
          intro i hi
          have := h i (by omega) (by omega)
          unfold chE at this
          split at this
          · exact absurd this (by decide)
          · split at this
            · exact absurd this (by decide)
            · rename_i a b
              exact ⟨by omega, by omega, fun hp => Int.not_lt.1 fun hh => b ⟨hp, hh⟩⟩
        refine ⟨by omega, by omega, rfl, isRow_of (fun i hi => (h0 i hi).1) (fun hp => (h0 0 hp).2.1) fun i hi => ?_⟩
        have := (h0 (i + 1) hi).2.2 (by omega)
        simpa using this
      · rintro ⟨_, _, hr⟩ i _ hi
        have hb := rw_b hr (k := i) (by omega)
        unfold chE
        rw [if_neg (by omega), if_neg]
        rintro ⟨hp, hlt⟩
        have := row_desc hr.row (i - 1) (by omega)
        rw [show i - 1 + 1 = i by omega] at this
        omega
abbrev chS (l : List Int) (ex : Bool) (i : Nat) : St := ([(15, .int .i64 i), (14, .int .i64 l.length), (13, .imm (ics l) l.length ex), (0, .imm (ics l) l.length ex)], [])
theorem ch_go {C : Callee} {l : List Int} {ex : Bool} (h6 : l.length ≤ 6) (i : Nat) (hi : i < l.length) (he : chE l i = 0) :
    ∃ s', (execA E C (fg 25) 0 40 [] 1000000 c25_22) (chS l ex i) = some (.normal, s') ∧ headA [] s' = chS l ex (i + 1) := by
  have hlen := ics_length l
  have hat := icr_at hi
  have hat1 := icr_at (l := l) (k := i - 1) (by omega)
  have g1 : (i : Int) < l.length := by omega
  unfold chE at he
  split at he
  · exact absurd he (by decide)
  · split at he
    · exact absurd he (by decide)
    · rename_i a b
      have a1 : ¬ rowF l i < 0 := by omega
      have a2 : ¬ rowF l i > 8 := by omega
      rcases Nat.eq_zero_or_pos i with hz | hp
      · subst hz
        simp (disch := omega) only [ZF, ↓gd, stp, opPick, just, Rd.bind, Rd.run, Rd.opt, upds, tsz, rdCells, aLoad, aIndexAddr, aNum, aBin, aInt, Nat.reduceLT, Nat.reduceBEq, Nat.reduceEqDiff, Nat.reduceLeDiff, ↓reduceIte, reduceCtorEq, Int.reduceLE, Int.reduceToNat, ZT, F_25, hat, hlen, a1, a2, cl0, if_pos]
        exact ⟨_, rfl, rfl⟩
      · have b1 : ¬ rowF l i > rowF l (i - 1) := fun hh => b ⟨hp, hh⟩
        have g2 : (i : Int) > 0 := by omega
        have w1 : wrp .i64 ((i : Int) - 1) = ((i - 1 : Nat) : Int) := by rw [wrp64 (by omega)]; omega
        have g3 : ((i - 1 : Nat) : Int) < l.length := by omega
        simp (disch := omega) only [ZF, ↓gd, stp, opPick, just, Rd.bind, Rd.run, Rd.opt, upds, tsz, rdCells, aLoad, aIndexAddr, aNum, aBin, aInt, Nat.reduceLT, Nat.reduceBEq, Nat.reduceEqDiff, Nat.reduceLeDiff, ↓reduceIte, reduceCtorEq, ZT, F_25, g1, g2, g3, hat, hat1, hlen, a1, a2, b1, w1, wrp_succ (show i < 1000000 by omega)]
        exact ⟨_, rfl, rfl⟩
theorem ch_bad {C : Callee} {l : List Int} {ex : Bool} (h6 : l.length ≤ 6) (i : Nat) (hi : i < l.length) (he : chE l i ≠ 0) :
    ∃ H, (execA E C (fg 25) 0 40 [] 1000000 c25_22) (chS l ex i) = some (.ret, ([(2, .int .i64 (chE l i))], H)) := by
  have hlen := ics_length l
  have hat := icr_at hi
  have hat1 := icr_at (l := l) (k := i - 1) (by omega)
  have g1 : (i : Int) < l.length := by omega
  unfold chE at he ⊢
  by_cases a : rowF l i < 0 ∨ rowF l i > 8
  · rw [if_pos a]
    rcases a with a | a
    · simp (disch := omega) only [ZF, ↓gd, stp, opPick, just, Rd.bind, Rd.run, Rd.opt, upds, tsz, rdCells, aLoad, aIndexAddr, aNum, aBin, aInt, Nat.reduceLT, Nat.reduceBEq, Nat.reduceEqDiff, Nat.reduceLeDiff, ↓reduceIte, reduceCtorEq, ZT, F_25, g1, hat, hlen, a]
      exact ⟨_, rfl⟩
    · have a1 : ¬ rowF l i < 0 := by omega
      simp (disch := omega) only [ZF, ↓gd, stp, opPick, just, Rd.bind, Rd.run, Rd.opt, upds, tsz, rdCells, aLoad, aIndexAddr, aNum, aBin, aInt, Nat.reduceLT, Nat.reduceBEq, Nat.reduceEqDiff, Nat.reduceLeDiff, ↓reduceIte, reduceCtorEq, ZT, F_25, g1, hat, hlen, a, a1]
      exact ⟨_, rfl⟩
  · rw [if_neg a] at he ⊢
    have a1 : ¬ rowF l i < 0 := by omega
    have a2 : ¬ rowF l i > 8 := by omega
    by_cases b : 0 < i ∧ rowF l i > rowF l (i - 1)
    · rw [if_pos b]
      obtain ⟨hp, b⟩ := b
      have g2 : (i : Int) > 0 := by omega
      have w1 : wrp .i64 ((i : Int) - 1) = ((i - 1 : Nat) : Int) := by rw [wrp64 (by omega)]; omega
      have g3 : ((i - 1 : Nat) : Int) < l.length := by omega
      simp (disch := omega) only [ZF, ↓gd, stp, opPick, just, Rd.bind, Rd.run, Rd.opt, upds, tsz, rdCells, aLoad, aIndexAddr, aNum, aBin, aInt, Nat.reduceLT, Nat.reduceBEq, Nat.reduceEqDiff, Nat.reduceLeDiff, ↓reduceIte, reduceCtorEq, ZT, F_25, g1, g2, g3, hat, hat1, hlen, a1, a2, b, w1]
      exact ⟨_, rfl⟩
    · rw [if_neg b] at he; exact absurd rfl he
theorem check_run {C : Callee} {l : List Int} {a : AV} (ha : IV l a) (hl : l.length ≤ 1000) : rsOf (bodyA E C fg 1000000 25 [a] [] 0) = some (.int .i64 (chkR l)) := by
  rcases ha with ⟨rfl, rfl⟩ | ⟨ex, rfl⟩
  · simp (disch := omega) only [ZF, frame0, stp, just, Rd.bind, Rd.run, Rd.opt, upds, resA, resL, aLen, aBuiltin, aBin, aInt, Nat.reduceBEq, Nat.reduceEqDiff, Nat.reduceLeDiff, ↓reduceIte, reduceCtorEq, ZT, F_25, chkR]
  · unfold chkR
    by_cases h0 : l.length = 0
    · rw [if_pos h0]
      have g0 : (l.length : Int) = 0 := by omega
      simp (disch := omega) only [ZF, frame0, stp, just, Rd.bind, Rd.run, Rd.opt, upds, resA, resL, aLen, aBuiltin, aBin, aInt, Nat.reduceBEq, Nat.reduceEqDiff, Nat.reduceLeDiff, ↓reduceIte, reduceCtorEq, ZT, F_25, g0]
    · rw [if_neg h0]
      have g0 : ¬ (l.length : Int) = 0 := by omega
      have g0' : ((l.length : Int) == 0) = false := by rw [beq_eq_false_iff_ne]; exact g0
      by_cases h6 : l.length > 6
      · rw [if_pos h6]
        have g1 : (l.length : Int) > 6 := by omega
        simp (disch := omega) only [ZF, frame0, stp, just, Rd.bind, Rd.run, Rd.opt, upds, resA, resL, aLen, aBuiltin, aBin, aInt, Nat.reduceBEq, Nat.reduceEqDiff, Nat.reduceLeDiff, ↓reduceIte, reduceCtorEq, ZT, F_25, g0', g1]
      · rw [if_neg h6]
        have g1 : ¬ (l.length : Int) > 6 := by omega
        have hlen := ics_length l
        have hloop := loopE (f := (execA E C (fg 25) 0 40 [] 1000000 c25_22)) (e := chE l) (R := fun e H => ([(2, .int .i64 e)], H)) (chS l ex) l.length (E0 := []) rfl (by omega) (x := .exit 1) (se := ([(16, .bool false), (15, .int .i64 l.length), (14, .int .i64 l.length), (13, .imm (ics l) l.length ex), (0, .imm (ics l) l.length ex)], [])) (by simp)
          (fun i hi _ he => ch_go (by omega) i hi he) (fun i hi _ he => ch_bad (by omega) i hi he) (fun _ => by simp (disch := omega) only [ZF, stp, just, Rd.bind, Rd.run, Rd.opt, upds, aBin, aInt, Nat.reduceEqDiff, Nat.reduceLeDiff, ↓reduceIte, F_25, chS])
        simp only [chS, cl0] at hloop
        rcases hloop with ⟨hz, hloop⟩ | ⟨hz, H, hloop⟩
        · rw [hz]
          simp (disch := omega) only [ZF, frame0, stp, just, Rd.bind, Rd.run, Rd.opt, upds, resA, resL, aLen, aBuiltin, aBin, aInt, Nat.reduceBEq, Nat.reduceEqDiff, Nat.reduceLeDiff, ↓reduceIte, reduceCtorEq, ZT, F_25, g0', g1, hloop]
        · simp (disch := omega) only [ZF, frame0, stp, just, Rd.bind, Rd.run, Rd.opt, upds, resA, resL, aLen, aBuiltin, aBin, aInt, Nat.reduceBEq, Nat.reduceEqDiff, Nat.reduceLeDiff, ↓reduceIte, reduceCtorEq, ZT, F_25, g0', g1, hloop]
theorem check_call {d : Nat} {site : Nat → Nat} {seen : List Nat} {l : List Int} {a : AV} (ha : IV l a) (hl : l.length ≤ 1000) : aBack site true seen (thaw (kF (d + 1)) 25 [a] [] 0) = .pure (.int .i64 (chkR l), []) :=
  aBack_int (kF_ex rfl (check_run ha hl))
end Go.AM.Ytfmnoohhhokicaa
end

section
namespace Go.AM.Ytfmnoohhhokicaa
open Go Go.AM Go.AM.Rub
set_option maxRecDepth 100000
set_option maxHeartbeats 4000000
/-- Rises. -/
def riP (l : List Int) (i : Nat) : List Int := (List.range (i + 1)).map (ps (rowF l))
def riL (l : List Int) : List Int := riP l l.length
theorem riP_len (l : List Int) (i : Nat) : (riP l i).length = i + 1 := by simp [riP]
theorem riP_snoc (l : List Int) (i : Nat) : riP l (i + 1) = riP l i ++ [ps (rowF l) i + rowF l i] := by simp [riP, List.range_succ, ps]
theorem riP_at {l : List Int} {i k : Nat} (h : k ≤ i) : (riP l i)[k]? = some (ps (rowF l) k) := by
  simp only [riP, List.getElem?_map]
  rw [List.getElem?_range (by omega)]; rfl
theorem ps_b {n : Nat} {l : List Int} (h : Rw n l) : ∀ k, k ≤ n → 0 ≤ ps (rowF l) k ∧ ps (rowF l) k ≤ 8 * k
  | 0, _ => by simp [ps]
  | k + 1, hk => by
    have := ps_b h k (by omega)
    have := rw_b h (k := k) (by omega)
    simp only [ps]; omega
abbrev riS (l : List Int) (ex : Bool) (i : Nat) : St := ([(9, .int .i64 i), (8, .int .i64 l.length), (7, .imm (ics l) l.length ex), (3, .ref 6 0 (i + 1) (i + 1) (i + 1) 1 false)], [(6, ⟨.row, ics (riP l i)⟩)])
theorem ri_go {C : Callee} {n : Nat} {l : List Int} {ex : Bool} (h : Rw n l) (hn : n ≤ 8) (i : Nat) (hi : i < l.length) :
    ∃ s', (execA E C (fg 79) 0 25 [] 1000000 c79_9) (riS l ex i) = some (.normal, s') ∧ headA [] s' = riS l ex (i + 1) := by
  have hln := h.len
  have hlen := ics_length l
  have hat := icr_at hi
  have hrl : (ics (riP l i)).length = i + 1 := by rw [ics_length, riP_len]
  have hra := ics_at (riP_at (l := l) (i := i) (Nat.le_refl i))
  have hsn := ics_snoc (riP l i) (ps (rowF l) i + rowF l i)
  have htk : List.take (i + 1) (ics (riP l i)) = ics (riP l i) := List.take_of_length_le (by omega)
  have b1 := ps_b h i (by omega)
  have b2 := rw_b h (k := i) (by omega)
  have g1 : (i : Int) < l.length := by omega
  have g2 : (i : Int) < ((i + 1 : Nat) : Int) := by omega
  have w1 : wrp .i64 (ps (rowF l) i + rowF l i) = ps (rowF l) i + rowF l i := wrp64 (by omega)
  have hno : ¬ i + 1 + 1 ≤ i + 1 := by omega
  simp only [riS, riP_snoc]
  rw [← hsn]
  generalize ics (riP l i) = L at *
  generalize ps (rowF l) i = p at *
  simp (disch := omega) only [ZF, stp, just, Rd.bind, Rd.run, Rd.opt, upds, acells, zeroCells, tsz, elemT, rdCells, aLoad, fresh, aIndexAddr, aNum, aBuiltin, aBin, aInt, putC, evO, Nat.reduceAdd, Nat.reduceLT, Nat.reduceBEq, Nat.reduceEqDiff, Nat.reduceLeDiff, ↓reduceIte, reduceCtorEq, aBuildSlice, aBuildAt, partsOf, fillA, repC, isSliceT, aAppend, srcOf, window, snaps, ZT, F_79, g1, g2, hat, hlen, hrl, hra, htk, w1, hno, room22 (show i + 1 + 1 ≤ 1000000 by omega), wrp_succ (show i < 1000000 by omega)]
  exact ⟨_, rfl, rfl⟩
theorem rises_run {C : Callee} {n : Nat} {l : List Int} {a : AV} (ha : IV l a) (h : Rw n l) (hn : n ≤ 8) :
    ∃ H, bodyA E C fg 1000000 79 [a] [] 0 = some (.ref 6 0 (l.length + 1) (l.length + 1) (l.length + 1) 1 false, H) ∧ hget H 6 = some ⟨.row, ics (riL l)⟩ := by
  rcases ha with ⟨rfl, rfl⟩ | ⟨ex, rfl⟩
  · have hloop := loopM0 (f := (execA E C (fg 79) 0 25 [] 1000000 c79_9)) (E0 := []) (s0 := ([(9, .int .i64 0), (8, .int .i64 0), (7, .nilsl), (3, .ref 6 0 1 1 1 1 false)], [(6, ⟨.row, [.int .i64 0]⟩)])) rfl (e := .exit 0) (se := ([(10, .bool false), (9, .int .i64 0), (8, .int .i64 0), (7, .nilsl), (3, .ref 6 0 1 1 1 1 false)], [(6, ⟨.row, [.int .i64 0]⟩)]))
      (by simp (disch := omega) only [ZF, stp, just, Rd.bind, Rd.run, Rd.opt, upds, aBin, aInt, Nat.reduceEqDiff, Nat.reduceLeDiff, ↓reduceIte, F_79]) (by simp)
    simp (disch := omega) only [ZF, frame0, stp, just, Rd.bind, Rd.run, upds, acells, zeroCells, tsz, elemT, resA, resL, fresh, aLen, aBuiltin, putC, evO, ofV, ofV1, Nat.reduceAdd, Nat.reduceLT, Nat.reduceBEq, Nat.reduceEqDiff, Nat.reduceLeDiff, ↓reduceIte, reduceCtorEq, aBuildSlice, aBuildAt, partsOf, fillA, repC, snaps, ZT, F_79, hloop]
    exact ⟨_, rfl, rfl⟩
  · have hln := h.len
    have hlen := ics_length l
    have hloop := loopM (f := (execA E C (fg 79) 0 25 [] 1000000 c79_9)) (E0 := []) (riS l ex) l.length (fun i hi => ri_go h hn i hi) rfl (by omega)
      (e := .exit 0) (se := ([(10, .bool false), (9, .int .i64 l.length), (8, .int .i64 l.length), (7, .imm (ics l) l.length ex), (3, .ref 6 0 (l.length + 1) (l.length + 1) (l.length + 1) 1 false)], [(6, ⟨.row, ics (riL l)⟩)]))
      (by simp (disch := omega) only [ZF, stp, just, Rd.bind, Rd.run, Rd.opt, upds, aBin, aInt, Nat.reduceEqDiff, Nat.reduceLeDiff, ↓reduceIte, F_79, riS, riL]) (by simp)
    have e0 : ics (riP l 0) = [.int .i64 0] := rfl
    simp only [riS, e0, cl0, Nat.zero_add] at hloop
    simp (disch := omega) only [ZF, frame0, stp, just, Rd.bind, Rd.run, upds, acells, zeroCells, tsz, elemT, resA, resL, fresh, aLen, aBuiltin, putC, evO, ofV, ofV1, Nat.reduceAdd, Nat.reduceLT, Nat.reduceBEq, Nat.reduceEqDiff, Nat.reduceLeDiff, ↓reduceIte, reduceCtorEq, aBuildSlice, aBuildAt, partsOf, fillA, repC, snaps, ZT, F_79, hloop]
    exact ⟨_, rfl, rfl⟩
theorem ri_len (l : List Int) : (ics (riL l)).length = l.length + 1 := by rw [ics_length]; exact riP_len _ _
theorem rises_call {d : Nat} {site : Nat → Nat} {seen : List Nat} {n : Nat} {l : List Int} {a : AV} (ha : IV l a) (h : Rw n l) (hn : n ≤ 8) : aBack site true seen (thaw (kF (d + 1)) 79 [a] [] 0) =
    back1 (site 0) seen (fun k => .ref k 0 (l.length + 1) (l.length + 1) (l.length + 1) 1 false) ⟨.row, ics (riL l)⟩ := by
  obtain ⟨H, h1, h2⟩ := rises_run (C := kF d) ha h hn
  exact aBack_refc (by rw [kF_no rfl]; exact h1) h2 (ri_len l)
end Go.AM.Ytfmnoohhhokicaa
end

section
namespace Go.AM.Ytfmnoohhhokicaa
open Go Go.AM Go.AM.Rub
set_option maxRecDepth 100000
set_option maxHeartbeats 4000000
theorem cmp_run {C : Callee} {a b : Int} (h : -1000000 ≤ b - a ∧ b - a ≤ 1000000) : rsOf (bodyA E C fg 1000000 109 [.int .i64 a, .int .i64 b] [] 0) = some (.int .i64 (b - a)) := by
  have w1 : wrp .i64 (b - a) = b - a := wrp64 (by omega)
  simp (disch := omega) only [ZF, frame0, stp, just, Rd.bind, Rd.run, Rd.opt, upds, resA, resL, aBin, aInt, Nat.reduceBEq, Nat.reduceEqDiff, Nat.reduceLeDiff, ↓reduceIte, reduceCtorEq, F_109, w1]
theorem cmp_call {d : Nat} {site : Nat → Nat} {seen : List Nat} {a b : Int} (h : -1000000 ≤ b - a ∧ b - a ≤ 1000000) : aBack site true seen (thaw (kF (d + 1)) 109 [.int .i64 a, .int .i64 b] [] 0) = .pure (.int .i64 (b - a), []) :=
  aBack_int (kF_ex rfl (cmp_run h))
theorem cmp_pure (caps args : List AV) : mutV E (.clo 109 caps) args = none := rfl
abbrev stH (l : List Int) : AHeap := [(0, ⟨.row, ics l⟩)]
theorem st_head {l l0 : List Int} {φ : AFr} : headA (stH l0) (φ, stH l) = (φ, stH l) := headA_keep (by simp [stH, hget_cons'])
/-- All numbers of a list lie within bounds. -/
def BdI (l : List Int) : Prop := ∀ k, k < l.length → -100000 ≤ rowF l k ∧ rowF l k ≤ 100000
theorem rowF_set {l : List Int} {a k : Nat} {x : Int} (hk : k < l.length) : rowF (l.set a x) k = if a = k then x else rowF l k := by
  simp only [rowF, List.getD_eq_getElem?_getD, List.getElem?_set]
  split
  · rename_i h; subst h; rw [if_pos hk]; rfl
  · rfl
theorem swp_bd {l : List Int} (h : BdI l) {j : Nat} (hj : j + 1 < l.length) : BdI (swpI l j) := by
  intro k hk
  rw [swpI_length] at hk
  have a := h j (by omega)
  have b := h (j + 1) hj
  have c := h k hk
  have e : rowF (swpI l j) k = if j = k then rowF l (j + 1) else if j + 1 = k then rowF l j else rowF l k := by
    unfold swpI
    rw [rowF_set (by rw [List.length_set]; exact hk), rowF_set hk]; rfl
  rw [e]
  split
  · exact b
  · split
    · exact a
    · exact c
abbrev inS (n i j : Nat) (l : List Int) : St := ([(9, .int .i64 j), (8, .int .i64 i), (3, .clo 109 []), (2, .int .i64 n), (1, .int .i64 0), (0, .ref 0 0 n n n 1 false)], stH l)
theorem ins_loop {d B : Nat} {l0 : List Int} {i n : Nat} (h9 : n ≤ 12) : ∀ (j F : Nat) (l : List Int), l.length = n → j < n → BdI l → j < F →
    ∃ j', iterA (execA E (kF (d + 1)) (fg 133) B 53 (stH l0) 1000000 c133_16) (headA (stH l0)) F (inS n i j l) = some (.exit 2, ([(34, .bool false), (9, .int .i64 j'), (8, .int .i64 i), (3, .clo 109 []), (2, .int .i64 n), (1, .int .i64 0), (0, .ref 0 0 n n n 1 false)], stH (insI l j)))
  | j, 0, _, _, _, _, hF => by omega
  | 0, F + 1, l, hl, _, _, _ => by
    refine ⟨(0 : Nat), ?_⟩
    rw [iterA_succ, st_head]
    generalize kF (d + 1) = C
    simp (disch := omega) only [ZF, opPick, just, Rd.bind, Rd.run, Rd.opt, upds, aBin, aInt, Nat.reduceAdd, Nat.reduceBEq, Nat.reduceEqDiff, Nat.reduceLeDiff, ↓reduceIte, stpT, ↓gdT, Rd.foot, writing, touching, Tr.empty, dynPairs, F_133, insI, cl0]
  | j + 1, F + 1, l, hl, hj, hb, hF => by
    have hlen : (ics l).length = n := by rw [ics_length, hl]
    have a1 := icr_at (l := l) (k := j) (by omega)
    have a2 := icr_at (l := l) (k := j + 1) (by omega)
    have b1 := hb j (by omega)
    have b2 := hb (j + 1) (by omega)
    have g1 : ((j + 1 : Nat) : Int) > 0 := by omega
    have g2 : ((j + 1 : Nat) : Int) < n := by omega
    have g3 : (j : Int) < n := by omega
    have w : wrp .i64 (((j + 1 : Nat) : Int) - 1) = (j : Int) := by rw [wrp64 (by omega)]; omega
    have cc := fun (site : Nat → Nat) seen => cmp_call (d := d) (site := site) (seen := seen) (a := rowF l (j + 1)) (b := rowF l j) (by omega)
    simp only [insI]
    by_cases hc : l.getD (j + 1) 0 > l.getD j 0
    · rw [if_pos hc]
      obtain ⟨j', hih⟩ := ins_loop (d := d) (B := B) (l0 := l0) (i := i) h9 j F (swpI l j) (by rw [swpI_length]; exact hl) (by omega) (swp_bd hb (by omega)) (by omega)
      refine ⟨j', ?_⟩
      rw [← hih, iterA_succ, st_head]
      simp only [inS, stH]
      have hneg : rowF l j - rowF l (j + 1) < 0 := by unfold rowF; omega
      have e1 := ics_set l (j + 1) (rowF l j)
      have e2 := ics_set (l.set (j + 1) (rowF l j)) j (rowF l (j + 1))
      have e3 : (l.set (j + 1) (rowF l j)).set j (rowF l (j + 1)) = swpI l j := rfl
      rw [e3] at e2
      have l1 : (ics (l.set (j + 1) (rowF l j))).length = n := by rw [ics_length, List.length_set, hl]
      generalize ics (swpI l j) = R at *
      generalize ics (l.set (j + 1) (rowF l j)) = M at *
      generalize kF (d + 1) = C at *
      simp (disch := omega) only [ZF, stp, opPick, just, Rd.bind, Rd.run, Rd.opt, upds, acells, tsz, rdCells, aLoad, aStore, opStore, aIndexAddr, aNum, aBin, aInt, putC, Nat.reduceAdd, Nat.reduceMul, Nat.reduceLT, Nat.reduceBEq, Nat.reduceEqDiff, Nat.reduceLeDiff, ↓reduceIte, reduceCtorEq, stpT, ↓gdT, Rd.foot, writing, touching, Tr.empty, dynPairs, apartT, disj, aCall, snaps, opCallV, ZT, F_133, callVT_eq (cmp_pure _ _), fi_109, hlen, l1, a1, a2, g1, g2, g3, w, cc, hneg, e1, e2, if_pos]
    · rw [if_neg hc]
      refine ⟨((j + 1 : Nat)), ?_⟩
      have hneg : ¬ rowF l j - rowF l (j + 1) < 0 := by unfold rowF; omega
      rw [iterA_succ, st_head]
      generalize kF (d + 1) = C at *
      simp (disch := omega) only [ZF, opPick, just, Rd.bind, Rd.run, Rd.opt, upds, tsz, rdCells, aLoad, aIndexAddr, aNum, aBin, aInt, Nat.reduceAdd, Nat.reduceMul, Nat.reduceLT, Nat.reduceBEq, Nat.reduceEqDiff, Nat.reduceLeDiff, ↓reduceIte, reduceCtorEq, stpT, ↓gdT, Rd.foot, writing, touching, Tr.empty, dynPairs, apartT, disj, aCall, snaps, opCallV, ZT, F_133, callVT_eq (cmp_pure _ _), fi_109, hlen, a1, a2, g1, g2, g3, w, cc, hneg]
theorem ins_bd {l : List Int} (_ : BdI l) : ∀ (j : Nat) (l : List Int), j < l.length → BdI l → BdI (insI l j)
  | 0, l, _, h => h
  | j + 1, l, hj, h => by
    simp only [insI]
    split
    · exact ins_bd h j (swpI l j) (by rw [swpI_length]; omega) (swp_bd h hj)
    · exact h
theorem srt_bd {l : List Int} (h : BdI l) : ∀ i, i < l.length → BdI (srtN l i)
  | 0, _ => h
  | i + 1, hi => ins_bd h (i + 1) _ (by rw [srtN_length]; exact hi) (srt_bd h i (by omega))
abbrev ouS (n i : Nat) (l : List Int) : St := ([(8, .int .i64 i), (3, .clo 109 []), (2, .int .i64 n), (1, .int .i64 0), (0, .ref 0 0 n n n 1 false)], stH l)
theorem ins_run {d B : Nat} {l : List Int} {n : Nat} (hl : l.length = n) (h0 : 0 < n) (h9 : n ≤ 12) (hb : BdI l) :
    kF (d + 2) 133 [.ref 0 0 n n n 1 false, .int .i64 0, .int .i64 n, .clo 109 []] (stH l) B = some (.tup [], stH (srtI l)) := by
  rw [kF_no rfl]
  have hloop := loopM (f := execA E (kF (d + 1)) (fg 133) B 53 (stH l) 1000000 c133_4) (E0 := stH l) (fun k => ouS n (k + 1) (srtN l k)) (n - 1) (fun k hk => by
      obtain ⟨j', hin⟩ := ins_loop (d := d) (B := B) (l0 := l) (i := k + 1) h9 (k + 1) 1000000 (srtN l k) (by rw [srtN_length, hl]) (by omega) (srt_bd hb k (by omega)) (by omega)
      have g1 : ((k + 1 : Nat) : Int) < n := by omega
      simp only [inS] at hin
      have e : srtN l (k + 1) = insI (srtN l k) (k + 1) := rfl
      simp only [ouS, e]
      generalize kF (d + 1) = C at *
      simp (disch := omega) only [ZF, stp, just, Rd.bind, Rd.run, Rd.opt, upds, aBin, aInt, Nat.reduceBEq, Nat.reduceEqDiff, Nat.reduceLeDiff, ↓reduceIte, F_133, g1, hin, wrp_succ (show k + 1 < 1000000 by omega)]
      exact ⟨_, rfl, st_head⟩) st_head (by omega)
    (e := .exit 0) (se := ([(14, .bool false), (8, .int .i64 n), (3, .clo 109 []), (2, .int .i64 n), (1, .int .i64 0), (0, .ref 0 0 n n n 1 false)], stH (srtI l)))
    (by
      have e : srtN l (n - 1) = srtI l := by rw [← hl]; rfl
      simp only [ouS, e, show n - 1 + 1 = n by omega]
      generalize kF (d + 1) = C at *
      simp (disch := omega) only [ZF, stp, just, Rd.bind, Rd.run, Rd.opt, upds, aBin, aInt, Nat.reduceBEq, Nat.reduceEqDiff, Nat.reduceLeDiff, ↓reduceIte, F_133]) (by simp)
  have z1 : ((0 + 1 : Nat) : Int) = 1 := rfl
  have e0 : srtN l 0 = l := rfl
  simp only [ouS, z1, e0] at hloop
  have w : wrp .i64 (0 + 1) = 1 := by decide
  generalize kF (d + 1) = C at *
  simp (disch := omega) only [ZF, frame0, stp, just, Rd.bind, Rd.run, Rd.opt, upds, resA, resL, aBin, aInt, Nat.reduceAdd, Nat.reduceBEq, Nat.reduceEqDiff, Nat.reduceLeDiff, ↓reduceIte, F_133, w, hloop]
theorem pdq_run {d B : Nat} {l : List Int} {n : Nat} {m : Int} (hl : l.length = n) (h0 : 0 < n) (h9 : n ≤ 12) (hb : BdI l) :
    kF (d + 3) 121 [.ref 0 0 n n n 1 false, .int .i64 0, .int .i64 n, .int .i64 m, .clo 109 []] (stH l) B = some (.tup [], stH (srtI l)) := by
  rw [kF_no rfl]
  have hi := fun B => ins_run (d := d) (B := B) hl h0 h9 hb
  have w1 : wrp .i64 ((n : Int) - 0) = n := wrp64 (by omega)
  have g : (n : Int) ≤ 12 := by omega
  simp only [stH] at hi
  generalize kF (d + 2) = C at *
  have hh := st_head (l := l) (l0 := l) (φ := [(11, .bool true), (10, .bool true), (4, .clo 109 []), (3, .int .i64 m), (2, .int .i64 n), (1, .int .i64 0), (0, .ref 0 0 n n n 1 false)])
  simp only [stH] at hh
  simp (disch := omega) only [ZF, frame0, stp, just, Rd.bind, Rd.run, Rd.opt, upds, resA, resL, aBin, aInt, Nat.reduceAdd, Nat.reduceMul, Nat.reduceBEq, Nat.reduceEqDiff, Nat.reduceLeDiff, ↓reduceIte, reduceCtorEq, mutX, F_121, iterA_succ, hh, hi, w1, g]
theorem len_ok (d : Nat) : ([1, 2, 3, 4, 5, 6].all fun n => match kF (d + 4) 111 [.int .u64 n] [] 0 with | some (.int .i64 _, _) => true | _ => false) = true := by kernel_rfl
theorem len_call (d : Nat) {n : Nat} (h0 : 0 < n) (h6 : n ≤ 6) : ∃ m, ∀ (site : Nat → Nat) seen, aBack site true seen (thaw (kF (d + 4)) 111 [.int .u64 (n : Int)] [] 0) = .pure (.int .i64 m, []) := by
  have := List.all_eq_true.1 (len_ok d) (n : Int) (by
    have : n = 1 ∨ n = 2 ∨ n = 3 ∨ n = 4 ∨ n = 5 ∨ n = 6 := by omega
    rcases this with rfl | rfl | rfl | rfl | rfl | rfl <;> simp)
  split at this
  · rename_i m H h
    exact ⟨m, fun site seen => aBack_int ⟨H, h⟩⟩
  · exact absurd this (by simp)
theorem sort_run {d B : Nat} {l : List Int} {n : Nat} (hl : l.length = n) (h0 : 0 < n) (h6 : n ≤ 6) (hb : BdI l) :
    kF (d + 5) 108 [.ref 0 0 n n n 1 false, .clo 109 []] (stH l) B = some (.tup [], stH (srtI l)) := by
  rw [kF_no rfl]
  obtain ⟨m, hL⟩ := len_call d h0 h6
  have hi := fun B => pdq_run (d := d + 1) (B := B) (m := m) hl h0 (by omega) hb
  have w1 : wrp .u64 (n : Int) = n := wrp_id (by simp only [kLo]; omega) (by simp only [kHi]; omega)
  have hlen : (ics l).length = n := by rw [ics_length, hl]
  simp only [stH] at hi
  generalize kF (d + 4) = C at *
  simp (disch := omega) only [ZF, frame0, stp, justO, just, Rd.bind, Rd.run, upds, resA, resL, aLen, aBuiltin, Nat.reduceMul, Nat.reduceBEq, Nat.reduceEqDiff, Nat.reduceLeDiff, ↓reduceIte, reduceCtorEq, mutX, aCall, snaps, aConv, ZT, F_108, w1, hL, hi, hlen]
theorem sorted_run {d : Nat} {l : List Int} {n : Nat} (hl : l.length = n) (h0 : 0 < n) (h6 : n ≤ 6) (hb : BdI l) :
    pF (d + 6) 67 [.ref 0 0 n n n 1 false] (stH l) 64 = some (.tup [], stH (srtI l)) := by
  rw [pF_s]
  have hi := fun B => sort_run (d := d) (B := B) hl h0 h6 hb
  simp only [stH] at hi
  generalize kF (d + 5) = C at *
  simp (disch := omega) only [ZF, frame0, resA, resL, Nat.reduceAdd, Nat.reduceMul, Nat.reduceBEq, Nat.reduceEqDiff, Nat.reduceLeDiff, ↓reduceIte, reduceCtorEq, mutX, F_67, hi]
/-- Sorted, wherever the list lies. -/
theorem sorted_call {d B k : Nat} {l : List Int} {n : Nat} {H : AHeap} (hl : l.length = n) (h0 : 0 < n) (h6 : n ≤ 6) (hb : BdI l) (hH : hget H k = some ⟨.row, ics l⟩) :
    kF (d + 6) 67 [.ref k 0 n n n 1 false] H B = some (.tup [], hset H k ⟨.row, ics (srtI l)⟩) := by
  rw [kF_fr rfl]
  have hr := sorted_run (d := d) hl h0 h6 hb
  have hm : (mark H 1000 (refsL [.ref k 0 n n n 1 false]) []).reverse = [k] := by
    simp only [refsL, refsOf, List.append_nil, mark, hH, List.contains_nil, Bool.false_eq_true, if_false, List.reverse_cons, List.reverse_nil, List.nil_append]
  have hlen : (ics l).length = n := by rw [ics_length, hl]
  have hlen2 : (ics (srtI l)).length = n := by rw [ics_length]; show (srtN l _).length = n; rw [srtN_length, hl]
  rw [hm]
  simp only [stH] at hr
  have h2 : newsF [(0, ⟨.row, ics (srtI l)⟩)] (.tup []) 1 = [] := rfl
  simp only [focus, AM.apart, List.elem_nil, Bool.not_false, Bool.and_self, if_true, renL, ren, posF, foc, hH, renB, hr, backF, List.length_cons, List.length_nil, Nat.zero_add, h2, baseF, freeL, outF, Nat.lt_one_iff, List.getElem?_cons_zero, List.range_one, List.append_nil, unf, hget_c, goodB, BS.open_]
  rfl
end Go.AM.Ytfmnoohhhokicaa
end

section
namespace Go.AM
theorem hg_mem : ∀ {H : AHeap} {k : Nat} {b : Blk}, (k, b) ∈ H → (hget H k).isSome = true
  | (j, c) :: t, k, b, h => by
    rw [hget_c]
    cases hj : Nat.beq j k with
    | true => rfl
    | false =>
      rcases List.mem_cons.1 h with e | h
      · injection e with e1 e2; subst e1; rw [Nat.beq_refl] at hj; exact absurd hj (by simp)
      · exact hg_mem h
/-- A loop of n rounds, whatever was there at the call's begin. -/
theorem loopE {E0 : AHeap} {f : St → XR} (st : Nat → St) (n : Nat) (h : ∀ i, i < n → ∃ s', f (st i) = some (.normal, s') ∧ headA E0 s' = st (i + 1)) (h0 : headA E0 (st 0) = st 0) (hn : n < 1000) {e : Ex} {se : St} (he : f (st n) = some (e, se)) (hne : e ≠ .normal) :
    iterA f (headA E0) 1000 (st 0) = some (e, se) :=
  iter_all st n 1000 0 (st 0) h0 hn (fun i _ hi => h i (by omega)) (by rw [Nat.zero_add]; exact he) hne
end Go.AM
end

section
namespace Go.AM
section
variable {k : Nat} {c : List AV} {T : AHeap}
theorem mark_box (hc : refsL c = []) : ∀ (n : Nat) (todo seen : List Nat), mark ((k, ⟨.box, c⟩) :: T) n todo seen = mark ((k, ⟨.box, []⟩) :: T) n todo seen
  | 0, _, _ => rfl
  | n + 1, [], _ => rfl
  | n + 1, i :: todo, seen => by
    simp only [mark, hget_cons']
    by_cases hs : seen.contains i = true
    · rw [if_pos hs, if_pos hs]; exact mark_box hc n todo seen
    · rw [if_neg hs, if_neg hs]
      by_cases e : k = i
      · rw [if_pos e, if_pos e]
        simp only [hc]
        exact mark_box hc n _ _
      · rw [if_neg e, if_neg e]
        cases hget T i with
        | none => exact mark_box hc n _ _
        | some b =>
          obtain ⟨st, cs⟩ := b
          cases st <;> exact mark_box hc n _ _
theorem held_box (S : AHeap) : ∀ l : List Nat, allHeld ((k, ⟨.box, c⟩) :: S) l = allHeld ((k, ⟨.box, []⟩) :: S) l
  | [] => rfl
  | i :: l => by
    simp only [allHeld, hget_cons', held_box S l]
    by_cases e : k = i
    · rw [if_pos e, if_pos e]; rfl
    · rw [if_neg e, if_neg e]
theorem closed_box (S : AHeap) : ∀ K : AHeap, closedH ((k, ⟨.box, c⟩) :: S) K = closedH ((k, ⟨.box, []⟩) :: S) K
  | [] => rfl
  | (i, ⟨st, cs⟩) :: K => by
    cases st <;> simp only [closedH, held_box, closed_box S K]
theorem headA_box (hc : refsL c = []) {φ : AFr} {T' : AHeap} (hT : hget T k = none) (h : headA [] (φ, (k, ⟨.box, []⟩) :: T) = (φ, (k, ⟨.box, []⟩) :: T')) : headA [] (φ, (k, ⟨.box, c⟩) :: T) = (φ, (k, ⟨.box, c⟩) :: T') := by
  simp only [headA, mark_box hc] at h ⊢
  generalize mark ((k, ⟨.box, []⟩) :: T) 1000 (refsF φ) [] = keep at *
  simp only [keepB] at h ⊢
  have hno : ∀ b, (k, b) ∉ T := by
    intro b hb
    have := hg_mem hb
    rw [hT] at this
    simp at this
  have hsub : ∀ (S : AHeap) (p : Nat × Blk), p ∈ keepB [] keep S → p ∈ S := by
    intro S
    induction S with
    | nil => intro p hp; exact hp
    | cons q S ih =>
      intro p hp
      obtain ⟨i, b⟩ := q
      simp only [keepB] at hp
      cases hcnd : (keep.elem i || (hget [] i).isSome) with
      | true =>
        rw [hcnd, cond_true] at hp
        rcases List.mem_cons.1 hp with e | hp
        · simp [e]
        · exact List.mem_cons_of_mem _ (ih p hp)
      | false =>
        rw [hcnd, cond_false] at hp
        exact List.mem_cons_of_mem _ (ih p hp)
  have hclosed : ∀ S, closedB φ ((k, ⟨.box, c⟩) :: S) = closedB φ ((k, ⟨.box, []⟩) :: S) := by
    intro S
    simp only [closedB, held_box, closedH, hc, closed_box, refsL, allHeld]
  cases hcnd : (keep.elem k || (hget [] k).isSome) with
  | true =>
    rw [hcnd] at h
    simp only [cond_true, gcIf, hclosed] at h ⊢
    cases hcl : closedB φ ((k, ⟨.box, []⟩) :: keepB [] keep T) with
    | true =>
      rw [hcl] at h
      simp only [Prod.mk.injEq, List.cons.injEq, true_and] at h ⊢
      exact h
    | false =>
      rw [hcl] at h
      simp only [Prod.mk.injEq, List.cons.injEq, true_and] at h ⊢
      exact h
  | false =>
    rw [hcnd] at h
    simp only [cond_false, gcIf] at h ⊢
    cases hcl : closedB φ (keepB [] keep T) with
    | true =>
      rw [hcl] at h
      simp only [Prod.mk.injEq, true_and] at h
      exfalso
      exact hno ⟨.box, []⟩ (hsub T _ (by rw [h]; simp))
    | false =>
      rw [hcl] at h
      simp only [Prod.mk.injEq, List.cons.injEq, true_and] at h ⊢
      exact h
end
end Go.AM
end

section
namespace Go.AM.Ytfmnoohhhokicaa
open Go Go.AM Go.AM.Rub
set_option maxRecDepth 100000
set_option maxHeartbeats 4000000
/-- Bytes. -/
def u8s (l : List Int) : List AV := l.map (AV.int .u8)
theorem u8s_len (l : List Int) : (u8s l).length = l.length := by simp [u8s]
theorem u8s_at {l : List Int} {k : Nat} (h : k < l.length) : (u8s l)[k]? = some (.int .u8 (rowF l k)) := by simp [u8s, rowF_at h]
theorem u8s_refs : ∀ l : List Int, refsL (u8s l) = []
  | [] => rfl
  | a :: l => by
    have := u8s_refs l
    unfold u8s at this ⊢
    simp only [List.map_cons, refsL, refsOf, this, List.append_nil]
/-- A pile's numbers. -/
structure Pl (zs : List Int) : Prop where
  len : zs.length = 8
  b : ∀ k, k < 8 → 0 ≤ rowF zs k ∧ rowF zs k ≤ 255
theorem pl_of {zs : List Int} (h : zs.length = 8 ∧ ∀ (i : Nat) (z : Int), zs[i]? = some z → 0 ≤ z ∧ z ≤ 255) : Pl zs := ⟨h.1, fun k hk => h.2 k _ (rowF_at (by rw [h.1]; exact hk))⟩
/-- How many stones, and their thicknesses, unsorted. -/
def mdN (zs : List Int) (m : Int) : Nat := (1 + (rowF zs 0).tmod m).toNat
def mdP (zs : List Int) (t : Int) (i : Nat) : List Int := (List.range i).map fun k => (rowF zs (2 + k)).tmod (1 + (rowF zs 1).tmod t + 1)
theorem mdP_len (zs : List Int) (t : Int) (i : Nat) : (mdP zs t i).length = i := by simp [mdP]
theorem mdP_snoc (zs : List Int) (t : Int) (i : Nat) : mdP zs t (i + 1) = mdP zs t i ++ [(rowF zs (2 + i)).tmod (1 + (rowF zs 1).tmod t + 1)] := by simp [mdP, List.range_succ]
theorem tmod_b {a b : Int} (ha : 0 ≤ a) (hb : 0 < b) : 0 ≤ a.tmod b ∧ a.tmod b < b := ⟨Int.tmod_nonneg _ ha, Int.tmod_lt_of_pos _ hb⟩
theorem mdN_b {zs : List Int} (h : Pl zs) {m : Int} (h0 : 0 < m) (_ : m ≤ 6) : 0 < mdN zs m ∧ (mdN zs m : Int) ≤ m ∧ (mdN zs m : Int) = 1 + (rowF zs 0).tmod m := by
  have := tmod_b (h.b 0 (by omega)).1 h0
  unfold mdN
  omega
theorem mdP_b {zs : List Int} (h : Pl zs) {t : Int} (h0 : 0 < t) {i : Nat} (hi : i ≤ 6) {k : Nat} (hk : k < i) : 0 ≤ rowF (mdP zs t i) k ∧ rowF (mdP zs t i) k ≤ t := by
  have h1 := tmod_b (h.b 1 (by omega)).1 h0
  have h2 := tmod_b (a := rowF zs (2 + k)) (b := 1 + (rowF zs 1).tmod t + 1) (h.b (2 + k) (by omega)).1 (by omega)
  have e : rowF (mdP zs t i) k = (rowF zs (2 + k)).tmod (1 + (rowF zs 1).tmod t + 1) := by
    simp only [rowF, mdP, List.getD_eq_getElem?_getD, List.getElem?_map]
    rw [List.getElem?_range hk]; rfl
  rw [e]; omega
/-- The row of a pile. -/
def mdR (zs : List Int) (m t : Int) : List Int := srtI (mdP zs t (mdN zs m))
theorem mdR_row {zs : List Int} (h : Pl zs) {m t : Int} (hm : 0 < m) (h6 : m ≤ 6) (ht : 0 < t) (h8 : t ≤ 8) : Rw (mdN zs m) (mdR zs m t) ∧ ∀ x ∈ mdR zs m t, x ≤ t := by
  obtain ⟨n0, n1, _⟩ := mdN_b h hm h6
  have hl := mdP_len zs t (mdN zs m)
  obtain ⟨hp, hd⟩ := srtI_spec (l := mdP zs t (mdN zs m)) (by omega)
  have hx : ∀ x ∈ srtI (mdP zs t (mdN zs m)), 0 ≤ x ∧ x ≤ t := by
    intro x hx
    have hx := hp.mem_iff.1 hx
    obtain ⟨k, hk, rfl⟩ := List.getElem_of_mem hx
    have := mdP_b h ht (i := mdN zs m) (by omega) (k := k) (by omega)
    rw [show rowF (mdP zs t (mdN zs m)) k = (mdP zs t (mdN zs m))[k] by simp [rowF, hk]] at this
    exact this
  exact ⟨⟨by show (srtI _).length = _; rw [hp.length_eq, hl], descP_row (fun x h => by have := hx x h; omega) hd⟩, fun x h => (hx x h).2⟩
noncomputable abbrev mdS (zs : List Int) (n : Nat) (t : Int) (i : Nat) : St :=
  ([(19, .int .i64 i), (18, .int .i64 n), (17, .ref 3 2 n 6 8 1 true), (7, oV 35 1 i), (3, .ptr 3 0 8), (2, .int .i64 t)], (3, ⟨.box, u8s zs⟩) :: oH 35 (ics (mdP zs t i)))
theorem md_go {C : Callee} {zs : List Int} {n : Nat} {t : Int} (h : Pl zs) (hn : n ≤ 6) (h0 : 0 < t) (h8 : t ≤ 8) (i : Nat) (hi : i < n) :
    ∃ s', (execA E C (fg 56) 0 40 [] 1000000 c56_9) (mdS zs n t i) = some (.normal, s') ∧ headA [] s' = mdS zs n t (i + 1) := by
  have hlz : (u8s zs).length = 8 := by rw [u8s_len, h.len]
  have hat := u8s_at (l := zs) (k := 2 + i) (by rw [h.len]; omega)
  have hat1 := u8s_at (l := zs) (k := 1) (by rw [h.len]; omega)
  have b1 := h.b 1 (by omega)
  have b2 := h.b (2 + i) (by omega)
  have m1 := tmod_b b1.1 h0
  have m2 := tmod_b (a := rowF zs (2 + i)) (b := 1 + (rowF zs 1).tmod t + 1) b2.1 (by omega)
  have hsn := ics_snoc (mdP zs t i) ((rowF zs (2 + i)).tmod (1 + (rowF zs 1).tmod t + 1))
  have hrl : (ics (mdP zs t i)).length = i := by rw [ics_length, mdP_len]
  have g1 : (i : Int) < n := by omega
  have t0 : ¬ t = 0 := by omega
  have hz := u8s_refs zs
  simp only [mdS]
  rw [ov_pos (show 0 < i + 1 by omega), ohi_pos (l := mdP zs t (i + 1)) (by rw [mdP_len]; omega), mdP_snoc, ← hsn]
  have w1 : wrp .i64 (rowF zs (2 + i)) = rowF zs (2 + i) := wrp64 (by omega)
  have w2 : wrp .i64 (rowF zs 1) = rowF zs 1 := wrp64 (by omega)
  generalize rowF zs (2 + i) = x at *
  generalize rowF zs 1 = y at *
  generalize u8s zs = Z at *
  generalize hq : y.tmod t = q at *
  have w3 : wrp .i64 (1 + q) = 1 + q := wrp64 (by omega)
  have w4 : wrp .i64 (1 + q + 1) = 1 + q + 1 := wrp64 (by omega)
  have q0 : ¬ 1 + q + 1 = 0 := by omega
  rcases Nat.eq_zero_or_pos i with hp | hp
  · subst hp
    have e0 : ics (mdP zs t 0) = [] := rfl
    rw [e0, ov_zero]
    have oh0 : oH 35 [] = [] := rfl
    rw [oh0]
    simp (disch := omega) only [ZF, stp, justO, just, Rd.bind, Rd.run, Rd.opt, upds, acells, zeroCells, tsz, elemT, rdCells, fieldOf, aFieldAddr, aLoad, fresh, aIndexAddr, aNum, aBuiltin, aBin, aInt, putC, evO, Nat.reduceAdd, Nat.reduceLT, Nat.reduceBEq, Nat.reduceEqDiff, Nat.reduceLeDiff, ↓reduceIte, reduceCtorEq, aBuildSlice, aBuildAt, partsOf, fillA, repC, isSliceT, aAppend, srcOf, window, snaps, aConv, Int.reduceLE, Int.reduceToNat, ZT, F_56, hlz, hat, hat1, t0, q0, hq, w1, w2, w3, w4, cl0, if_pos, room22 (show 1 ≤ 1000000 by omega)]
    exact ⟨_, rfl, headA_box hz rfl rfl⟩
  · rw [ov_pos hp, ohi_pos (by rw [mdP_len]; exact hp)]
    have htk : List.take i (ics (mdP zs t i)) = ics (mdP zs t i) := List.take_of_length_le (by omega)
    have hno : ¬ i + 1 ≤ i := by omega
    generalize ics (mdP zs t i) = L at *
    simp (disch := omega) only [ZF, stp, justO, just, Rd.bind, Rd.run, Rd.opt, upds, acells, zeroCells, tsz, elemT, rdCells, fieldOf, aFieldAddr, aLoad, fresh, aIndexAddr, aNum, aBuiltin, aBin, aInt, putC, evO, Nat.reduceAdd, Nat.reduceLT, Nat.reduceBEq, Nat.reduceEqDiff, Nat.reduceLeDiff, ↓reduceIte, reduceCtorEq, aBuildSlice, aBuildAt, partsOf, fillA, repC, isSliceT, aAppend, srcOf, window, snaps, aConv, ZT, F_56, g1, hlz, hat, hat1, t0, q0, hq, w1, w2, w3, w4, hrl, htk, hno, room22 (show i + 1 ≤ 1000000 by omega), wrp_succ (show i < 1000000 by omega)]
    exact ⟨_, rfl, headA_box hz rfl rfl⟩
theorem made_run {d : Nat} {zs : List Int} {m t : Int} (h : Pl zs) (hm : 0 < m) (h6 : m ≤ 6) (h0 : 0 < t) (h8 : t ≤ 8) :
    ∃ H, bodyA E (kF (d + 6)) fg 1000000 56 [.agg (u8s zs), .int .i64 m, .int .i64 t] [] 0 = some (.ref 35 0 (mdN zs m) (mdN zs m) (mdN zs m) 1 false, H) ∧ hget H 35 = some ⟨.row, ics (mdR zs m t)⟩ := by
  obtain ⟨n0, n1, n2⟩ := mdN_b h hm h6
  have hlz : (u8s zs).length = 8 := by rw [u8s_len, h.len]
  have hat0 := u8s_at (l := zs) (k := 0) (by rw [h.len]; omega)
  have b0 := h.b 0 (by omega)
  have hz := u8s_refs zs
  have hpl := mdP_len zs t (mdN zs m)
  have hso := fun B => sorted_call (d := d) (B := B) (k := 35) (l := mdP zs t (mdN zs m)) (n := mdN zs m) (H := [(3, ⟨.box, u8s zs⟩), (35, ⟨.row, ics (mdP zs t (mdN zs m))⟩)]) hpl n0 (by omega) (fun k hk => by
    have := mdP_b h h0 (i := mdN zs m) (by omega) (k := k) (by omega)
    omega) rfl
  have hh : ∀ b : Blk, hset [(3, ⟨.box, u8s zs⟩), (35, ⟨.row, ics (mdP zs t (mdN zs m))⟩)] 35 b = [(3, ⟨.box, u8s zs⟩), (35, b)] := fun _ => rfl
  simp only [hh] at hso
  have er : srtI (mdP zs t (mdN zs m)) = mdR zs m t := rfl
  rw [er] at hso
  have hloop := loopM (f := execA E (kF (d + 6)) (fg 56) 0 40 [] 1000000 c56_9) (E0 := []) (mdS zs (mdN zs m) t) (mdN zs m) (fun i hi => md_go h (by omega) h0 h8 i hi) (headA_box hz rfl rfl) (by omega)
    (e := .exit 0) (se := ([(20, .bool false), (19, .int .i64 (mdN zs m)), (18, .int .i64 (mdN zs m)), (17, .ref 3 2 (mdN zs m) 6 8 1 true), (7, .ref 35 0 (mdN zs m) (mdN zs m) (mdN zs m) 1 false), (3, .ptr 3 0 8), (2, .int .i64 t)], [(3, ⟨.box, u8s zs⟩), (35, ⟨.row, ics (mdP zs t (mdN zs m))⟩)]))
    (by
      simp only [mdS]
      rw [ov_pos n0, ohi_pos (by rw [hpl]; exact n0)]
      simp (disch := omega) only [ZF, stp, just, Rd.bind, Rd.run, Rd.opt, upds, aBin, aInt, Nat.reduceEqDiff, Nat.reduceLeDiff, ↓reduceIte, F_56]) (by simp)
  have e0 : oH 35 (ics (mdP zs t 0)) = [] := rfl
  simp only [mdS, cl0, e0, ov_zero] at hloop
  have w1 : wrp .i64 (rowF zs 0) = rowF zs 0 := wrp64 (by omega)
  have w2 : wrp .i64 (1 + (rowF zs 0).tmod m) = (mdN zs m : Int) := by rw [← n2]; exact wrp64 (by omega)
  have hm0 : ¬ m = 0 := by omega
  have sp := fun d => snaps_flat (u8s zs) (d + 10) (by simp [u8s]) (by rw [hlz]; omega)
  generalize kF (d + 6) = C at *
  generalize mdN zs m = n at *
  generalize mdR zs m t = R at *
  generalize ics (mdP zs t n) = L at *
  generalize rowF zs 0 = x at *
  generalize u8s zs = Z at *
  have g1 : (0 : Int) ≤ n ∧ (n : Int) ≤ 6 := by omega
  simp (disch := omega) only [ZF, frame0, stp, opBox, justO, just, Rd.bind, Rd.run, Rd.opt, upds, acells, tsz, rdCells, fieldOf, aFieldAddr, aLoad, resA, resL, fresh, aNum, aLen, aBuiltin, aBin, aInt, Nat.reduceAdd, Nat.reduceMul, Nat.reduceLT, Nat.reduceBEq, Nat.reduceEqDiff, Nat.reduceLeDiff, ↓reduceIte, reduceCtorEq, mutX, aConv, aSlice, aBounds, bMax, bHigh, bLow, ZT, F_56, hlz, hat0, w1, w2, hm0, g1, hloop, hso, if_pos]
  exact ⟨_, rfl, rfl⟩
theorem made_call {d : Nat} {site : Nat → Nat} {seen : List Nat} {zs : List Int} {m t : Int} (h : Pl zs) (hm : 0 < m) (h6 : m ≤ 6) (h0 : 0 < t) (h8 : t ≤ 8) : aBack site true seen (thaw (kF (d + 7)) 56 [.agg (u8s zs), .int .i64 m, .int .i64 t] [] 0) =
    back1 (site 0) seen (fun k => .ref k 0 (mdN zs m) (mdN zs m) (mdN zs m) 1 false) ⟨.row, ics (mdR zs m t)⟩ := by
  obtain ⟨H, h1, h2⟩ := made_run (d := d) h hm h6 h0 h8
  exact aBack_refc (by rw [kF_no rfl]; exact h1) h2 (by rw [ics_length]; exact (mdR_row h hm h6 h0 h8).1.len)
end Go.AM.Ytfmnoohhhokicaa
end

section
namespace Go.AM.Ytfmnoohhhokicaa
open Go Go.AM Go.AM.Rub
set_option maxRecDepth 100000
set_option maxHeartbeats 4000000
theorem iv_al {l : List Int} {a : AV} (h : IV l a) : aLen E.T 22 a = .pure (.int .i64 (l.length : Int)) := by
  rcases h with ⟨rfl, rfl⟩ | ⟨ex, rfl⟩ <;> (simp only [aLen, T_22] <;> rfl)
/-- The first place where two lists differ. -/
def dfE (l m : List Int) (i : Nat) : Int := if rowF l i = rowF m i then 0 else 1
theorem list_ext {l m : List Int} (hl : l.length = m.length) : fe (dfE l m) 0 l.length = 0 ↔ l = m := by
  rw [fe_zero]
  constructor
  · intro h
    refine row_ext hl fun i hi => ?_
    have := h i (by omega) (by omega)
    unfold dfE at this
    split at this
    · assumption
    · exact absurd this (by decide)
  · rintro rfl i _ _
    exact if_pos rfl
abbrev saS (a b : AV) (i : Nat) : St := ([(5, .int .i64 i), (1, b), (0, a)], [])
theorem same_run {C : Callee} {l m : List Int} {a b : AV} (ha : IV l a) (hb : IV m b) (hl : l.length ≤ 1000) : rsOf (bodyA E C fg 1000000 24 [a, b] [] 0) = some (.bool (decide (l = m))) := by
  have la := iv_al ha
  have lb := iv_al hb
  by_cases hlm : l.length = m.length
  · have g1 : ¬ (l.length : Int) ≠ m.length := by omega
    have g2 : ((l.length : Int) != m.length) = false := by rw [bne_eq_false_iff_eq]; omega
    have g3 : (l.length : Int) = m.length := by omega
    by_cases h0 : l.length = 0
    · have e1 : l = [] := List.length_eq_zero_iff.1 h0
      have e2 : m = [] := List.length_eq_zero_iff.1 (by omega)
      subst e1 e2
      rw [decide_eq_true rfl]
      have hloop := loopM0 (f := (execA E C (fg 24) 0 26 [] 1000000 c24_15)) (E0 := []) (s0 := saS a b 0) (by rcases ha with ⟨_, rfl⟩ | ⟨_, rfl⟩ <;> rcases hb with ⟨_, rfl⟩ | ⟨_, rfl⟩ <;> rfl) (e := .exit 0) (se := ([(14, .bool false), (5, .int .i64 0), (1, b), (0, a)], []))
        (by simp (disch := omega) only [ZF, stp, just, Rd.bind, Rd.run, Rd.opt, upds, aBuiltin, aBin, aInt, Nat.reduceBEq, Nat.reduceEqDiff, Nat.reduceLeDiff, ↓reduceIte, reduceCtorEq, F_24, la, saS, cl0]) (by simp)
      simp only [saS, cl0] at hloop
      simp (disch := omega) only [ZF, frame0, stp, just, Rd.bind, Rd.run, Rd.opt, upds, resA, resL, aBuiltin, aBin, aInt, Nat.reduceBEq, Nat.reduceEqDiff, Nat.reduceLeDiff, ↓reduceIte, reduceCtorEq, F_24, la, lb, hloop]
    · obtain ⟨ea, rfl⟩ := iv_ne ha (by omega)
      obtain ⟨eb, rfl⟩ := iv_ne hb (by omega)
      have hlen := ics_length l
      have hlen2 := ics_length m
      have hloop := loopE (f := (execA E C (fg 24) 0 26 [] 1000000 c24_15)) (e := dfE l m) (R := fun _ H => ([(4, .bool false)], H)) (saS (.imm (ics l) l.length ea) (.imm (ics m) m.length eb)) l.length (E0 := []) rfl (by omega) (x := .exit 0) (se := ([(14, .bool false), (5, .int .i64 l.length), (1, .imm (ics m) m.length eb), (0, .imm (ics l) l.length ea)], [])) (by simp)
        (fun i hi _ he => by
          have a1 := icr_at (l := l) (k := i) hi
          have a2 := icr_at (l := m) (k := i) (by omega)
          have k1 : (i : Int) < l.length := by omega
          have k2 : (i : Int) < m.length := by omega
          have hq : rowF l i = rowF m i := by
            unfold dfE at he
            split at he
            · assumption
            · exact absurd he (by decide)
          rw [hq] at a1
          simp (disch := omega) only [ZF, stp, just, Rd.bind, Rd.run, Rd.opt, upds, tsz, rdCells, aLoad, aIndexAddr, aNum, aLen, aBuiltin, aBin, aInt, Nat.reduceAdd, Nat.reduceLT, Nat.reduceBEq, Nat.reduceEqDiff, Nat.reduceLeDiff, ↓reduceIte, reduceCtorEq, stpT, Rd.foot, writing, touching, Tr.empty, dynPairs, ZT, F_24, saS, k1, k2, a1, a2, hlen, hlen2, wrp_succ (show i < 1000000 by omega)]
          exact ⟨_, rfl, rfl⟩)
        (fun i hi _ he => by
          have a1 := icr_at (l := l) (k := i) hi
          have a2 := icr_at (l := m) (k := i) (by omega)
          have k1 : (i : Int) < l.length := by omega
          have k2 : (i : Int) < m.length := by omega
          have hq : ¬ rowF l i = rowF m i := fun h => he (if_pos h)
          have hq2 : (rowF l i != rowF m i) = true := by rw [bne_iff_ne]; exact hq
          simp (disch := omega) only [ZF, stp, just, Rd.bind, Rd.run, Rd.opt, upds, tsz, rdCells, aLoad, aIndexAddr, aNum, aLen, aBuiltin, aBin, aInt, Nat.reduceAdd, Nat.reduceLT, Nat.reduceBEq, Nat.reduceEqDiff, Nat.reduceLeDiff, ↓reduceIte, reduceCtorEq, stpT, Rd.foot, writing, touching, Tr.empty, dynPairs, ZT, F_24, saS, k1, k2, a1, a2, hlen, hlen2, hq2]
          exact ⟨_, rfl⟩)
        (fun _ => by simp (disch := omega) only [ZF, stp, just, Rd.bind, Rd.run, Rd.opt, upds, aLen, aBuiltin, aBin, aInt, Nat.reduceBEq, Nat.reduceEqDiff, Nat.reduceLeDiff, ↓reduceIte, reduceCtorEq, ZT, F_24, saS])
      simp only [saS, cl0] at hloop
      rcases hloop with ⟨hz, hloop⟩ | ⟨hz, H, hloop⟩
      · rw [decide_eq_true ((list_ext hlm).1 hz)]
        simp (disch := omega) only [ZF, frame0, stp, just, Rd.bind, Rd.run, Rd.opt, upds, resA, resL, aLen, aBuiltin, aBin, aInt, Nat.reduceBEq, Nat.reduceEqDiff, Nat.reduceLeDiff, ↓reduceIte, reduceCtorEq, ZT, F_24, hloop, g3]
      · rw [decide_eq_false fun e => hz ((list_ext hlm).2 e)]
        simp (disch := omega) only [ZF, frame0, stp, just, Rd.bind, Rd.run, Rd.opt, upds, resA, resL, aLen, aBuiltin, aBin, aInt, Nat.reduceBEq, Nat.reduceEqDiff, Nat.reduceLeDiff, ↓reduceIte, reduceCtorEq, ZT, F_24, hloop, g3]
  · rw [decide_eq_false fun e => hlm (by rw [e])]
    have g1 : (l.length : Int) ≠ m.length := by omega
    have g2 : ((l.length : Int) != m.length) = true := by rw [bne_iff_ne]; omega
    have g3 : ¬ (l.length : Int) = m.length := by omega
    simp (disch := omega) only [ZF, frame0, stp, just, Rd.bind, Rd.run, Rd.opt, upds, resA, resL, aBuiltin, aBin, aInt, Nat.reduceBEq, Nat.reduceEqDiff, Nat.reduceLeDiff, ↓reduceIte, reduceCtorEq, F_24, la, lb, g2]
theorem same_call {d : Nat} {site : Nat → Nat} {seen : List Nat} {l m : List Int} {a b : AV} (ha : IV l a) (hb : IV m b) (hl : l.length ≤ 1000) : aBack site true seen (thaw (kF (d + 1)) 24 [a, b] [] 0) = .pure (.bool (decide (l = m)), []) :=
  aBack_bool (kF_ex rfl (same_run ha hb hl))
end Go.AM.Ytfmnoohhhokicaa
end

section
namespace Go.AM.Ytfmnoohhhokicaa
open Go Go.AM Go.AM.Rub
set_option maxRecDepth 100000
set_option maxHeartbeats 4000000
/-- The cells of a list of rows. -/
def lcs (L : List (List Int)) : List AV := L.map fun l => .imm (ics l) l.length false
theorem lcs_length (L : List (List Int)) : (lcs L).length = L.length := by simp [lcs]
theorem lcs_at {L : List (List Int)} {k : Nat} {l : List Int} (h : L[k]? = some l) : (lcs L)[k]? = some (.imm (ics l) l.length false) := by simp [lcs, h]
theorem lcs_snoc (L : List (List Int)) (l : List Int) : lcs L ++ [.imm (ics l) l.length false] = lcs (L ++ [l]) := by simp [lcs]
theorem lcs_takeA (L : List (List Int)) : (lcs L).take L.length = lcs L := List.take_of_length_le (by rw [lcs_length]; exact Nat.le_refl _)
theorem room39 {n : Nat} (h : n ≤ 1000000) : roomOk E.T 22 n = true := by
  simp only [roomOk, T_22, decide_eq_true_eq]; exact ⟨by decide, rfl, by omega⟩
theorem ohl_pos {k : Nat} {L : List (List Int)} (h : 0 < L.length) : oH k (lcs L) = [(k, ⟨.row, lcs L⟩)] := oH_ne k (by rw [lcs_length]; exact h)
/-- A list of rows as it is handed over. -/
def LV (L : List (List Int)) (a : AV) : Prop := (L = [] ∧ a = .nilsl) ∨ ∃ ex, a = .imm (lcs L) L.length ex
abbrev toS (l : List Int) (a : AV) (i : Nat) : St := ([(8, .int .i64 i), (7, .int .i64 l.length), (6, a), (3, .int .i64 (ps (rowF l) i))], [])
theorem total_run {C : Callee} {l : List Int} {a : AV} (ha : IV l a) (hl : l.length ≤ 1000) (hb : ∀ k, k < l.length → 0 ≤ rowF l k ∧ rowF l k ≤ 100000) : rsOf (bodyA E C fg 1000000 58 [a] [] 0) = some (.int .i64 (ps (rowF l) l.length)) := by
  have hps : ∀ k, k ≤ l.length → 0 ≤ ps (rowF l) k ∧ ps (rowF l) k ≤ 100000 * k := by
    intro k
    induction k with
    | zero => intro _; simp [ps]
    | succ k ih =>
      intro hk
      have := ih (by omega)
      have := hb k (by omega)
      simp only [ps]; omega
  rcases ha with ⟨rfl, rfl⟩ | ⟨ex, rfl⟩
  · have hloop := loopM0 (f := (execA E C (fg 58) 0 17 [] 1000000 c58_9)) (E0 := []) (s0 := ([(8, .int .i64 0), (7, .int .i64 0), (6, .nilsl), (3, .int .i64 0)], [])) rfl (e := .exit 0) (se := ([(9, .bool false), (8, .int .i64 0), (7, .int .i64 0), (6, .nilsl), (3, .int .i64 0)], []))
      (by simp (disch := omega) only [ZF, stp, just, Rd.bind, Rd.run, Rd.opt, upds, aBin, aInt, Nat.reduceEqDiff, Nat.reduceLeDiff, ↓reduceIte, F_58]) (by simp)
    simp (disch := omega) only [ZF, frame0, stp, just, Rd.bind, Rd.run, upds, resA, resL, aLen, aBuiltin, Nat.reduceBEq, Nat.reduceEqDiff, Nat.reduceLeDiff, ↓reduceIte, reduceCtorEq, ZT, F_58, hloop, ps]
  · have hlen := ics_length l
    have hloop := loopM (f := (execA E C (fg 58) 0 17 [] 1000000 c58_9)) (E0 := []) (toS l (.imm (ics l) l.length ex)) l.length (fun i hi => by
        have hat := icr_at hi
        have g1 : (i : Int) < l.length := by omega
        have := hps i (by omega)
        have := hb i hi
        have w : wrp .i64 (ps (rowF l) i + rowF l i) = ps (rowF l) i + rowF l i := wrp64 (by omega)
        simp (disch := omega) only [ZF, stp, just, Rd.bind, Rd.run, Rd.opt, upds, tsz, rdCells, aLoad, aIndexAddr, aNum, aBin, aInt, Nat.reduceLT, Nat.reduceBEq, Nat.reduceEqDiff, Nat.reduceLeDiff, ↓reduceIte, ZT, F_58, toS, ps, g1, hat, hlen, w, wrp_succ (show i < 1000000 by omega)]
        exact ⟨_, rfl, rfl⟩) rfl (by omega) (e := .exit 0) (se := ([(9, .bool false), (8, .int .i64 l.length), (7, .int .i64 l.length), (6, .imm (ics l) l.length ex), (3, .int .i64 (ps (rowF l) l.length))], []))
      (by simp (disch := omega) only [ZF, stp, just, Rd.bind, Rd.run, Rd.opt, upds, aBin, aInt, Nat.reduceEqDiff, Nat.reduceLeDiff, ↓reduceIte, F_58, toS]) (by simp)
    simp only [toS, cl0, ps] at hloop
    simp (disch := omega) only [ZF, frame0, stp, just, Rd.bind, Rd.run, upds, resA, resL, aLen, aBuiltin, Nat.reduceBEq, Nat.reduceEqDiff, Nat.reduceLeDiff, ↓reduceIte, reduceCtorEq, ZT, F_58, hloop]
theorem total_call {d : Nat} {site : Nat → Nat} {seen : List Nat} {l : List Int} {a : AV} (ha : IV l a) (hl : l.length ≤ 1000) (hb : ∀ k, k < l.length → 0 ≤ rowF l k ∧ rowF l k ≤ 100000) : aBack site true seen (thaw (kF (d + 1)) 58 [a] [] 0) = .pure (.int .i64 (ps (rowF l) l.length), []) :=
  aBack_int (kF_ex rfl (total_run ha hl hb))
theorem rowF_take {l : List Int} {k i : Nat} (h : i < k) : rowF (l.take k) i = rowF l i := by
  simp only [rowF, List.getD_eq_getElem?_getD, List.getElem?_take, if_pos h]
theorem totalk_call {d : Nat} {site : Nat → Nat} {seen : List Nat} {n : Nat} {l : List Int} (h : Rw n l) (hn : n ≤ 8) {k : Nat} (hk : k ≤ n) {ex : Bool} : aBack site true seen (thaw (kF (d + 1)) 58 [.imm (ics (l.take k)) k ex] [] 0) = .pure (.int .i64 (ps (rowF l) k), []) := by
  have hl : (l.take k).length = k := by rw [List.length_take, h.len]; omega
  have ha : IV (l.take k) (.imm (ics (l.take k)) k ex) := .inr ⟨ex, by rw [hl]⟩
  have := total_call (d := d) (site := site) (seen := seen) ha (by omega) (fun i hi => by rw [rowF_take (by omega)]; have := rw_b h (k := i) (by omega); omega)
  rw [hl, ps_congr k fun i hi => rowF_take hi] at this
  exact this
/-- A closure that tells whether a row is like another one. -/
structure PrC (C : Callee) (f : Nat) (c : AV) (p : List Int → Bool) (L : List (List Int)) : Prop where
  fi : ∃ x, fInfo E f = some x
  mt : ∀ caps args, mutV E (.clo f caps) args = none
  run : ∀ l ∈ L, ∀ (site : Nat → Nat) seen, aBack site true seen (thaw C f [.imm (ics l) l.length false, .iptr [c] 0] [] 0) = .pure (.bool (p l), [])
abbrev ixS (a : AV) (n f : Nat) (c : AV) (i : Nat) : St := ([(8, .int .i64 i), (7, .int .i64 n), (1, .clo f [.iptr [c] 0]), (0, a)], [])
def ixL (p : List Int → Bool) (L : List (List Int)) : Int := if L.findIdx p < L.length then (L.findIdx p : Int) else -1
theorem ix_run {C : Callee} {f : Nat} {c a : AV} {p : List Int → Bool} {L : List (List Int)} (hC : PrC C f c p L) (ha : LV L a) (hl : L.length ≤ 900000) :
    rsOf (bodyA E C fg 1000000 64 [a, .clo f [.iptr [c] 0]] [] 0) = some (.int .i64 (ixL p L)) := by
  obtain ⟨⟨fi, hfi⟩, hm, hr⟩ := hC
  rcases ha with ⟨rfl, rfl⟩ | ⟨ex, rfl⟩
  · have hloop := loopM0 (f := (execA E C (fg 64) 0 19 [] 1000000 c64_7)) (E0 := []) (s0 := ixS .nilsl 0 f c 0) rfl (e := .exit 0) (se := ([(9, .bool false), (8, .int .i64 0), (7, .int .i64 0), (1, .clo f [.iptr [c] 0]), (0, .nilsl)], []))
      (by simp (disch := omega) only [ZF, stp, just, Rd.bind, Rd.run, Rd.opt, upds, aBin, aInt, Nat.reduceEqDiff, Nat.reduceLeDiff, ↓reduceIte, F_64, ixS, cl0]) (by simp)
    simp only [ixS, cl0] at hloop
    have e : ixL p [] = -1 := rfl
    rw [e]
    simp (disch := omega) only [ZF, frame0, stp, just, Rd.bind, Rd.run, upds, resA, resL, aLen, aBuiltin, Nat.reduceBEq, Nat.reduceEqDiff, Nat.reduceLeDiff, Int.reduceNeg, ↓reduceIte, reduceCtorEq, ZT, F_64, hloop]
  · have hlen := lcs_length L
    have hgo : ∀ i, i < L.length → L.findIdx p > i → ∃ s', (execA E C (fg 64) 0 19 [] 1000000 c64_7) (ixS (.imm (lcs L) L.length ex) L.length f c i) = some (.normal, s') ∧ headA [] s' = ixS (.imm (lcs L) L.length ex) L.length f c (i + 1) := by
      intro i hi hp
      have hk : L[i]? = some L[i] := List.getElem?_eq_getElem hi
      have hat := lcs_at hk
      have hrr := hr L[i] (List.getElem_mem hi)
      have hno := List.not_of_lt_findIdx hp
      rw [show p L[i] = false by simpa using hno] at hrr
      have g1 : (i : Int) < L.length := by omega
      simp (disch := omega) only [ZF, stp, just, Rd.bind, Rd.run, Rd.opt, upds, tsz, rdCells, aLoad, aIndexAddr, aNum, aBin, aInt, Nat.reduceMul, Nat.reduceLT, Nat.reduceBEq, Nat.reduceEqDiff, Nat.reduceLeDiff, ↓reduceIte, reduceCtorEq, aCall, snaps, opCallV, ZT, F_64, ixS, g1, hat, hlen, callV_eq (hm _ _), hfi, hrr, wrp_succ (show i < 1000000 by omega)]
      exact ⟨_, rfl, rfl⟩
    unfold ixL
    by_cases hlt : L.findIdx p < L.length
    · rw [if_pos hlt]
      have hk : L[L.findIdx p]? = some L[L.findIdx p] := List.getElem?_eq_getElem hlt
      have hat := lcs_at hk
      have hrr := hr _ (List.getElem_mem hlt)
      rw [List.findIdx_getElem (w := hlt)] at hrr
      have hloop := loopM (f := (execA E C (fg 64) 0 19 [] 1000000 c64_7)) (E0 := []) (ixS (.imm (lcs L) L.length ex) L.length f c) (L.findIdx p) (fun i hi => hgo i (by omega) hi) rfl (by omega) (e := .ret) (se := ([(4, .int .i64 (L.findIdx p : Nat))], []))
        (by
          generalize L.findIdx p = m at *
          have g1 : (m : Int) < L.length := by omega
          simp (disch := omega) only [ZF, stp, just, Rd.bind, Rd.run, Rd.opt, upds, tsz, rdCells, aLoad, aIndexAddr, aNum, aBin, aInt, Nat.reduceMul, Nat.reduceLT, Nat.reduceBEq, Nat.reduceEqDiff, Nat.reduceLeDiff, ↓reduceIte, reduceCtorEq, aCall, snaps, opCallV, ZT, F_64, ixS, g1, hat, hlen, callV_eq (hm _ _), hfi, hrr]) (by simp)
      simp only [ixS, cl0] at hloop
      simp (disch := omega) only [ZF, frame0, stp, just, Rd.bind, Rd.run, upds, resA, resL, aLen, aBuiltin, Nat.reduceBEq, Nat.reduceEqDiff, Nat.reduceLeDiff, ↓reduceIte, reduceCtorEq, ZT, F_64, hloop]
    · rw [if_neg hlt]
      have hle := List.findIdx_le_length (xs := L) (p := p)
      have hloop := loopM (f := (execA E C (fg 64) 0 19 [] 1000000 c64_7)) (E0 := []) (ixS (.imm (lcs L) L.length ex) L.length f c) L.length (fun i hi => hgo i hi (by omega)) rfl (by omega) (e := .exit 0) (se := ([(9, .bool false), (8, .int .i64 L.length), (7, .int .i64 L.length), (1, .clo f [.iptr [c] 0]), (0, .imm (lcs L) L.length ex)], []))
        (by simp (disch := omega) only [ZF, stp, just, Rd.bind, Rd.run, Rd.opt, upds, aBin, aInt, Nat.reduceEqDiff, Nat.reduceLeDiff, ↓reduceIte, F_64, ixS]) (by simp)
      simp only [ixS, cl0] at hloop
      simp (disch := omega) only [ZF, frame0, stp, just, Rd.bind, Rd.run, upds, resA, resL, aLen, aBuiltin, Nat.reduceBEq, Nat.reduceEqDiff, Nat.reduceLeDiff, Int.reduceNeg, ↓reduceIte, reduceCtorEq, ZT, F_64, hloop]
theorem ix_call {d : Nat} {f : Nat} {c a : AV} {p : List Int → Bool} {L : List (List Int)} (hC : PrC (kF d) f c p L) (ha : LV L a) (hl : L.length ≤ 900000) {site : Nat → Nat} {seen : List Nat} :
    aBack site true seen (thaw (kF (d + 1)) 64 [a, .clo f [.iptr [c] 0]] [] 0) = .pure (.int .i64 (ixL p L), []) :=
  aBack_int (kF_ex rfl (ix_run hC ha hl))
theorem ixL_any (p : List Int → Bool) (L : List (List Int)) : decide (ixL p L ≥ 0) = L.any p := by
  unfold ixL
  by_cases h : L.findIdx p < L.length
  · rw [if_pos h, decide_eq_true (by omega)]
    rw [eq_comm, List.any_eq_true]
    exact List.findIdx_lt_length.1 h
  · rw [if_neg h, decide_eq_false (by omega), eq_comm, List.any_eq_false]
    intro x hx hp
    exact h (List.findIdx_lt_length.2 ⟨x, hx, hp⟩)
theorem con_run {d : Nat} {f : Nat} {c a : AV} {p : List Int → Bool} {L : List (List Int)} (hC : PrC (kF d) f c p L) (ha : LV L a) (hl : L.length ≤ 900000) (_ : ∀ e, snap (e + 8) c = .pure (c, [])) :
    rsOf (bodyA E (kF (d + 1)) fg 1000000 73 [a, .clo f [.iptr [c] 0]] [] 0) = some (.bool (L.any p)) := by
  have hi := fun (site : Nat → Nat) seen => ix_call (site := site) (seen := seen) hC ha hl
  have sn : ∀ e, snap (e + 1) a = .pure (a, []) := by intro e; rcases ha with ⟨_, rfl⟩ | ⟨_, rfl⟩ <;> rfl
  generalize kF (d + 1) = C at *
  rw [← ixL_any]
  generalize ixL p L = z at *
  simp (disch := omega) only [ZF, frame0, stp, just, Rd.bind, Rd.run, Rd.opt, upds, resA, resL, aBin, aInt, Nat.reduceBEq, Nat.reduceEqDiff, Nat.reduceLeDiff, ↓reduceIte, reduceCtorEq, aCall, snaps, F_73, hi, sn]
theorem con_call {d : Nat} {f : Nat} {c a : AV} {p : List Int → Bool} {L : List (List Int)} (hC : PrC (kF d) f c p L) (ha : LV L a) (hl : L.length ≤ 900000) (hs : ∀ e, snap (e + 8) c = .pure (c, [])) {site : Nat → Nat} {seen : List Nat} :
    aBack site true seen (thaw (kF (d + 2)) 73 [a, .clo f [.iptr [c] 0]] [] 0) = .pure (.bool (L.any p), []) :=
  aBack_bool (kF_ex rfl (con_run hC ha hl hs))
end Go.AM.Ytfmnoohhhokicaa
end

section
namespace Go.AM.Rub
set_option maxRecDepth 100000
/-- All rows of m more numbers behind l, none above 'most', of what is left. -/
def fuR (l : List Int) (m : Nat) (left most : Int) : List (List Int) := (rowsL m left most).map (l ++ ·)
theorem fuR_zero (l : List Int) (left most : Int) : fuR l 0 left most = if left = 0 then [l] else [] := by
  unfold fuR
  simp only [rowsL]
  split <;> simp
theorem fuR_nil (m : Nat) (left most : Int) : fuR [] m left most = rowsL m left most := by
  unfold fuR; simp
theorem fuR_succ (l : List Int) (m : Nat) (left most : Int) : fuR l (m + 1) left most = (dn (min most left)).flatMap fun t => fuR (l ++ [t]) m (left - t) t := by
  unfold fuR
  simp only [rowsL, List.map_flatMap, List.map_map]
  congr 1
  funext t
  congr 1
  funext r
  simp
/-- .. by the first j numbers, from the greatest one down. -/
def fuP (l : List Int) (m : Nat) (left : Int) (m0 : Nat) (j : Nat) : List (List Int) := (List.range j).flatMap fun (i : Nat) => fuR (l ++ [((m0 : Int) - i)]) m (left - ((m0 : Int) - i)) ((m0 : Int) - i)
theorem fuP_snoc (l : List Int) (m : Nat) (left : Int) (m0 j : Nat) : fuP l m left m0 (j + 1) = fuP l m left m0 j ++ fuR (l ++ [((m0 : Int) - j)]) m (left - ((m0 : Int) - j)) ((m0 : Int) - j) := by
  unfold fuP
  rw [List.range_succ, List.flatMap_append]
  simp
theorem dnN_range : ∀ n : Nat, dnN n = (List.range (n + 1)).map fun (i : Nat) => (n : Int) - i
  | 0 => rfl
  | n + 1 => by
    have h : List.range (n + 1 + 1) = 0 :: (List.range (n + 1)).map Nat.succ := List.range_succ_eq_map
    rw [dnN, dnN_range n, h, List.map_cons, List.map_map]
    congr 1
    apply List.map_congr_left
    intro a _
    simp only [Function.comp_apply]
    omega
theorem fuP_all (l : List Int) (m : Nat) {left most : Int} {m0 : Nat} (h : min most left = m0) : fuP l m left m0 (m0 + 1) = fuR l (m + 1) left most := by
  rw [fuR_succ, h]
  unfold fuP dn
  rw [if_neg (by omega), Int.toNat_natCast, dnN_range, List.flatMap_map]
theorem fuR_len (l : List Int) (m : Nat) (left most : Int) (h : most ≤ 8) : (fuR l m left most).length ≤ 9 ^ m := by
  unfold fuR
  rw [List.length_map]
  exact rowsL_len m left most h
theorem fuP_len (l : List Int) (m : Nat) (left : Int) (m0 : Nat) (h : m0 ≤ 8) : ∀ j, j ≤ m0 + 1 → (fuP l m left m0 j).length ≤ j * 9 ^ m
  | 0, _ => by simp [fuP]
  | j + 1, hj => by
    have ih := fuP_len l m left m0 h j (by omega)
    have := fuR_len (l ++ [((m0 : Int) - j)]) m (left - ((m0 : Int) - j)) ((m0 : Int) - j) (by omega)
    rw [fuP_snoc, List.length_append, Nat.succ_mul]
    omega
end Go.AM.Rub
end

section
namespace Go.AM.Ytfmnoohhhokicaa
open Go Go.AM Go.AM.Rub
set_option maxRecDepth 100000
set_option maxHeartbeats 8000000
abbrev rwK (i j k : Nat) : AV := .clo 105 [.ptr i 0 1, .ptr j 0 1, .ptr k 0 1]
/-- The heap of a call, with no row found yet, and with some. -/
abbrev rhA (l : List Int) (n : Nat) : AHeap := [(0, ⟨.row, ics l⟩), (1, ⟨.box, [.int .i64 n]⟩), (2, ⟨.box, [.nilsl]⟩), (3, ⟨.box, [rwK 1 2 3]⟩)]
abbrev rhB (l : List Int) (n : Nat) (L : List (List Int)) : AHeap := [(0, ⟨.row, ics l⟩), (1, ⟨.box, [.int .i64 n]⟩), (2, ⟨.box, [.ref 3 0 L.length L.length L.length 1 false]⟩), (3, ⟨.row, lcs L⟩), (4, ⟨.box, [rwK 1 2 4]⟩)]
/-- What it leaves. -/
structure RoA (l : List Int) (n : Nat) (new : List (List Int)) (H : AHeap) (id : Nat) (st : BS) : Prop where
  h0 : hget H 0 = some ⟨st, ics l⟩
  st : st = .row ∨ st = .froz
  h1 : hget H 1 = some ⟨.box, [.int .i64 n]⟩
  h2 : hget H 2 = some ⟨.box, [oV id 1 new.length]⟩
  h3 : hget H 3 = some ⟨.box, [rwK 1 2 3]⟩
  id4 : 4 ≤ id
  hr : 0 < new.length → hget H id = some ⟨.row, lcs new⟩
structure RoB (l : List Int) (n : Nat) (L : List (List Int)) (H : AHeap) (st : BS) : Prop where
  h0 : hget H 0 = some ⟨st, ics l⟩
  st : st = .row ∨ st = .froz
  h1 : hget H 1 = some ⟨.box, [.int .i64 n]⟩
  h2 : hget H 2 = some ⟨.box, [.ref 3 0 L.length L.length L.length 1 false]⟩
  h3 : hget H 3 = some ⟨.row, lcs L⟩
  h4 : hget H 4 = some ⟨.box, [rwK 1 2 4]⟩
/-- What a call does. -/
structure RoC (d : Nat) (l : List Int) (n k m : Nat) (left most : Int) : Prop where
  a : ∃ H id st, pF d 105 [.ref 0 0 k k k 1 false, .int .i64 left, .int .i64 most, .ptr 1 0 1, .ptr 2 0 1, .ptr 3 0 1] (rhA l n) 64 = some (.tup [], H) ∧ RoA l n (fuR l m left most) H id st
  b : ∀ L : List (List Int), 0 < L.length → L.length + 9 ^ m ≤ 900000 → ∃ H st, pF d 105 [.ref 0 0 k k k 1 false, .int .i64 left, .int .i64 most, .ptr 1 0 1, .ptr 2 0 1, .ptr 4 0 1] (rhB l n L) 64 = some (.tup [], H) ∧ RoB l n (L ++ fuR l m left most) H st
theorem newsA {l : List Int} {n : Nat} {new : List (List Int)} {H : AHeap} {id : Nat} {st : BS} (h : RoA l n new H id st) : newsF H (.tup []) 4 = if new = [] then [] else [id] := by
  obtain ⟨h0, hs, h1, h2, h3, h4, hr⟩ := h
  have e : refsOf (.tup []) ++ List.range 4 = [0, 1, 2, 3] := rfl
  unfold newsF
  rw [e]
  cases hn : new with
  | nil =>
    subst hn
    rw [if_pos rfl]
    have hv : oV id 1 ([] : List (List Int)).length = .nilsl := rfl
    rw [hv] at h2
    rcases hs with rfl | rfl <;> simp [mark, h0, h1, h2, h3, refsL, refsOf]
  | cons x xs =>
    rw [← hn]
    have hp : 0 < new.length := by rw [hn]; simp
    rw [if_neg (by rw [hn]; simp)]
    rw [ov_pos hp] at h2
    have hr := hr hp
    have c0 : (id == 0) = false := by rw [beq_eq_false_iff_ne]; omega
    have c1 : (id == 1) = false := by rw [beq_eq_false_iff_ne]; omega
    have c2 : (id == 2) = false := by rw [beq_eq_false_iff_ne]; omega
    have c3 : (3 == id) = false := by rw [beq_eq_false_iff_ne]; omega
    have c4 : ¬ id < 4 := by omega
    have d0 : ¬ id = 0 := by omega
    have d1 : ¬ id = 1 := by omega
    have d2 : ¬ id = 2 := by omega
    have d3 : ¬ id = 3 := by omega
    have d3' : ¬ 3 = id := by omega
    have d2' : ¬ 2 = id := by omega
    have d1' : ¬ 1 = id := by omega
    rcases hs with rfl | rfl <;> simp [mark, h0, h1, h2, h3, hr, refsL, refsOf, d0, d1, d2, d1', d2', d3', h4]
theorem newsB {l : List Int} {n : Nat} {L : List (List Int)} {H : AHeap} {st : BS} (h : RoB l n L H st) : newsF H (.tup []) 5 = [] := by
  obtain ⟨h0, hs, h1, h2, h3, h4⟩ := h
  have e : refsOf (.tup []) ++ List.range 5 = [0, 1, 2, 3, 4] := rfl
  unfold newsF
  rw [e]
  rcases hs with rfl | rfl <;> simp [mark, h0, h1, h2, h3, h4, refsL, refsOf]
end Go.AM.Ytfmnoohhhokicaa
end

section
namespace Go.AM.Rub
set_option maxRecDepth 100000
/-- One row more, if it is not there. -/
def ad (out : List (List Int)) (l : List Int) : List (List Int) := if l ∈ out then out else out ++ [l]
end Go.AM.Rub
end

section
namespace Go.AM.Ytfmnoohhhokicaa
open Go Go.AM Go.AM.Rub
set_option maxRecDepth 100000
set_option maxHeartbeats 8000000
theorem any_eq (m : List Int) (L : List (List Int)) : L.any (fun l => decide (l = m)) = decide (m ∈ L) := by
  rw [Bool.eq_iff_iff, List.any_eq_true, decide_eq_true_eq]
  constructor
  · rintro ⟨x, hx, e⟩; rw [← of_decide_eq_true e]; exact hx
  · intro h; exact ⟨m, h, decide_eq_true rfl⟩
end Go.AM.Ytfmnoohhhokicaa
end

section
namespace Go.AM.Rub
set_option maxRecDepth 100000
theorem ps_map_mv (g : Int → Int) {a : Nat → Int} {i j : Nat} (hij : i < j) : ∀ n, ps (fun k => g (mvF a i j k)) n = ps (fun k => g (a k)) n + (if i < n then g (a i - 1) - g (a i) else 0) + (if j < n then g (a j + 1) - g (a j) else 0)
  | 0 => by simp [ps]
  | n + 1 => by
    simp only [ps, ps_map_mv g hij n]
    have e : mvF a i j n = (if n = i then a n - 1 else if n = j then a n + 1 else a n) := rfl
    rw [e]
    by_cases h1 : n = i
    · subst h1
      simp only [if_true, if_pos (Nat.lt_succ_self n), if_neg (Nat.lt_irrefl n), if_neg (show ¬ j < n by omega), if_neg (show ¬ j < n + 1 by omega)]; omega
    · by_cases h2 : n = j
      · subst h2
        simp only [if_neg h1, if_true, if_pos (show i < n by omega), if_pos (show i < n + 1 by omega), if_neg (Nat.lt_irrefl n), if_pos (Nat.lt_succ_self n)]; omega
      · have e1 : (i < n + 1) = (i < n) := by apply propext; omega
        have e2 : (j < n + 1) = (j < n) := by apply propext; omega
        simp only [if_neg h1, if_neg h2, e1, e2]; omega
/-- The sum of a function over a row. -/
def sumG (g : Int → Int) : List Int → Int
  | [] => 0
  | x :: l => g x + sumG g l
theorem sumG_ps (g : Int → Int) : ∀ l : List Int, sumG g l = ps (fun k => g (rowF l k)) l.length
  | [] => rfl
  | x :: l => by
    have : ∀ k, ps (fun k => g (rowF (x :: l) k)) (k + 1) = g x + ps (fun k => g (rowF l k)) k := by
      intro k
      induction k with
      | zero => simp [ps, rowF]
      | succ k ih => rw [ps, ih, ps]; simp [rowF]; omega
    rw [sumG, sumG_ps g l, List.length_cons, this]
theorem sumG_mv (g : Int → Int) {n : Nat} {l : List Int} (h : Rw n l) {i j : Nat} (r : Rb n l i j) : sumG g (mvL l i j) = sumG g l + (g (rowF l i - 1) - g (rowF l i)) + (g (rowF l j + 1) - g (rowF l j)) := by
  have hl := h.len
  have hj : j < l.length := by have := r.lj; omega
  rw [sumG_ps, sumG_ps, mvL_length]
  have : ps (fun k => g (rowF (mvL l i j) k)) l.length = ps (fun k => g (mvF (rowF l) i j k)) l.length := ps_congr _ fun k _ => by rw [rowF_mv r.lt hj]
  rw [this, ps_map_mv g r.lt, if_pos (by have := r.lt; omega), if_pos hj]
/-- Convex from 0 to 8. -/
def Conv (g : Int → Int) : Prop := ∀ x y : Int, 0 ≤ y → x ≤ 8 → x - y ≥ 2 → g (x - 1) + g (y + 1) ≤ g x + g y
theorem conv_le {g : Int → Int} (hg : Conv g) {n : Nat} {b : List Int} (hb : Rw n b) : ∀ (d : Nat) (a : List Int), Rw n a → MajL a b → apL a b = d → sumG g b ≤ sumG g a := by
  intro d
  induction d with
  | zero =>
    intro a ha h hd
    have c := apL_cast a b
    have z := (ap_zero (a := rowF a) (b := rowF b) a.length).1 (by omega)
    rw [row_ext (by rw [ha.len, hb.len]) (eq_of_le z h.eq)]
    exact Int.le_refl _
  | succ d ih =>
    intro a ha h hd
    have hne : a ≠ b := fun e => by
      subst e
      have := (ap_zero (a := rowF a) (b := rowF a) a.length).2 fun k _ => Int.le_refl _
      unfold apL at hd; omega
    obtain ⟨i, j, r, h1, h2, h3, h4⟩ := step_down ha hb h hne
    have := ih _ h1 h2 (by omega)
    have e := sumG_mv g ha r
    have x := isRow_at ha.row i (by have := r.lt; have := r.lj; have := ha.len; omega)
    have y := isRow_at ha.row j (by have := r.lj; have := ha.len; omega)
    have := hg (rowF a i) (rowF a j) y.1 x.2 r.df
    omega
def cntL (t : Int) : List Int → Int
  | [] => 0
  | x :: l => (if x > t then 1 else 0) + cntL t l
def cnjF (l : List Int) (t : Nat) : Int := cntL t l
theorem cnj_ps (l : List Int) : (∀ x ∈ l, 0 ≤ x) → ∀ k : Nat, ps (cnjF l) k = sumG (fun x => min x k) l := by
  induction l with
  | nil =>
    intro _ k
    induction k with
    | zero => rfl
    | succ k ih => rw [ps, ih]; simp [cnjF, cntL, sumG]
  | cons x l ih =>
    intro h k
    have ih := ih (fun y hy => h y (by simp [hy])) k
    have hx := h x (by simp)
    have e : ∀ k : Nat, ps (cnjF (x :: l)) k = min x k + ps (cnjF l) k := by
      intro k
      induction k with
      | zero => simp only [ps]; omega
      | succ k ihk =>
        rw [ps, ihk, ps]
        simp only [cnjF, cntL]
        split <;> omega
    rw [e, ih]; rfl
/-- Turned, rows go the other way. -/
theorem cnj_maj {n : Nat} {a b : List Int} (ha : Rw n a) (hb : Rw n b) (h : MajL a b) (k : Nat) : ps (cnjF a) k ≤ ps (cnjF b) k := by
  have nn : ∀ l : List Int, Rw n l → ∀ x ∈ l, 0 ≤ x := fun l hl x hx => by
    obtain ⟨i, hi⟩ := List.mem_iff_getElem?.1 hx
    have hlt := (List.getElem?_eq_some_iff.1 hi).1
    have := isRow_at hl.row i hlt
    simp only [rowF, List.getD_eq_getElem?_getD, hi, Option.getD_some] at this
    exact this.1
  rw [cnj_ps a (nn a ha), cnj_ps b (nn b hb)]
  have cv : Conv (fun x => -min x (k : Int)) := fun x y h1 h2 h3 => by simp only; omega
  have := conv_le cv hb _ _ ha h rfl
  have e : ∀ l : List Int, sumG (fun x => -min x (k : Int)) l = -sumG (fun x => min x (k : Int)) l := by
    intro l
    induction l with
    | nil => rfl
    | cons x l ih => simp only [sumG, ih]; omega
  rw [e, e] at this
  omega
end Go.AM.Rub
end

section
namespace Go.AM.Rub
set_option maxRecDepth 100000
def lowF (a b : Nat → Int) (k : Nat) : Int := min (ps a (k + 1)) (ps b (k + 1)) - min (ps a k) (ps b k)
def lowL (a b : List Int) : List Int := (List.range a.length).map (lowF (rowF a) (rowF b))
theorem lowL_length (a b : List Int) : (lowL a b).length = a.length := by simp [lowL]
theorem rowF_low {a b : List Int} {k : Nat} (hk : k < a.length) : rowF (lowL a b) k = lowF (rowF a) (rowF b) k := by simp [rowF, lowL, hk]
theorem ps_low (a b : Nat → Int) : ∀ k, ps (lowF a b) k = min (ps a k) (ps b k)
  | 0 => by simp [ps]
  | k + 1 => by rw [ps, ps_low a b k, lowF]; omega
theorem ps_lowL {a b : List Int} {k : Nat} (hk : k ≤ a.length) : ps (rowF (lowL a b)) k = min (ps (rowF a) k) (ps (rowF b) k) := by
  rw [← ps_low]
  exact ps_congr k fun i hi => rowF_low (by omega)
theorem low_row {n : Nat} {a b : List Int} (ha : Rw n a) (hb : Rw n b) : Rw n (lowL a b) := by
  have la := ha.len
  have lb := hb.len
  have da := row_desc ha.row
  have db := row_desc hb.row
  refine ⟨by rw [lowL_length, la], isRow_of (fun k hk => ?_) (fun hk => ?_) (fun k hk => ?_)⟩
  · rw [lowL_length] at hk
    rw [rowF_low hk, lowF, ps, ps]
    have := isRow_at ha.row k hk
    have := isRow_at hb.row k (by omega)
    omega
  · rw [lowL_length] at hk
    rw [rowF_low hk, lowF, ps, ps]
    have := isRow_at ha.row 0 hk
    have := isRow_at hb.row 0 (by omega)
    simp only [ps]
    omega
  · rw [lowL_length] at hk
    rw [rowF_low hk, rowF_low (by omega), lowF, lowF]
    have h1 := da k hk
    have h2 := db k (by omega)
    simp only [ps]
    omega
theorem low_maj {n : Nat} {a b : List Int} (ha : Rw n a) (hb : Rw n b) (ht : ps (rowF a) n = ps (rowF b) n) : MajL a (lowL a b) ∧ MajL b (lowL a b) := by
  have la := ha.len
  have lb := hb.len
  unfold MajL
  rw [la, lb]
  refine ⟨⟨?_, fun k hk => ?_⟩, ⟨?_, fun k hk => ?_⟩⟩ <;> rw [ps_lowL (by omega)] <;> omega
theorem low_great {n : Nat} {a b l : List Int} (ha : Rw n a) (hb : Rw n b) (h1 : MajL a l) (h2 : MajL b l) : MajL (lowL a b) l := by
  have la := ha.len
  have lb := hb.len
  unfold MajL at *
  rw [la] at h1
  rw [lb] at h2
  rw [lowL_length, la]
  refine ⟨?_, fun k hk => ?_⟩
  · rw [ps_lowL (by omega)]; have := h1.eq; have := h2.eq; omega
  · rw [ps_lowL (by omega)]; have := h1.le k hk; have := h2.le k hk; omega
def cnjL (l : List Int) (many : Nat) : List Int := (List.range many).map (cnjF l)
theorem cnjL_length (l : List Int) (m : Nat) : (cnjL l m).length = m := by simp [cnjL]
theorem rowF_cnj {l : List Int} {m t : Nat} (ht : t < m) : rowF (cnjL l m) t = cnjF l t := by simp [rowF, cnjL, ht]
theorem cntL_b (t : Int) : ∀ l : List Int, 0 ≤ cntL t l ∧ cntL t l ≤ l.length
  | [] => by simp [cntL]
  | x :: l => by
    have := cntL_b t l
    simp only [cntL, List.length_cons]
    split <;> omega
theorem cntL_anti (t : Int) : ∀ l : List Int, cntL (t + 1) l ≤ cntL t l
  | [] => by simp [cntL]
  | x :: l => by
    have := cntL_anti t l
    simp only [cntL]
    split <;> split <;> omega
theorem cnj_row {n : Nat} {l : List Int} (h : l.length = n) (hn : n ≤ 8) (m : Nat) : Rw m (cnjL l m) := by
  refine ⟨cnjL_length .., isRow_of (fun k hk => ?_) (fun hk => ?_) (fun k hk => ?_)⟩
  · rw [cnjL_length] at hk
    rw [rowF_cnj hk]; exact (cntL_b _ l).1
  · rw [cnjL_length] at hk
    rw [rowF_cnj hk]
    have := (cntL_b ((0 : Nat) : Int) l).2
    unfold cnjF; omega
  · rw [cnjL_length] at hk
    rw [rowF_cnj hk, rowF_cnj (by omega)]
    have := cntL_anti (k : Int) l
    unfold cnjF
    rw [show ((k + 1 : Nat) : Int) = (k : Int) + 1 by omega]
    exact this
/-- In a descending row as many are thicker than t as come before the first that is not. -/
theorem cnt_gt : ∀ {m : Int} {l : List Int}, IsRow m l → ∀ (t : Int) (i : Nat), i < l.length → (cntL t l > i ↔ rowF l i > t)
  | _, [], _, t, i, hi => by simp at hi
  | m, x :: l, ⟨h1, h2, h3⟩, t, i, hi => by
    have zero : x ≤ t → cntL t (x :: l) = 0 := fun hx => by
      have : ∀ {m : Int} {l : List Int}, IsRow m l → m ≤ t → cntL t l = 0 := by
        intro m l
        induction l generalizing m with
        | nil => intro _ _; rfl
        | cons y l ih =>
          rintro ⟨_, q, r⟩ hm
          simp only [cntL]
          rw [if_neg (by omega), ih r (by omega)]; rfl
      exact this (m := x) (l := x :: l) ⟨h1, Int.le_refl _, h3⟩ hx
    cases i with
    | zero =>
      have e : rowF (x :: l) 0 = x := by simp [rowF]
      rw [e]
      by_cases hx : x > t
      · have := (cntL_b t l).1
        simp only [cntL]; rw [if_pos hx]; omega
      · rw [zero (by omega)]; omega
    | succ i =>
      have e : rowF (x :: l) (i + 1) = rowF l i := by simp [rowF]
      have ih := cnt_gt h3 t i (by simpa using hi)
      rw [e]
      by_cases hx : x > t
      · simp only [cntL]; rw [if_pos hx]
        rw [← ih]; omega
      · rw [zero (by omega)]
        have := isRow_at h3 i (by simpa using hi)
        omega
theorem cnt_range (p : Nat → Int) (v : Int) : ∀ m : Nat, cntL v ((List.range m).map p) = ps (fun k => if p k > v then 1 else 0) m
  | 0 => rfl
  | m + 1 => by
    have app : ∀ (l : List Int) (x : Int), cntL v (l ++ [x]) = cntL v l + (if x > v then 1 else 0) := by
      intro l x
      induction l with
      | nil => simp [cntL]
      | cons y l ih => simp only [List.cons_append, cntL, ih]; omega
    rw [List.range_succ, List.map_append, List.map_singleton, app, cnt_range p v m, ps]
theorem ps_below (v : Int) : ∀ m : Nat, ps (fun k => if v > (k : Int) then 1 else 0) m = max 0 (min v m)
  | 0 => by simp only [ps]; omega
  | m + 1 => by
    rw [ps, ps_below v m]
    split <;> omega
/-- Turned twice a row is itself. -/
theorem cnj_cnj {n : Nat} {l : List Int} (h : Rw n l) : cnjL (cnjL l 8) n = l := by
  have hl := h.len
  refine row_ext (by rw [cnjL_length, hl]) fun i hi => ?_
  rw [cnjL_length] at hi
  rw [rowF_cnj hi, cnjF, cnjL, cnt_range]
  have e : ps (fun k => if cnjF l k > (i : Int) then 1 else 0) 8 = ps (fun k => if rowF l i > (k : Int) then 1 else 0) 8 := ps_congr 8 fun k _ => by
    have := cnt_gt h.row (k : Int) i (by omega)
    unfold cnjF
    by_cases h2 : rowF l i > (k : Int)
    · rw [if_pos h2, if_pos (this.2 h2)]
    · rw [if_neg h2, if_neg fun h3 => h2 (this.1 h3)]
  rw [e, ps_below]
  have := isRow_at h.row i (by omega)
  omega
theorem sum_min {k : Int} : ∀ {l : List Int}, (∀ x ∈ l, x ≤ k) → sumG (fun x => min x k) l = totL l
  | [], _ => rfl
  | x :: l, h => by
    have := sum_min (l := l) fun y hy => h y (by simp [hy])
    have := h x (by simp)
    simp only [sumG, totL]; omega
theorem row_mem {m : Int} {l : List Int} (h : IsRow m l) {x : Int} (hx : x ∈ l) : 0 ≤ x ∧ x ≤ m := by
  obtain ⟨i, hi⟩ := List.mem_iff_getElem?.1 hx
  have := isRow_at h i (List.getElem?_eq_some_iff.1 hi).1
  simp only [rowF, List.getD_eq_getElem?_getD, hi, Option.getD_some] at this
  exact this
theorem cnj_tot {n : Nat} {l : List Int} (h : Rw n l) {m : Nat} (hm : ∀ x ∈ l, x ≤ m) : totL (cnjL l m) = totL l := by
  have := cnj_ps l (fun x hx => (row_mem h.row hx).1) m
  rw [sum_min hm] at this
  rw [← this, ← ps_tot, cnjL_length]
  exact ps_congr m fun k hk => rowF_cnj hk
theorem majL_tot {a b : List Int} (hl : a.length = b.length) : MajL a b → totL a = totL b := fun h => by
  have := h.eq
  rw [ps_tot, hl, ps_tot] at this
  exact this
/-- Turned rows go the other way round. -/
theorem cnjL_maj {n m : Nat} {a b : List Int} (ha : Rw n a) (hb : Rw n b) (h : MajL a b) (ma : ∀ x ∈ a, x ≤ m) (mb : ∀ x ∈ b, x ≤ m) : MajL (cnjL b m) (cnjL a m) := by
  unfold MajL
  rw [cnjL_length]
  have e : ∀ l : List Int, ∀ k, k ≤ m → ps (rowF (cnjL l m)) k = ps (cnjF l) k := fun l k hk => ps_congr k fun i hi => rowF_cnj (by omega)
  refine ⟨?_, fun k hk => ?_⟩
  · have x := ps_tot (cnjL b m)
    have y := ps_tot (cnjL a m)
    rw [cnjL_length] at x y
    rw [x, y, cnj_tot ha ma, cnj_tot hb mb, majL_tot (by rw [ha.len, hb.len]) h]
  · rw [e _ k hk, e _ k hk]
    exact cnj_maj ha hb h k
/-- The smallest row above two. -/
def joinL (a b : List Int) : List Int := cnjL (lowL (cnjL a 8) (cnjL b 8)) a.length
theorem mem_low {n : Nat} {a b : List Int} {k : Int} (ha : Rw n a) (hb : Rw n b) (ka : ∀ x ∈ a, x ≤ k) (kb : ∀ x ∈ b, x ≤ k) : ∀ x ∈ lowL a b, x ≤ k := by
  intro x hx
  obtain ⟨i, hi⟩ := List.mem_iff_getElem?.1 hx
  have hlt := (List.getElem?_eq_some_iff.1 hi).1
  rw [lowL_length] at hlt
  have e := rowF_low (b := b) hlt
  have e2 : rowF (lowL a b) i = x := by simp only [rowF, List.getD_eq_getElem?_getD, hi, Option.getD_some]
  have m : ∀ {l : List Int}, i < l.length → rowF l i ∈ l := fun {l} h => by simp [rowF, h]
  have := ka _ (m hlt)
  have := kb _ (m (by rw [hb.len, ← ha.len]; exact hlt))
  rw [e2, lowF, ps, ps] at e
  omega
theorem join_spec {n : Nat} {a b : List Int} (hn : n ≤ 8) (ha : Rw n a) (hb : Rw n b) (ht : totL a = totL b) :
    Rw n (joinL a b) ∧ MajL (joinL a b) a ∧ MajL (joinL a b) b ∧ ∀ l, Rw n l → MajL l a → MajL l b → MajL l (joinL a b) := by
  have la := ha.len
  have lb := hb.len
  have ca := cnj_row la hn 8
  have cb := cnj_row lb hn 8
  have bd : ∀ {l : List Int}, l.length = n → ∀ x ∈ cnjL l 8, x ≤ n := fun {l} hl x hx => by
    simp only [cnjL, List.mem_map] at hx
    obtain ⟨t, _, rfl⟩ := hx
    have := (cntL_b (t : Int) l).2
    unfold cnjF; omega
  have b8 : ∀ {l : List Int}, Rw n l → ∀ x ∈ l, x ≤ ((8 : Nat) : Int) := fun {l} hl x hx => (row_mem hl.row hx).2
  have lo := low_row ca cb
  have tt : ps (rowF (cnjL a 8)) 8 = ps (rowF (cnjL b 8)) 8 := by
    have x := ps_tot (cnjL a 8)
    have y := ps_tot (cnjL b 8)
    rw [cnjL_length] at x y
    rw [x, y, cnj_tot ha (b8 ha), cnj_tot hb (b8 hb), ht]
  obtain ⟨l1, l2⟩ := low_maj ca cb tt
  have bl := mem_low ca cb (bd la) (bd lb)
  have j1 := cnjL_maj ca lo l1 (bd la) bl
  have j2 := cnjL_maj cb lo l2 (bd lb) bl
  rw [cnj_cnj ha] at j1
  rw [cnj_cnj hb] at j2
  have ej : joinL a b = cnjL (lowL (cnjL a 8) (cnjL b 8)) n := by rw [joinL, la]
  refine ⟨by rw [ej]; exact cnj_row (n := 8) lo.len (Nat.le_refl _) n, by rw [ej]; exact j1, by rw [ej]; exact j2, fun l hl h1 h2 => ?_⟩
  have m1 := cnjL_maj hl ha h1 (b8 hl) (b8 ha)
  have m2 := cnjL_maj hl hb h2 (b8 hl) (b8 hb)
  have cl := cnj_row hl.len hn 8
  have := cnjL_maj lo cl (low_great ca cb m1 m2) bl (bd hl.len)
  rw [cnj_cnj hl] at this
  rw [ej]; exact this
end Go.AM.Rub
end

section
namespace Go.AM.Ytfmnoohhhokicaa
open Go Go.AM Go.AM.Rub
set_option maxRecDepth 100000
set_option maxHeartbeats 8000000
theorem ocvL (k : Nat) (L : List (List Int)) : (L = [] ∧ oV k 1 L.length = .nilsl ∧ oH k (lcs L) = []) ∨ (0 < L.length ∧ oV k 1 L.length = .ref k 0 L.length L.length L.length 1 false ∧ oH k (lcs L) = [(k, ⟨.row, lcs L⟩)]) := by
  cases L with
  | nil => exact .inl ⟨rfl, rfl, rfl⟩
  | cons x L => exact .inr ⟨by simp, ov_pos (by simp), ohl_pos (by simp)⟩
end Go.AM.Ytfmnoohhhokicaa
end

section
namespace Go.AM.Ytfmnoohhhokicaa
open Go Go.AM Go.AM.Rub
set_option maxRecDepth 100000
set_option maxHeartbeats 8000000
section
variable {d : Nat} {l l' : List Int} {n k m : Nat} {left most : Int} {c : List AV}
theorem rw_callA0 (hC : RoC d l' n k m left most) (_ : l'.length = k) : ∃ st, kF d 105 [.ref 100 0 k k k 1 false, .int .i64 left, .int .i64 most, .ptr 1 0 1, .ptr 2 0 1, .ptr 3 0 1]
      [(0, ⟨.row, ics l⟩), (1, ⟨.box, [.int .i64 n]⟩), (2, ⟨.box, [.nilsl]⟩), (3, ⟨.box, [rwK 1 2 3]⟩), (99, ⟨.row, c⟩), (100, ⟨.row, ics l'⟩)] 400 =
    some (.tup [], (0, ⟨.row, ics l⟩) :: (1, ⟨.box, [.int .i64 n]⟩) :: (2, ⟨.box, [oV 400 1 (fuR l' m left most).length]⟩) :: (3, ⟨.box, [rwK 1 2 3]⟩) :: (99, ⟨.row, c⟩) :: (100, ⟨st, ics l'⟩) :: oH 400 (lcs (fuR l' m left most))) := by
  obtain ⟨H, id, st, hp, ro⟩ := hC.a
  refine ⟨st, ?_⟩
  rw [kF_fr rfl]
  have hks : (mark [(0, ⟨.row, ics l⟩), (1, ⟨.box, [.int .i64 n]⟩), (2, ⟨.box, [.nilsl]⟩), (3, ⟨.box, [rwK 1 2 3]⟩), (99, ⟨.row, c⟩), (100, ⟨.row, ics l'⟩)] 1000 (refsL [.ref 100 0 k k k 1 false, .int .i64 left, .int .i64 most, .ptr 1 0 1, .ptr 2 0 1, .ptr 3 0 1]) []).reverse = [100, 1, 2, 3] := rfl
  have hap : AM.apart [100, 1, 2, 3] = true := rfl
  have e1 : renL (posF [100, 1, 2, 3] 0) [.ref 100 0 k k k 1 false, .int .i64 left, .int .i64 most, .ptr 1 0 1, .ptr 2 0 1, .ptr 3 0 1] = some [.ref 0 0 k k k 1 false, .int .i64 left, .int .i64 most, .ptr 1 0 1, .ptr 2 0 1, .ptr 3 0 1] := rfl
  have e2 : foc (posF [100, 1, 2, 3] 0) [(0, ⟨.row, ics l⟩), (1, ⟨.box, [.int .i64 n]⟩), (2, ⟨.box, [.nilsl]⟩), (3, ⟨.box, [rwK 1 2 3]⟩), (99, ⟨.row, c⟩), (100, ⟨.row, ics l'⟩)] 0 [100, 1, 2, 3] = some (rhA l' n) := rfl
  have hn := newsA ro
  obtain ⟨h0, hs, h1, h2, h3, h4, hr⟩ := ro
  have hlen : (ics l').length = (ics l').length := rfl
  have hl4 : ([100, 1, 2, 3] : List Nat).length = 4 := rfl
  have er : List.range 4 = [0, 1, 2, 3] := rfl
  rw [hks]
  unfold focus
  rw [if_pos hap]
  simp only [e1, e2, hp, backF, hl4, hn, er]
  rcases ocvL 400 (fuR l' m left most) with ⟨hn0, o1, o2⟩ | ⟨hp0, o1, o2⟩
  · rw [o1, o2]
    rw [hn0] at h2
    have hv : oV id 1 ([] : List (List Int)).length = .nilsl := rfl
    rw [hv] at h2
    rcases hs with rfl | rfl <;>
    simp only [hn0, if_true, List.length_nil, baseF, freeL, AM.apart, List.append_nil, ren, renL, unf, outF, posF, h0, h1, h2, h3, List.getElem?_cons_zero, List.getElem?_cons_succ, Nat.reduceLT, if_true, goodB, BS.open_, Bool.true_or, Bool.false_or, rhA, hget_cons', decide_true, Bool.and_self, renB, hl4, upds, hset_cons', hset_nil', Nat.reduceEqDiff, Nat.reduceLeDiff, if_false, Nat.reduceAdd, reduceCtorEq]
  · rw [o1, o2]
    rw [ov_pos hp0] at h2
    have hr := hr hp0
    have hne : ¬ fuR l' m left most = [] := fun e => by rw [e] at hp0; simp at hp0
    have c4 : ¬ id < 4 := by omega
    have hbase : baseF [(0, ⟨.row, ics l⟩), (1, ⟨.box, [.int .i64 n]⟩), (2, ⟨.box, [.nilsl]⟩), (3, ⟨.box, [rwK 1 2 3]⟩), (99, ⟨.row, c⟩), (100, ⟨.row, ics l'⟩)] 1 8 400 = some 400 := rfl
    rcases hs with rfl | rfl <;>
    simp only [hne, if_false, List.length_cons, List.length_nil, Nat.zero_add, hbase, AM.apart, List.elem_nil, Bool.not_false, Bool.and_self, if_true, List.cons_append, List.nil_append, ren, renL, unf, outF, posF, h0, h1, h2, h3, hr, c4, List.getElem?_cons_zero, List.getElem?_cons_succ, Nat.reduceLT, goodB, BS.open_, Bool.true_or, Bool.false_or, rhA, hget_cons', decide_true, renB, hl4, upds, hset_cons', hset_nil', Nat.reduceEqDiff, Nat.reduceLeDiff, Nat.add_zero, reduceCtorEq]
theorem rw_callA1 (hC : RoC d l' n k m left most) {L : List (List Int)} (h0 : 0 < L.length) (h8 : L.length + 9 ^ m ≤ 900000) : ∃ st, kF d 105 [.ref 100 0 k k k 1 false, .int .i64 left, .int .i64 most, .ptr 1 0 1, .ptr 2 0 1, .ptr 3 0 1]
      [(0, ⟨.row, ics l⟩), (1, ⟨.box, [.int .i64 n]⟩), (2, ⟨.box, [.ref 400 0 L.length L.length L.length 1 false]⟩), (3, ⟨.box, [rwK 1 2 3]⟩), (99, ⟨.row, c⟩), (100, ⟨.row, ics l'⟩), (400, ⟨.row, lcs L⟩)] 400 =
    some (.tup [], [(0, ⟨.row, ics l⟩), (1, ⟨.box, [.int .i64 n]⟩), (2, ⟨.box, [.ref 400 0 (L ++ fuR l' m left most).length (L ++ fuR l' m left most).length (L ++ fuR l' m left most).length 1 false]⟩), (3, ⟨.box, [rwK 1 2 3]⟩), (99, ⟨.row, c⟩), (100, ⟨st, ics l'⟩), (400, ⟨.row, lcs (L ++ fuR l' m left most)⟩)]) := by
  obtain ⟨H, st, hp, ro⟩ := hC.b L h0 h8
  refine ⟨st, ?_⟩
  rw [kF_fr rfl]
  have hks : (mark [(0, ⟨.row, ics l⟩), (1, ⟨.box, [.int .i64 n]⟩), (2, ⟨.box, [.ref 400 0 L.length L.length L.length 1 false]⟩), (3, ⟨.box, [rwK 1 2 3]⟩), (99, ⟨.row, c⟩), (100, ⟨.row, ics l'⟩), (400, ⟨.row, lcs L⟩)] 1000 (refsL [.ref 100 0 k k k 1 false, .int .i64 left, .int .i64 most, .ptr 1 0 1, .ptr 2 0 1, .ptr 3 0 1]) []).reverse = [100, 1, 2, 400, 3] := rfl
  have hap : AM.apart [100, 1, 2, 400, 3] = true := rfl
  have e1 : renL (posF [100, 1, 2, 400, 3] 0) [.ref 100 0 k k k 1 false, .int .i64 left, .int .i64 most, .ptr 1 0 1, .ptr 2 0 1, .ptr 3 0 1] = some [.ref 0 0 k k k 1 false, .int .i64 left, .int .i64 most, .ptr 1 0 1, .ptr 2 0 1, .ptr 4 0 1] := rfl
  have e2 : foc (posF [100, 1, 2, 400, 3] 0) [(0, ⟨.row, ics l⟩), (1, ⟨.box, [.int .i64 n]⟩), (2, ⟨.box, [.ref 400 0 L.length L.length L.length 1 false]⟩), (3, ⟨.box, [rwK 1 2 3]⟩), (99, ⟨.row, c⟩), (100, ⟨.row, ics l'⟩), (400, ⟨.row, lcs L⟩)] 0 [100, 1, 2, 400, 3] = some (rhB l' n L) := rfl
  have hn := newsB ro
  obtain ⟨h0, hs, h1, h2, h3, h4⟩ := ro
  have hl5 : ([100, 1, 2, 400, 3] : List Nat).length = 5 := rfl
  have er : List.range 5 = [0, 1, 2, 3, 4] := rfl
  rw [hks]
  unfold focus
  rw [if_pos hap]
  simp only [e1, e2, hp, backF, hl5, hn, er]
  rcases hs with rfl | rfl <;>
  simp only [List.length_nil, baseF, freeL, AM.apart, if_true, List.append_nil, ren, renL, unf, outF, posF, h0, h1, h2, h3, h4, List.getElem?_cons_zero, List.getElem?_cons_succ, Nat.reduceLT, goodB, BS.open_, Bool.true_or, Bool.false_or, rhB, hget_cons', decide_true, Bool.and_self, renB, hl5, upds, hset_cons', hset_nil', Nat.reduceEqDiff, Nat.reduceLeDiff, if_false, Nat.reduceAdd, reduceCtorEq]
theorem rw_callB (hC : RoC d l' n k m left most) {L : List (List Int)} (h0 : 0 < L.length) (h8 : L.length + 9 ^ m ≤ 900000) : ∃ st, kF d 105 [.ref 100 0 k k k 1 false, .int .i64 left, .int .i64 most, .ptr 1 0 1, .ptr 2 0 1, .ptr 4 0 1]
      [(0, ⟨.row, ics l⟩), (1, ⟨.box, [.int .i64 n]⟩), (2, ⟨.box, [.ref 3 0 L.length L.length L.length 1 false]⟩), (3, ⟨.row, lcs L⟩), (4, ⟨.box, [rwK 1 2 4]⟩), (99, ⟨.row, c⟩), (100, ⟨.row, ics l'⟩)] 400 =
    some (.tup [], [(0, ⟨.row, ics l⟩), (1, ⟨.box, [.int .i64 n]⟩), (2, ⟨.box, [.ref 3 0 (L ++ fuR l' m left most).length (L ++ fuR l' m left most).length (L ++ fuR l' m left most).length 1 false]⟩), (3, ⟨.row, lcs (L ++ fuR l' m left most)⟩), (4, ⟨.box, [rwK 1 2 4]⟩), (99, ⟨.row, c⟩), (100, ⟨st, ics l'⟩)]) := by
  obtain ⟨H, st, hp, ro⟩ := hC.b L h0 h8
  refine ⟨st, ?_⟩
  rw [kF_fr rfl]
  have hks : (mark [(0, ⟨.row, ics l⟩), (1, ⟨.box, [.int .i64 n]⟩), (2, ⟨.box, [.ref 3 0 L.length L.length L.length 1 false]⟩), (3, ⟨.row, lcs L⟩), (4, ⟨.box, [rwK 1 2 4]⟩), (99, ⟨.row, c⟩), (100, ⟨.row, ics l'⟩)] 1000 (refsL [.ref 100 0 k k k 1 false, .int .i64 left, .int .i64 most, .ptr 1 0 1, .ptr 2 0 1, .ptr 4 0 1]) []).reverse = [100, 1, 2, 3, 4] := rfl
  have hap : AM.apart [100, 1, 2, 3, 4] = true := rfl
  have e1 : renL (posF [100, 1, 2, 3, 4] 0) [.ref 100 0 k k k 1 false, .int .i64 left, .int .i64 most, .ptr 1 0 1, .ptr 2 0 1, .ptr 4 0 1] = some [.ref 0 0 k k k 1 false, .int .i64 left, .int .i64 most, .ptr 1 0 1, .ptr 2 0 1, .ptr 4 0 1] := rfl
  have e2 : foc (posF [100, 1, 2, 3, 4] 0) [(0, ⟨.row, ics l⟩), (1, ⟨.box, [.int .i64 n]⟩), (2, ⟨.box, [.ref 3 0 L.length L.length L.length 1 false]⟩), (3, ⟨.row, lcs L⟩), (4, ⟨.box, [rwK 1 2 4]⟩), (99, ⟨.row, c⟩), (100, ⟨.row, ics l'⟩)] 0 [100, 1, 2, 3, 4] = some (rhB l' n L) := rfl
  have hn := newsB ro
  obtain ⟨h0, hs, h1, h2, h3, h4⟩ := ro
  have hl5 : ([100, 1, 2, 3, 4] : List Nat).length = 5 := rfl
  have er : List.range 5 = [0, 1, 2, 3, 4] := rfl
  rw [hks]
  unfold focus
  rw [if_pos hap]
  simp only [e1, e2, hp, backF, hl5, hn, er]
  rcases hs with rfl | rfl <;>
  simp only [List.length_nil, baseF, freeL, AM.apart, if_true, List.append_nil, ren, renL, unf, outF, posF, h0, h1, h2, h3, h4, List.getElem?_cons_zero, List.getElem?_cons_succ, Nat.reduceLT, goodB, BS.open_, Bool.true_or, Bool.false_or, rhB, hget_cons', decide_true, Bool.and_self, renB, hl5, upds, hset_cons', hset_nil', Nat.reduceEqDiff, Nat.reduceLeDiff, if_false, Nat.reduceAdd, reduceCtorEq]
end
end Go.AM.Ytfmnoohhhokicaa
end

section
namespace Go.AM.Ytfmnoohhhokicaa
open Go Go.AM Go.AM.Rub
set_option maxRecDepth 100000
set_option maxHeartbeats 8000000
/-- No number is left to choose. -/
theorem rw_leaf {d : Nat} {l : List Int} {n : Nat} {left most : Int} (hl : l.length = n) : RoC (d + 1) l n n 0 left most := by
  have hlen : (ics l).length = n := by rw [ics_length, hl]
  have htk : List.take n (ics l) = ics l := List.take_of_length_le (by omega)
  have em : AV.imm (ics l) n false = .imm (ics l) l.length false := by rw [hl]
  constructor
  · rw [pF_s, fuR_zero]
    by_cases h : left = 0
    · rw [if_pos h]
      subst h
      generalize kF d = C
      simp only [rhA]
      have e : lcs [l] = [.imm (ics l) n false] := by show [AV.imm (ics l) l.length false] = _; rw [hl]
      simp (disch := omega) only [ZF, frame0, stp, just, Rd.bind, Rd.run, Rd.opt, upds, acells, zeroCells, tsz, elemT, rdCells, aLoad, aStore, opStore, resA, resL, fresh, aLen, aBuiltin, aBin, aInt, putC, evO, Nat.reduceAdd, Nat.reduceLT, Nat.reduceBEq, Nat.reduceEqDiff, Nat.reduceLeDiff, ↓reduceIte, reduceCtorEq, aBuildSlice, aBuildAt, partsOf, fillA, repC, isSliceT, aAppend, srcOf, window, snaps, ZT, F_105, hlen, htk, room39 (show 1 ≤ 1000000 by omega)]
      exact ⟨_, 83, .froz, rfl, ⟨rfl, .inr rfl, rfl, rfl, rfl, by omega, fun _ => by rw [e]; rfl⟩⟩
    · rw [if_neg h]
      have h' : (left == 0) = false := by rw [beq_eq_false_iff_ne]; exact h
      generalize kF d = C
      simp only [rhA]
      simp (disch := omega) only [ZF, frame0, stp, just, Rd.bind, Rd.run, Rd.opt, upds, acells, zeroCells, tsz, elemT, rdCells, aLoad, resA, resL, fresh, aLen, aBuiltin, aBin, aInt, putC, evO, Nat.reduceAdd, Nat.reduceLT, Nat.reduceBEq, Nat.reduceEqDiff, Nat.reduceLeDiff, ↓reduceIte, reduceCtorEq, aBuildSlice, aBuildAt, partsOf, fillA, repC, isSliceT, aAppend, srcOf, window, snaps, ZT, F_105, hlen, h']
      exact ⟨_, 83, .row, rfl, ⟨rfl, .inl rfl, rfl, rfl, rfl, by omega, fun h => by simp at h⟩⟩
  · intro L h0 h8
    rw [pF_s, fuR_zero]
    have hlo := lcs_length L
    have hto := lcs_takeA L
    by_cases h : left = 0
    · rw [if_pos h]
      subst h
      generalize kF d = C
      have hsn := lcs_snoc L l
      rw [← em] at hsn
      have hno : ¬ L.length + 1 ≤ L.length := by omega
      simp only [rhB]
      have key : ∀ (A : List AV) (m : Nat), A.length = m → List.take m A = A → ¬ m + 1 ≤ m → m + 1 ≤ 1000000 → ∃ H st, bodyA E C fg 1000000 105 [.ref 0 0 n n n 1 false, .int .i64 0, .int .i64 most, .ptr 1 0 1, .ptr 2 0 1, .ptr 4 0 1] [(0, ⟨.row, ics l⟩), (1, ⟨.box, [.int .i64 n]⟩), (2, ⟨.box, [.ref 3 0 m m m 1 false]⟩), (3, ⟨.row, A⟩), (4, ⟨.box, [rwK 1 2 4]⟩)] 64 = some (.tup [], H) ∧
          (hget H 0 = some ⟨st, ics l⟩ ∧ (st = .row ∨ st = .froz) ∧ hget H 1 = some ⟨.box, [.int .i64 n]⟩ ∧ hget H 2 = some ⟨.box, [.ref 3 0 (m + 1) (m + 1) (m + 1) 1 false]⟩ ∧ hget H 3 = some ⟨.row, A ++ [.imm (ics l) n false]⟩ ∧ hget H 4 = some ⟨.box, [rwK 1 2 4]⟩) := by
        intro A m q1 q2 q3 q4
        simp (disch := omega) only [ZF, frame0, stp, just, Rd.bind, Rd.run, Rd.opt, upds, acells, zeroCells, tsz, elemT, rdCells, aLoad, aStore, opStore, resA, resL, fresh, aLen, aBuiltin, aBin, aInt, putC, evO, Nat.reduceAdd, Nat.reduceLT, Nat.reduceBEq, Nat.reduceEqDiff, Nat.reduceLeDiff, ↓reduceIte, reduceCtorEq, aBuildSlice, aBuildAt, partsOf, fillA, repC, isSliceT, aAppend, srcOf, window, snaps, ZT, F_105, hlen, htk, q1, q2, q3, room39 q4]
        exact ⟨_, .froz, rfl, rfl, .inr rfl, rfl, rfl, rfl, rfl⟩
      obtain ⟨H, st, p1, p2, p3, p4, p5, p6, p7⟩ := key (lcs L) L.length hlo hto hno (by omega)
      refine ⟨H, st, p1, ⟨p2, p3, p4, by rw [List.length_append]; exact p5, by rw [← hsn]; exact p6, p7⟩⟩
    · rw [if_neg h, List.append_nil]
      have h' : (left == 0) = false := by rw [beq_eq_false_iff_ne]; exact h
      generalize kF d = C
      simp only [rhB]
      simp (disch := omega) only [ZF, frame0, stp, just, Rd.bind, Rd.run, Rd.opt, upds, acells, zeroCells, tsz, elemT, rdCells, aLoad, resA, resL, fresh, aLen, aBuiltin, aBin, aInt, putC, evO, Nat.reduceAdd, Nat.reduceLT, Nat.reduceBEq, Nat.reduceEqDiff, Nat.reduceLeDiff, ↓reduceIte, reduceCtorEq, aBuildSlice, aBuildAt, partsOf, fillA, repC, isSliceT, aAppend, srcOf, window, snaps, ZT, F_105, hlen, h', if_pos]
      exact ⟨_, .row, rfl, ⟨rfl, .inl rfl, rfl, rfl, rfl, rfl⟩⟩
theorem rw_mut (caps args : List AV) : mutV E (.clo 105 caps) args = some (105, args ++ caps) := rfl
noncomputable abbrev rsA (l : List Int) (n k : Nat) (left t : Int) (L : List (List Int)) : St :=
  ([(9, .int .i64 t), (5, .ptr 3 0 1), (1, .int .i64 left), (0, .ref 0 0 k k k 1 false)], (0, ⟨.row, ics l⟩) :: (1, ⟨.box, [.int .i64 n]⟩) :: (2, ⟨.box, [oV 400 1 L.length]⟩) :: (3, ⟨.box, [rwK 1 2 3]⟩) :: oH 400 (lcs L))
abbrev rsB (l : List Int) (n k : Nat) (left t : Int) (L : List (List Int)) : St :=
  ([(9, .int .i64 t), (5, .ptr 4 0 1), (1, .int .i64 left), (0, .ref 0 0 k k k 1 false)], [(0, ⟨.row, ics l⟩), (1, ⟨.box, [.int .i64 n]⟩), (2, ⟨.box, [.ref 3 0 L.length L.length L.length 1 false]⟩), (3, ⟨.row, lcs L⟩), (4, ⟨.box, [rwK 1 2 4]⟩)])
theorem rwA_go {d : Nat} {l : List Int} {n k m : Nat} {left t : Int} (hl : l.length = k) (h9 : k ≤ 1000) (ht : 0 ≤ t ∧ t ≤ 1000) (hlf : 0 ≤ left ∧ left ≤ 1000) (hC : RoC d (l ++ [t]) n (k + 1) m (left - t) t) (L : List (List Int)) (h8 : L.length + 9 ^ m ≤ 900000) :
    ∃ s', execA E (kF d) (fg 105) 64 42 (rhA l n) 1000000 c105_16 (rsA l n k left t L) = some (.normal, s') ∧ headA (rhA l n) s' = rsA l n k left (t - 1) (L ++ fuR (l ++ [t]) m (left - t) t) := by
  have hlen : (ics l).length = k := by rw [ics_length, hl]
  have htk : List.take k (ics l) = ics l := List.take_of_length_le (by omega)
  have hsn := ics_snoc l t
  have hl' : (l ++ [t]).length = k + 1 := by simp [hl]
  have g1 : t ≥ 0 := ht.1
  have w1 : wrp .i64 (left - t) = left - t := wrp64 (by omega)
  have w2 : wrp .i64 (t - 1) = t - 1 := wrp64 (by omega)
  have gk : (0 : Int) ≤ (k : Int) ∧ (k : Int) ≤ (k : Int) := by omega
  have hno : ¬ k + 1 ≤ k := by omega
  rcases ocvL 400 L with ⟨hn0, o1, o2⟩ | ⟨hp0, o1, o2⟩
  · obtain ⟨st, hc⟩ := rw_callA0 (l := l) (c := [.int .i64 t]) hC hl'
    subst hn0
    rw [List.nil_append]
    simp only [rsA]
    rw [o1, o2]
    rw [← hsn] at hc
    generalize fuR (l ++ [t]) m (left - t) t = new at *
    generalize kF d = C at *
    rcases ocvL 400 new with ⟨hn1, p1, p2⟩ | ⟨hp1, p1, p2⟩ <;> rw [p1, p2] at hc ⊢ <;>
      simp (disch := omega) only [ZF, stp, just, Rd.bind, Rd.run, Rd.opt, upds, acells, zeroCells, tsz, elemT, rdCells, aLoad, fresh, aNum, aLen, aBuiltin, aBin, aInt, putC, evO, Nat.reduceAdd, Nat.reduceMul, Nat.reduceLT, Nat.reduceBEq, Nat.reduceEqDiff, Nat.reduceLeDiff, ↓reduceIte, reduceCtorEq, stpT, Rd.foot, writing, touching, Tr.empty, dynPairs, apartT, disj, aBuildSlice, aBuildAt, partsOf, fillA, repC, isSliceT, aAppend, srcOf, window, mutX, snaps, aSlice, aBounds, bMax, bHigh, bLow, ZT, F_105, callVT, rw_mut, hlen, htk, hno, g1, w1, w2, gk, hc, room22 (show k + 1 ≤ 1000000 by omega)] <;> exact ⟨_, rfl, rfl⟩
  · obtain ⟨st, hc⟩ := rw_callA1 (l := l) (c := [.int .i64 t]) hC hp0 h8
    simp only [rsA]
    rw [o1, o2, ov_pos (show 0 < (L ++ fuR (l ++ [t]) m (left - t) t).length by rw [List.length_append]; omega), ohl_pos (show 0 < (L ++ fuR (l ++ [t]) m (left - t) t).length by rw [List.length_append]; omega)]
    rw [← hsn] at hc
    generalize L ++ fuR (l ++ [t]) m (left - t) t = new at *
    generalize lcs new = LN at *
    generalize new.length = nn at *
    generalize lcs L = LL at *
    generalize L.length = ll at *
    generalize kF d = C at *
    simp (disch := omega) only [ZF, stp, just, Rd.bind, Rd.run, Rd.opt, upds, acells, zeroCells, tsz, elemT, rdCells, aLoad, fresh, aNum, aLen, aBuiltin, aBin, aInt, putC, evO, Nat.reduceAdd, Nat.reduceMul, Nat.reduceLT, Nat.reduceBEq, Nat.reduceEqDiff, Nat.reduceLeDiff, ↓reduceIte, reduceCtorEq, stpT, Rd.foot, writing, touching, Tr.empty, dynPairs, apartT, disj, aBuildSlice, aBuildAt, partsOf, fillA, repC, isSliceT, aAppend, srcOf, window, mutX, snaps, aSlice, aBounds, bMax, bHigh, bLow, ZT, F_105, callVT, rw_mut, hlen, htk, hno, g1, w1, w2, gk, hc, room22 (show k + 1 ≤ 1000000 by omega)]
    exact ⟨_, rfl, rfl⟩
theorem rwB_go {d : Nat} {l : List Int} {n k m : Nat} {left t : Int} (hl : l.length = k) (h9 : k ≤ 1000) (ht : 0 ≤ t ∧ t ≤ 1000) (hlf : 0 ≤ left ∧ left ≤ 1000) (hC : RoC d (l ++ [t]) n (k + 1) m (left - t) t) (L0 L : List (List Int)) (hp0 : 0 < L.length) (h8 : L.length + 9 ^ m ≤ 900000) :
    ∃ s', execA E (kF d) (fg 105) 64 42 (rhB l n L0) 1000000 c105_16 (rsB l n k left t L) = some (.normal, s') ∧ headA (rhB l n L0) s' = rsB l n k left (t - 1) (L ++ fuR (l ++ [t]) m (left - t) t) := by
  have hlen : (ics l).length = k := by rw [ics_length, hl]
  have htk : List.take k (ics l) = ics l := List.take_of_length_le (by omega)
  have hsn := ics_snoc l t
  have g1 : t ≥ 0 := ht.1
  have w1 : wrp .i64 (left - t) = left - t := wrp64 (by omega)
  have w2 : wrp .i64 (t - 1) = t - 1 := wrp64 (by omega)
  have gk : (0 : Int) ≤ (k : Int) ∧ (k : Int) ≤ (k : Int) := by omega
  have hno : ¬ k + 1 ≤ k := by omega
  obtain ⟨st, hc⟩ := rw_callB (l := l) (c := [.int .i64 t]) hC hp0 h8
  simp only [rsB]
  rw [← hsn] at hc
  generalize L ++ fuR (l ++ [t]) m (left - t) t = new at *
  generalize lcs new = LN at *
  generalize new.length = nn at *
  generalize lcs L = LL at *
  generalize L.length = ll at *
  generalize lcs L0 = LL0 at *
  generalize L0.length = l0 at *
  generalize kF d = C at *
  simp (disch := omega) only [ZF, stp, just, Rd.bind, Rd.run, Rd.opt, upds, acells, zeroCells, tsz, elemT, rdCells, aLoad, fresh, aNum, aLen, aBuiltin, aBin, aInt, putC, evO, Nat.reduceAdd, Nat.reduceMul, Nat.reduceLT, Nat.reduceBEq, Nat.reduceEqDiff, Nat.reduceLeDiff, ↓reduceIte, reduceCtorEq, stpT, Rd.foot, writing, touching, Tr.empty, dynPairs, apartT, disj, aBuildSlice, aBuildAt, partsOf, fillA, repC, isSliceT, aAppend, srcOf, window, mutX, snaps, aSlice, aBounds, bMax, bHigh, bLow, ZT, F_105, callVT, rw_mut, hlen, htk, hno, g1, w1, w2, gk, hc, room22 (show k + 1 ≤ 1000000 by omega)]
  exact ⟨_, rfl, rfl⟩
end Go.AM.Ytfmnoohhhokicaa
end
