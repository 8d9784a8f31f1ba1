/- PropSeries: the law's run. Own work of this project. -/
import Derived.Test.YtikchlfbjdfioaaSerE
namespace Go.AM.Ytikchlfbjdfioaa
open Go Go.AM
set_option maxRecDepth 100000
set_option maxHeartbeats 4000000

theorem ser_loop {C : Callee} {n : Nat} {hf wt : Int} (h1 : 1 ≤ n ∧ n ≤ 14) :
    iterA (execA E C (fg 6) 0 98 [] 1000 c6_11) (headA []) 1000 ([(10, .int .i64 1), (9, .int .i64 1), (8, .int .i64 0), (7, .int .i64 n), (2, .int .u8 wt), (1, .int .u8 hf)], []) =
      some (.exit 0, [(22, .bool false), (10, .int .i64 (min n 12 + 1 : Nat)), (9, .int .i64 (hND (min n 12)).2), (8, .int .i64 (hND (min n 12)).1), (7, .int .i64 n), (2, .int .u8 wt), (1, .int .u8 hf)], []) := by
  have hm : (if (12 : Int) < n then (12 : Int) else n) = ((min n 12 : Nat) : Int) := by split <;> omega
  refine iter_all (f := execA E C (fg 6) 0 98 [] 1000 c6_11) (hd := headA []) (fun i => ([(10, .int .i64 (i + 1 : Nat)), (9, .int .i64 (hND i).2), (8, .int .i64 (hND i).1), (7, .int .i64 n), (2, .int .u8 wt), (1, .int .u8 hf)], [])) (min n 12) 1000 0 _ (by rfl) (by omega) (fun i h1 h2 => ?_) ?_ (by simp)
  · obtain ⟨b1, b2, b3, b4⟩ := hND_b i (by omega)
    obtain ⟨c1, c2, c3, c4⟩ := hND_b (i + 1) (by omega)
    simp only [hND] at c1 c2 c3 c4
    have le : ((i + 1 : Nat) : Int) ≤ ((min n 12 : Nat) : Int) := by omega
    have t1 : 0 ≤ (hND i).1 * ((i + 1 : Nat) : Int) := Int.mul_nonneg b1 (by omega)
    have w1 : wrp .i64 ((hND i).1 * ((i + 1 : Nat) : Int)) = (hND i).1 * ((i + 1 : Nat) : Int) := wrp64 (by omega)
    have w2 : wrp .i64 ((hND i).1 * ((i + 1 : Nat) : Int) + (hND i).2) = (hND i).1 * ((i + 1 : Nat) : Int) + (hND i).2 := wrp64 (by omega)
    have w3 : wrp .i64 ((hND i).2 * ((i + 1 : Nat) : Int)) = (hND i).2 * ((i + 1 : Nat) : Int) := wrp64 (by omega)
    have w4 : wrp .i64 (((i + 1 : Nat) : Int) + 1) = ((i + 1 + 1 : Nat) : Int) := by rw [wrp64 (by omega)]; omega
    simp only [hND, seqX_normal, bindR_some, regX_some, condX_bool, blockX_normal, run_nil, run_cons, fget_cons', fput_cons', forget_nil, forget_cons', gcM, stp, justO, just, Rd.bind, Rd.run, Rd.opt, upds, aBuiltin, aMin, aBin, aInt, Nat.reduceBEq, Nat.reduceEqDiff, Nat.reduceLeDiff, ↓reduceIte, reduceCtorEq, decide_true, putD_some, List.elem_cons, List.elem_nil, x6_13, r6_4_l, s6_4_0, s6_4_1, s6_4_2, s6_4_3, x6_15, x6_16, x6_14, x6_12, x6_19, r6_6_l, s6_6_0, s6_6_1, s6_6_2, s6_6_3, s6_6_4, s6_6_5, s6_6_6, s6_6_7, s6_6_8, s6_6_9, x6_18, x6_20, r6_5_l, s6_5_0, s6_5_1, s6_5_2, x6_17, x6_11, hm, le, w1, w2, w3, w4]
    exact ⟨_, rfl, by simp only [headA_nil]⟩
  · rw [Nat.zero_add]
    have le : ¬ ((min n 12 + 1 : Nat) : Int) ≤ ((min n 12 : Nat) : Int) := by omega
    simp only [seqX_normal, seqX_exit, bindR_some, regX_some, condX_bool, run_nil, run_cons, fget_cons', fput_cons', forget_nil, forget_cons', gcM, stp, justO, just, Rd.bind, Rd.run, Rd.opt, upds, aBuiltin, aMin, aBin, aInt, Nat.reduceBEq, Nat.reduceEqDiff, Nat.reduceLeDiff, ↓reduceIte, reduceCtorEq, decide_false, putD_some, List.elem_cons, List.elem_nil, x6_13, r6_4_l, s6_4_0, s6_4_1, s6_4_2, s6_4_3, x6_15, x6_16, x6_14, x6_12, x6_11, hm, le]

theorem ser_big {C : Callee} {m hf wt : Int} {n : Nat} (hb : 0 ≤ m ∧ m ≤ 255) (hn : m.tmod 14 = (n : Int) - 1) (h1 : 12 < n ∧ n ≤ 14)
    (ch : ∀ (site : Nat → Nat) seen, aBack site true seen (thaw C 26 [.int .i64 n] [] 0) = .pure (.tup [.agg [.int .i64 0, .int .i64 0], .int .i64 1], []))
    (cf : ∀ (site : Nat → Nat) seen, aBack site true seen (thaw C 27 [.int .i64 0, .int .i64 0] [] 0) = .pure (.agg [.int .i64 0, .int .i64 0], []))
    (cw : ∀ (site : Nat → Nat) seen, aBack site true seen (thaw C 20 [] [] 0) = .pure (.bool true, [])) :
    rsOf (bodyA E C fg 1000 6 [.int .u8 m, .int .u8 hf, .int .u8 wt] [] 0) = some (.bool true) := by
  have hl := ser_loop (C := C) (n := n) (hf := hf) (wt := wt) (by omega)
  have w0 : wrp .i64 m = m := wrp64 (by omega)
  have w1 : wrp .i64 ((n : Int) - 1) = (n : Int) - 1 := wrp64 (by omega)
  have w2 : wrp .i64 (1 + ((n : Int) - 1)) = n := by rw [wrp64 (by omega)]; omega
  have g : (n : Int) > 12 := by omega
  simp only [seqX_normal, seqX_ret, bindR_some, regX_some, condX_bool, blockX_exit, fset_cons, Bool.not_true, Bool.not_false, bodyX_ret, run_nil, run_cons, fget_cons', fput_cons', forget_nil, forget_cons', hget_nil', hget_cons', hset_nil', hset_cons', frame0, gcM, stp, opPick, opBox, justO, just, Rd.bind, Rd.run, Rd.opt, upds, acells, zeroCells, tsz, rdCells, aLoad, aStore, opStore, opExtract, resA, resL, fresh, aBin, aInt, putC, Nat.reduceAdd, Nat.reduceBEq, Nat.reduceEqDiff, Nat.reduceLeDiff, ↓reduceIte, reduceCtorEq, liveBlk_eq, Nat.zero_add, beq_iff_eq, List.nil_append, rtX_some, addT_some, drX_some, runT_nil, runT_cons, neat_eq, descF_nil', descF_cons', ascH_nil', ascH_cons', stpT, ↓gdT, Rd.foot, writing, touching, Tr.empty, dynPairs, apartT, disj, List.isEmpty_nil, List.isEmpty_cons, List.map_nil, Bool.not_false, Bool.not_true, Bool.true_or, Bool.or_true, Bool.or_false, Bool.and_true, Bool.true_and, Bool.and_self, decide_true, frz, putD_some, putD_none, and_true, aCall, snaps, snap, List.append_nil, Option.map_some, List.elem_cons, List.elem_nil, List.length_cons, List.length_nil, List.getElem?_cons_zero, List.getElem?_cons_succ, List.drop_zero, List.take_succ_cons, List.take_nil, List.set_cons_zero, List.set_cons_succ, T_3, T_5, T_56, x6_1, r6_0_l, s6_0_0, x6_3, r6_1_l, s6_1_0, s6_1_1, s6_1_2, s6_1_3, s6_1_4, x6_5, r6_2_l, s6_2_0, s6_2_1, x6_8, r6_3_l, s6_3_0, x6_10, x6_9, x6_7, x6_22, r6_7_l, s6_7_0, s6_7_1, s6_7_2, s6_7_3, s6_7_4, s6_7_5, s6_7_6, s6_7_7, x6_25, r6_8_l, s6_8_0, s6_8_1, x6_28, r6_9_l, r6_9_dr, r6_9_an, s6_9_0, s6_9_1, s6_9_2, s6_9_3, s6_9_4, s6_9_5, s6_9_6, s6_9_7, s6_9_8, s6_9_9, s6_9_10, x6_29, x6_27, x6_30, x6_26, x6_24, x6_23, x6_21, x6_6, x6_4, x6_2, x6_0, b_6, aConv, w0, hn, w2, hl, ch, cf, cw, g, eq56, Int.reduceEq, List.all_nil]
theorem ser_mid {C : Callee} {m hf wt : Int} {n : Nat} (hb : 0 ≤ m ∧ m ≤ 255) (hn : m.tmod 14 = (n : Int) - 1) (h1 : 5 < n ∧ n ≤ 12)
    (ch : ∀ (site : Nat → Nat) seen, aBack site true seen (thaw C 26 [.int .i64 n] [] 0) = .pure (.tup [.agg (frc (rd (hND n).1 (hND n).2)), .int .i64 0], []))
    (cr : ∀ (site : Nat → Nat) seen, aBack site true seen (thaw C 28 [.int .i64 (hND n).1, .int .i64 (hND n).2] [] 0) = .pure (.agg (frc (rd (hND n).1 (hND n).2)), []))
    (cw : ∀ (site : Nat → Nat) seen, aBack site true seen (thaw C 20 [] [] 0) = .pure (.bool true, [])) :
    rsOf (bodyA E C fg 1000 6 [.int .u8 m, .int .u8 hf, .int .u8 wt] [] 0) = some (.bool true) := by
  have hl := ser_loop (C := C) (n := n) (hf := hf) (wt := wt) (by omega)
  have w0 : wrp .i64 m = m := wrp64 (by omega)
  have w1 : wrp .i64 ((n : Int) - 1) = (n : Int) - 1 := wrp64 (by omega)
  have w2 : wrp .i64 (1 + ((n : Int) - 1)) = n := by rw [wrp64 (by omega)]; omega
  have g : ¬ (n : Int) > 12 := by omega
  have g2 : (n : Int) > 5 := by omega
  have hmin : min n 12 = n := by omega
  simp only [frc] at ch cr
  simp only [seqX_normal, seqX_ret, bindR_some, regX_some, condX_bool, blockX_exit, fset_cons, Bool.not_true, Bool.not_false, bodyX_ret, run_nil, run_cons, fget_cons', fput_cons', forget_nil, forget_cons', hget_nil', hget_cons', hset_nil', hset_cons', frame0, gcM, stp, opPick, opBox, justO, just, Rd.bind, Rd.run, Rd.opt, upds, acells, zeroCells, tsz, rdCells, aLoad, aStore, opStore, opExtract, resA, resL, fresh, aBin, aInt, putC, Nat.reduceAdd, Nat.reduceBEq, Nat.reduceEqDiff, Nat.reduceLeDiff, ↓reduceIte, reduceCtorEq, liveBlk_eq, Nat.zero_add, beq_iff_eq, List.nil_append, rtX_some, addT_some, drX_some, runT_nil, runT_cons, neat_eq, descF_nil', descF_cons', ascH_nil', ascH_cons', stpT, ↓gdT, Rd.foot, writing, touching, Tr.empty, dynPairs, apartT, disj, List.isEmpty_nil, List.isEmpty_cons, List.map_nil, Bool.not_false, Bool.not_true, Bool.true_or, Bool.or_true, Bool.or_false, Bool.and_true, Bool.true_and, Bool.and_self, decide_true, decide_false, frz, putD_some, putD_none, and_true, aCall, snaps, snap, List.append_nil, Option.map_some, List.elem_cons, List.elem_nil, List.length_cons, List.length_nil, List.getElem?_cons_zero, List.getElem?_cons_succ, List.drop_zero, List.take_succ_cons, List.take_nil, List.set_cons_zero, List.set_cons_succ, T_3, T_5, T_56, x6_1, r6_0_l, s6_0_0, x6_3, r6_1_l, s6_1_0, s6_1_1, s6_1_2, s6_1_3, s6_1_4, x6_5, r6_2_l, s6_2_0, s6_2_1, x6_8, r6_3_l, s6_3_0, x6_10, x6_9, x6_7, x6_22, r6_7_l, s6_7_0, s6_7_1, s6_7_2, s6_7_3, s6_7_4, s6_7_5, s6_7_6, s6_7_7, x6_25, r6_8_l, s6_8_0, s6_8_1, x6_28, r6_9_l, r6_9_dr, r6_9_an, s6_9_0, s6_9_1, s6_9_2, s6_9_3, s6_9_4, s6_9_5, s6_9_6, s6_9_7, s6_9_8, s6_9_9, s6_9_10, x6_29, x6_27, x6_30, x6_26, x6_24, x6_33, r6_10_l, r6_10_dr, r6_10_an, s6_10_0, s6_10_1, s6_10_2, s6_10_3, s6_10_4, s6_10_5, s6_10_6, s6_10_7, s6_10_8, x6_36, r6_11_l, s6_11_0, x6_37, x6_35, x6_38, x6_34, x6_32, x6_41, r6_12_l, s6_12_0, s6_12_1, x6_44, r6_13_l, s6_13_0, s6_13_1, x6_45, x6_43, x6_46, x6_42, x6_40, x6_39, x6_31, x6_23, x6_21, x6_6, x6_4, x6_2, x6_0, b_6, aConv, w0, hn, w2, hl, hmin, ch, cr, cw, g, g2, eq56, Int.reduceEq, List.all_nil, bne_self_eq_false]
theorem ser_small {C : Callee} {m hf wt : Int} {n : Nat} (hb : 0 ≤ m ∧ m ≤ 255) (hbh : 0 ≤ hf ∧ hf ≤ 255) (hbw : 0 ≤ wt ∧ wt ≤ 255) (hn : m.tmod 14 = (n : Int) - 1) (h1 : 0 < n ∧ n ≤ 5)
    (ch : ∀ (site : Nat → Nat) seen, aBack site true seen (thaw C 26 [.int .i64 n] [] 0) = .pure (.tup [.agg (frc (rd (hND n).1 (hND n).2)), .int .i64 0], []))
    (cr : ∀ (site : Nat → Nat) seen, aBack site true seen (thaw C 28 [.int .i64 (hND n).1, .int .i64 (hND n).2] [] 0) = .pure (.agg (frc (rd (hND n).1 (hND n).2)), []))
    (cr2 : ∀ (site : Nat → Nat) seen, aBack site true seen (thaw C 28 [.int .i64 ((hND n).1 * (1 + hf)), .int .i64 (hND n).2] [] 0) = .pure (.agg (frc (rd ((hND n).1 * (1 + hf)) (hND n).2)), []))
    (cl : ∀ (site : Nat → Nat) seen (x : Int) ex, aBack site true seen (thaw C 31 [.imm [.int .i64 x] 1 ex] [] 0) = (frz seen).bind fun us => .pure (.imm [.int .i64 x] 1 ex, us))
    (cp : ∀ (site : Nat → Nat) seen (x : Int) ex, aBack site true seen (thaw C 30 [.imm [.int .i64 x] 1 ex, .int .i64 n] [] 0) = back1 (site 0) seen (fun k => .ref k 0 n n n 1 false) ⟨.row, icells (List.replicate n x)⟩)
    (cf : ∀ (site : Nat → Nat) seen e1 e2, aBack site true seen (thaw C 29 [.imm (icells (List.replicate n (1 + hf))) n e1, .imm (icells (List.replicate n (1 + wt.tmod 9))) n e2, .int .i64 ((n : Int) - 1)] [] 0) = .pure (.tup [.agg (frc (rd ((hND n).1 * (1 + hf)) (hND n).2)), .int .i64 0], []))
    (cw : ∀ (site : Nat → Nat) seen, aBack site true seen (thaw C 20 [] [] 0) = .pure (.bool true, [])) :
    rsOf (bodyA E C fg 1000 6 [.int .u8 m, .int .u8 hf, .int .u8 wt] [] 0) = some (.bool true) := by
  have hl := ser_loop (C := C) (n := n) (hf := hf) (wt := wt) (by omega)
  have w0 : wrp .i64 m = m := wrp64 (by omega)
  have w0h : wrp .i64 hf = hf := wrp64 (by omega)
  have w0w : wrp .i64 wt = wt := wrp64 (by omega)
  have w1 : wrp .i64 ((n : Int) - 1) = (n : Int) - 1 := wrp64 (by omega)
  have w2 : wrp .i64 (1 + ((n : Int) - 1)) = n := by rw [wrp64 (by omega)]; omega
  have w3 : wrp .i64 (1 + hf) = 1 + hf := wrp64 (by omega)
  have t9 : 0 ≤ wt.tmod 9 ∧ wt.tmod 9 < 9 := by rw [Int.tmod_eq_emod_of_nonneg (by omega)]; omega
  have w4 : wrp .i64 (wt.tmod 9) = wt.tmod 9 := wrp64 (by omega)
  have w5 : wrp .i64 (1 + wt.tmod 9) = 1 + wt.tmod 9 := wrp64 (by omega)
  have g : ¬ (n : Int) > 12 := by omega
  have g2 : ¬ (n : Int) > 5 := by omega
  have hmin : min n 12 = n := by omega
  obtain ⟨b1, b2, b3, b4⟩ := hND_b n (by omega)
  have t1 : (hND n).1 * (1 + hf) ≤ 1500000000 * 256 := Int.mul_le_mul b2 (by omega) (by omega) (by omega)
  have t2 : 0 ≤ (hND n).1 * (1 + hf) := Int.mul_nonneg b1 (by omega)
  have w6 : wrp .i64 ((hND n).1 * (1 + hf)) = (hND n).1 * (1 + hf) := wrp64 (by omega)
  have hle : ∀ x : Int, (icells (List.replicate n x)).length = n := fun x => by simp [icells]
  have htk : ∀ x : Int, List.take n (icells (List.replicate n x)) = icells (List.replicate n x) := fun x => List.take_of_length_le (by rw [hle]; exact Nat.le_refl _)
  simp only [frc] at ch cr cr2 cf
  simp only [seqX_normal, bindR_some, regX_some, condX_bool, blockX_exit, fset_cons, Bool.not_true, Bool.not_false, bodyX_ret, run_nil, run_cons, fget_cons', fput_nil, fput_cons', forget_nil, forget_cons', hget_nil', hget_cons', hset_nil', hset_cons', frame0, gcM, stp, opPick, opBox, justO, just, Rd.bind, Rd.run, Rd.opt, upds, acells, zeroCells, tsz, elemT, rdCells, aLoad, aStore, opStore, opExtract, resA, resL, fresh, aBin, aInt, putC, evO, Nat.reduceAdd, Nat.reduceMul, Nat.reduceLT, Nat.reduceGT, Nat.reduceBEq, Nat.reduceEqDiff, Nat.reduceLeDiff, ↓reduceIte, reduceCtorEq, liveBlk_eq, Nat.zero_add, ne_eq, beq_iff_eq, List.nil_append, rtX_some, addT_some, drX_some, runT_nil, runT_cons, neat_eq, descF_nil', descF_cons', ascH_nil', ascH_cons', stpT, ↓gdT, Rd.foot, writing, touching, Tr.empty, dynPairs, apartT, disj, List.isEmpty_nil, List.isEmpty_cons, List.map_nil, Bool.not_false, Bool.not_true, Bool.true_or, Bool.or_true, Bool.or_false, Bool.and_true, Bool.true_and, Bool.and_self, decide_true, decide_false, not_true_eq_false, or_self, aBuildSlice, partsOf, fillA, repC, frz, putD_some, putD_none, and_true, aCall, snaps, snap, List.append_nil, Option.map_some, List.elem_cons, List.elem_nil, List.length_cons, List.length_nil, List.getElem?_cons_zero, List.getElem?_cons_succ, List.drop_zero, List.take_succ_cons, List.take_nil, List.set_cons_zero, List.set_cons_succ, T_3, T_36, T_5, T_56, x6_1, r6_0_l, s6_0_0, x6_3, r6_1_l, s6_1_0, s6_1_1, s6_1_2, s6_1_3, s6_1_4, x6_5, r6_2_l, s6_2_0, s6_2_1, x6_8, r6_3_l, s6_3_0, x6_10, x6_9, x6_7, x6_22, r6_7_l, s6_7_0, s6_7_1, s6_7_2, s6_7_3, s6_7_4, s6_7_5, s6_7_6, s6_7_7, x6_25, r6_8_l, s6_8_0, s6_8_1, x6_28, r6_9_l, r6_9_dr, r6_9_an, s6_9_0, s6_9_1, s6_9_2, s6_9_3, s6_9_4, s6_9_5, s6_9_6, s6_9_7, s6_9_8, s6_9_9, s6_9_10, x6_29, x6_27, x6_30, x6_26, x6_24, x6_33, r6_10_l, r6_10_dr, r6_10_an, s6_10_0, s6_10_1, s6_10_2, s6_10_3, s6_10_4, s6_10_5, s6_10_6, s6_10_7, s6_10_8, x6_36, r6_11_l, s6_11_0, x6_37, x6_35, x6_38, x6_34, x6_32, x6_41, r6_12_l, s6_12_0, s6_12_1, x6_44, r6_13_l, s6_13_0, s6_13_1, x6_45, x6_43, x6_46, x6_42, x6_40, x6_48, r6_14_l, s6_14_0, s6_14_1, s6_14_2, s6_14_3, x6_50, r6_15_l, s6_15_0, s6_15_1, s6_15_2, s6_15_3, s6_15_4, s6_15_5, s6_15_6, s6_15_7, s6_15_8, s6_15_9, s6_15_10, s6_15_11, s6_15_12, s6_15_13, s6_15_14, s6_15_15, s6_15_16, s6_15_17, s6_15_18, s6_15_19, s6_15_20, s6_15_21, x6_52, r6_16_l, r6_16_dr, r6_16_an, s6_16_0, s6_16_1, s6_16_2, s6_16_3, s6_16_4, s6_16_5, s6_16_6, s6_16_7, s6_16_8, s6_16_9, s6_16_10, s6_16_11, s6_16_12, s6_16_13, s6_16_14, x6_53, x6_51, x6_49, x6_47, x6_39, x6_31, x6_23, x6_21, x6_6, x6_4, x6_2, x6_0, b_6, aConv, w0, w0h, w0w, hn, w1, w2, w3, w5, w6, hl, hmin, ch, cr, cr2, cl, cp, cf, cw, back1_run, g, g2, eq56, hle, htk, Nat.mul_one, Nat.le_refl, Int.reduceEq, List.all_nil, bne_self_eq_false]

/-! The calls -/
theorem harm_known : ∀ n ∈ [1, 2, 3, 4, 5, 6, 7, 8, 9, 10, 11, 12], givesA (.tup [.agg (frc (rd (hND n).1 (hND n).2)), .int .i64 0]) (callA E fg 1000 40 26 [.int .i64 n] [] 0) = true := by
  have h : ([1, 2, 3, 4, 5, 6, 7, 8, 9, 10, 11, 12].all fun n => givesA (.tup [.agg (frc (rd (hND n).1 (hND n).2)), .int .i64 0]) (callA E fg 1000 40 26 [.int .i64 n] [] 0)) = true := by kernel_rfl
  exact List.all_eq_true.1 h
theorem harm_none : ∀ n ∈ [13, 14], givesA (.tup [.agg [.int .i64 0, .int .i64 0], .int .i64 1]) (callA E fg 1000 40 26 [.int .i64 n] [] 0) = true := by
  have h : ([13, 14].all fun n => givesA (.tup [.agg [.int .i64 0, .int .i64 0], .int .i64 1]) (callA E fg 1000 40 26 [.int .i64 n] [] 0)) = true := by kernel_rfl
  exact List.all_eq_true.1 h
theorem mul_n {n : Nat} (h : 0 < n ∧ n ≤ 5) : ∃ H, callA E fg 1000 39 58 [.int .u64 1, .int .u64 n] [] 0 = some (.tup [.int .u64 0, .int .u64 n], H) := by
  obtain ⟨h1, h2, h3, h4, h5⟩ := mul_known
  have : n = 1 ∨ n = 2 ∨ n = 3 ∨ n = 4 ∨ n = 5 := by omega
  rcases this with rfl | rfl | rfl | rfl | rfl
  · exact givesA_ok h1
  · exact givesA_ok h2
  · exact givesA_ok h3
  · exact givesA_ok h4
  · exact givesA_ok h5
theorem repeat_call {site : Nat → Nat} {seen : List Nat} {n : Nat} {x : Int} {ex : Bool} (h : 0 < n ∧ n ≤ 5) :
    aBack site true seen (thaw (callA E fg 1000 40) 30 [.imm [.int .i64 x] 1 ex, .int .i64 n] [] 0) = back1 (site 0) seen (fun k => .ref k 0 n n n 1 false) ⟨.row, icells (List.replicate n x)⟩ := by
  have cm := fun (site : Nat → Nat) seen => aBack_ints (site := site) (seen := seen) (mul_n h)
  have e : callA E fg 1000 40 30 [.imm [.int .i64 x] 1 ex, .int .i64 n] [] 0 = some (.ref 30 0 n n n 1 false, [(30, ⟨.row, icells (List.replicate n x)⟩)]) := by
    change bodyA E (callA E fg 1000 39) fg 1000 30 _ _ _ = _
    have : n = 1 ∨ n = 2 ∨ n = 3 ∨ n = 4 ∨ n = 5 := by omega
    rcases this with rfl | rfl | rfl | rfl | rfl
    · exact repeat_run1 cm
    · exact repeat_run2 cm
    · exact repeat_run3 cm
    · exact repeat_run4 cm
    · exact repeat_run5 cm
  have hl : (icells (List.replicate n x)).length = n := by simp [icells]
  have := aBack_ref (site := site) (seen := seen) (n := n) (sz := 1) (id := 30) (cells := icells (List.replicate n x)) (H' := [(30, ⟨.row, icells (List.replicate n x)⟩)]) (C := callA E fg 1000 40) (f := 30) (args := [.imm [.int .i64 x] 1 ex, .int .i64 n]) (by rw [hl]; exact e) (by rw [hget_cons']; simp)
  rw [hl] at this
  exact this
theorem rep_ok {n : Nat} (h : 0 < n ∧ n ≤ 5) {L w : Int} (hL : 1 ≤ L ∧ L ≤ 256) (hw : 1 ≤ w ∧ w ≤ 9) : OkL (List.replicate n L) (List.replicate n w) := by
  refine ⟨by simp; omega, by simp; omega, by simp, fun i hi => ?_, fun i hi => ?_⟩
  · rw [List.length_replicate] at hi
    rw [rep_at hi]; omega
  · rw [List.length_replicate] at hi
    rw [rep_at hi]; omega
theorem series_true {m hf wt : Int} (hb : 0 ≤ m ∧ m ≤ 255) (hbh : 0 ≤ hf ∧ hf ≤ 255) (hbw : 0 ≤ wt ∧ wt ≤ 255) (hw : ∃ H', callA E fg 1000 40 20 [] [] 0 = some (.bool true, H')) :
    rsOf (bodyA E (callA E fg 1000 40) fg 1000 6 [.int .u8 m, .int .u8 hf, .int .u8 wt] [] 0) = some (.bool true) := by
  have cw := fun (site : Nat → Nat) seen => aBack_bool (site := site) (seen := seen) hw
  have ht : m.tmod 14 = m % 14 := Int.tmod_eq_emod_of_nonneg hb.1
  obtain ⟨k, hk⟩ := Int.eq_ofNat_of_zero_le (show 0 ≤ m % 14 by omega)
  have hn : m.tmod 14 = ((k + 1 : Nat) : Int) - 1 := by omega
  have hk14 : k < 14 := by omega
  generalize hkn : k + 1 = n at hn
  by_cases h12 : 12 < n
  · have hmem : ((n : Int)) ∈ [(13 : Int), 14] := by
      have : n = 13 ∨ n = 14 := by omega
      rcases this with rfl | rfl <;> simp
    exact ser_big hb hn ⟨h12, by omega⟩ (fun site seen => aBack_fracint (givesA_ok (harm_none n hmem))) (fun site seen => lfrac_call (d := 39)) cw
  · obtain ⟨b1, b2, b3, b4⟩ := hND_b n (by omega)
    have hmem : n ∈ [1, 2, 3, 4, 5, 6, 7, 8, 9, 10, 11, 12] := by
      have : n = 1 ∨ n = 2 ∨ n = 3 ∨ n = 4 ∨ n = 5 ∨ n = 6 ∨ n = 7 ∨ n = 8 ∨ n = 9 ∨ n = 10 ∨ n = 11 ∨ n = 12 := by omega
      rcases this with rfl | rfl | rfl | rfl | rfl | rfl | rfl | rfl | rfl | rfl | rfl | rfl <;> simp
    have ch := fun (site : Nat → Nat) seen => aBack_fracint (site := site) (seen := seen) (givesA_ok (harm_known n hmem))
    have cr := fun (site : Nat → Nat) seen => ratio_call (d := 38) (site := site) (seen := seen) (num := (hND n).1) (den := (hND n).2) (by omega) (by omega)
    by_cases h5 : 5 < n
    · exact ser_mid hb hn ⟨h5, by omega⟩ ch cr cw
    · have hn5 : 0 < n ∧ n ≤ 5 := by omega
      have t9 : 0 ≤ wt.tmod 9 ∧ wt.tmod 9 < 9 := by rw [Int.tmod_eq_emod_of_nonneg (by omega)]; omega
      have t1 : (hND n).1 * (1 + hf) ≤ 1500000000 * 256 := Int.mul_le_mul b2 (by omega) (by omega) (by omega)
      have t2 : 0 ≤ (hND n).1 * (1 + hf) := Int.mul_nonneg b1 (by omega)
      have cr2 := fun (site : Nat → Nat) seen => ratio_call (d := 38) (site := site) (seen := seen) (num := (hND n).1 * (1 + hf)) (den := (hND n).2) (by omega) (by omega)
      refine ser_small hb hbh hbw hn hn5 ch cr cr2 (fun site seen x ex => list_call (d := 39)) (fun site seen x ex => repeat_call hn5) (fun site seen e1 e2 => ?_) cw
      have hok := rep_ok hn5 (L := 1 + hf) (w := 1 + wt.tmod 9) (by omega) (by omega)
      have := farthest_run (d := 36) (e1 := e1) (e2 := e2) hok (k := n - 1) (by simp; omega)
      rw [far_rep hn5.1 hn5.2 (by omega), List.length_replicate, List.length_replicate, show ((n - 1 : Nat) : Int) = (n : Int) - 1 by omega] at this
      exact aBack_fracint (rs_ex this)
end Go.AM.Ytikchlfbjdfioaa
