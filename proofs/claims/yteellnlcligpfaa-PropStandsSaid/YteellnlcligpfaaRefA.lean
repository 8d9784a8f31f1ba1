/- The reference's first functions. Own work of this project. -/
import Derived.Test.YteellnlcligpfaaPropG
import Derived.Test.YteellnlcligpfaaSyB
namespace Go.AM.Yteellnlcligpfaa
open Go Go.AM
set_option maxRecDepth 100000
set_option maxHeartbeats 1000000

def inB (n lo hi : Int) : Bool := if n ≥ lo then decide (n ≤ hi) else false
theorem in_run {C : Callee} (n lo hi : Int) : rsOf (bodyA E C fg 1000 56 [.int .i64 n, .int .i64 lo, .int .i64 hi] [] 0) = some (.bool (inB n lo hi)) := by
  simp only [seqX_normal, seqX_ite, bindR_some, bindR_ite, regX_some, regX_ite, ↓gd, fset_cons, Bool.not_true, bodyX_ite, bodyX_ret, run_nil, run_cons, fget_cons', fput_cons', forget_nil, forget_cons', frame0, gcM, stp, opPick, just, Rd.bind, Rd.run, Rd.opt, upds, resA, resL, aBin, aInt, Nat.reduceAdd, Nat.reduceBEq, Nat.reduceEqDiff, Nat.reduceLeDiff, ↓reduceIte, reduceCtorEq, decide_eq_true_eq, Nat.zero_add, rs_ite, m_bool, Bool.not_true, putD_some, Option.map_some, List.elem_cons, List.elem_nil, x56_1, r56_0_l, s56_0_0, x56_3, r56_1_l, s56_1_0, s56_1_1, s56_1_2, s56_1_3, s56_1_4, s56_1_5, s56_1_6, s56_1_7, s56_1_8, x56_4, x56_2, x56_0, b_56, inB]
theorem in_call {d : Nat} {site : Nat → Nat} {seen : List Nat} (n lo hi : Int) : aBack site true seen (thaw (callA E fg 1000 (d + 1)) 56 [.int .i64 n, .int .i64 lo, .int .i64 hi] [] 0) = .pure (.bool (inB n lo hi), []) :=
  aBack_bool (rs_ex (in_run n lo hi))
theorem inB_iff {n lo hi : Int} : inB n lo hi = true ↔ lo ≤ n ∧ n ≤ hi := by
  unfold inB; split <;> simp <;> omega

theorem within_in (s : Stone) : within s = if inB s.half 1 4194304 = true then if inB s.pos (-33554432) 33554432 = true then if inB s.least 1 9 = true then if inB s.most 1 9 = true then if s.least > s.most then 7 else 0 else 1 else 1 else 1 else 1 := by
  simp only [inB_iff]
  unfold within
  repeat' split
  all_goals first | rfl | omega

theorem rcheck_loop {d : Nat} (l : List Stone) (ex : Bool) (hl : l.length < 1000000) : ∀ (m k F : Nat) (H : AHeap), k + m = l.length → m < F →
    ∃ H', iterA (execA E (callA E fg 1000 (d + 1)) (fg 18) 0 48 [] 1000 c18_23) (headA []) F ([(3, .int .i64 k), (0, .imm (pcells l) l.length ex)], H) =
      if checkL (l.drop k) = 0 then some (.exit 0, [(14, .bool false), (3, .int .i64 l.length), (0, .imm (pcells l) l.length ex)], []) else some (.ret, [(2, .int .i64 (checkL (l.drop k)))], H')
  | 0, k, F + 1, H, hk, _ => by
    obtain rfl : k = l.length := by omega
    rw [iterA_succ]
    simp only [seqX_normal, seqX_exit, bindR_some, regX_some, condX_bool, run_nil, run_cons, fget_cons', fput_cons', forget_nil, forget_cons', gcM, stp, just, Rd.bind, Rd.run, Rd.opt, upds, aLen, aBuiltin, aBin, aInt, Nat.reduceBEq, Nat.reduceEqDiff, Nat.reduceLeDiff, ↓reduceIte, reduceCtorEq, headA_drop, refsF, refsOf, List.getElem?_toArray, decide_false, putD_some, List.append_nil, List.elem_cons, List.elem_nil, List.getElem?_cons_zero, T_25, x18_25, r18_6_l, s18_6_0, s18_6_1, s18_6_2, s18_6_3, x18_27, x18_28, x18_26, x18_24, x18_23, Int.lt_irrefl, decide_false, Bool.false_eq_true, List.drop_length, checkL]
    exact ⟨[], trivial⟩
  | m + 1, k, F + 1, H, hk, hF => by
    have hkl : k < l.length := by omega
    obtain ⟨s, hs⟩ := at_ex hkl
    have hd : l.drop k = s :: l.drop (k + 1) := by
      rw [List.drop_eq_getElem_cons hkl]
      rw [List.getElem?_eq_getElem hkl] at hs
      rw [Option.some.inj hs]
    obtain ⟨H', ih⟩ := rcheck_loop (d := d) l ex hl m (k + 1) F [(4, ⟨.box, sc s⟩)] (by omega) (by omega)
    simp only [sc] at ih
    rw [iterA_succ]
    simp only [seqX_normal, seqX_ret, seqX_ite, bindR_some, bindR_ite, regX_some, regX_ite, condX_bool, blockX_normal, blockX_ret, blockX_ite, ↓gd, fset_cons, Bool.not_true, Bool.not_false, run_nil, run_cons, fget_cons', fput_cons', forget_nil, forget_cons', hget_nil', hget_cons', hset_nil', hset_cons', gcM, stp, opPick, opBox, justO, just, Rd.bind, Rd.run, Rd.opt, upds, acells, zeroCells, tsz, rdCells, fieldOf, aFieldAddr, aLoad, aStore, opStore, fresh, aIndexAddr, aNum, aLen, aBuiltin, aBin, aInt, putC, Nat.reduceAdd, Nat.reduceLT, Nat.reduceBEq, Nat.reduceEqDiff, Nat.reduceLeDiff, Int.reduceNeg, ↓reduceIte, reduceCtorEq, liveBlk_eq, decide_eq_true_eq, Nat.zero_add, Nat.add_zero, headA_drop, refsF, refsOf, List.nil_append, List.getElem?_toArray, Bool.not_false, Bool.not_true, decide_true, frz, aUn, Bool.not_eq_eq_eq_not, putD_some, putD_none, and_true, Int.natCast_nonneg, Int.ofNat_lt, Int.toNat_natCast, aCall, snaps, snap, List.append_nil, List.elem_cons, List.elem_nil, List.length_cons, List.length_nil, List.getElem?_cons_zero, List.getElem?_cons_succ, List.set_cons_zero, List.set_cons_succ, T_3, T_25, T_82, x18_25, r18_6_l, s18_6_0, s18_6_1, s18_6_2, s18_6_3, x18_27, x18_28, x18_26, x18_24, x18_32, r18_8_l, s18_8_0, s18_8_1, s18_8_2, s18_8_3, s18_8_4, s18_8_5, x18_35, r18_9_l, s18_9_0, s18_9_1, s18_9_2, s18_9_3, s18_9_4, s18_9_5, s18_9_6, s18_9_7, s18_9_8, s18_9_9, s18_9_10, s18_9_11, s18_9_12, s18_9_13, s18_9_14, s18_9_15, s18_9_16, s18_9_17, s18_9_18, s18_9_19, s18_9_20, s18_9_21, x18_38, r18_10_l, s18_10_0, x18_39, x18_37, x18_40, x18_36, x18_34, x18_42, r18_11_l, s18_11_0, s18_11_1, s18_11_2, s18_11_3, s18_11_4, x18_45, r18_12_l, s18_12_0, x18_46, x18_44, x18_47, x18_43, x18_41, x18_33, x18_31, x18_30, x18_48, r18_7_l, s18_7_0, s18_7_1, s18_7_2, x18_29, x18_23, hkl, pcells_length, pcells_at l k s hs, sc, pcells_off l k hkl, in_call, wrp_succ (Nat.lt_trans hkl hl), ih, hd, checkL]
    rw [within_in s]
    cases h1 : inB s.half 1 4194304
    · simp only [Bool.false_eq_true, if_false]
      exact ⟨_, rfl⟩
    cases h2 : inB s.pos (-33554432) 33554432
    · simp only [Bool.false_eq_true, if_false, if_true]
      exact ⟨_, rfl⟩
    cases h3 : inB s.least 1 9
    · simp only [Bool.false_eq_true, if_false, if_true]
      exact ⟨_, rfl⟩
    cases h4 : inB s.most 1 9
    · simp only [Bool.false_eq_true, if_false, if_true]
      exact ⟨_, rfl⟩
    by_cases h5 : s.least > s.most
    · simp only [Bool.true_eq_false, h5, if_false, if_true]
      exact ⟨_, rfl⟩
    · simp only [Bool.true_eq_false, h5, if_false, if_true]
      exact ⟨_, rfl⟩

theorem rcheck_run {d : Nat} (l : List Stone) (ex : Bool) : rsOf (callA E fg 1000 (d + 2) 18 [.imm (pcells l) l.length ex] [] 0) = some (.int .i64 (check l)) := by
  change rsOf (bodyA E (callA E fg 1000 (d + 1)) fg 1000 18 _ _ _) = _
  by_cases h5 : (l.length : Int) > 5
  · by_cases h0 : (l.length : Int) = 0
    · omega
    · simp only [seqX_normal, seqX_ret, bindR_some, regX_some, condX_bool, bodyX_ret, run_nil, run_cons, fget_cons', fput_cons', forget_nil, forget_cons', frame0, gcM, stp, just, Rd.bind, Rd.run, Rd.opt, upds, resA, resL, aLen, aBuiltin, aBin, aInt, Nat.reduceBEq, Nat.reduceEqDiff, Nat.reduceLeDiff, ↓reduceIte, reduceCtorEq, beq_iff_eq, List.getElem?_toArray, decide_true, putD_some, Option.map_some, List.elem_cons, List.elem_nil, List.getElem?_cons_zero, T_25, x18_1, r18_0_l, s18_0_0, x18_4, r18_1_l, s18_1_0, s18_1_1, s18_1_2, x18_7, r18_2_l, s18_2_0, x18_8, x18_6, x18_9, x18_5, x18_3, x18_12, r18_3_l, s18_3_0, s18_3_1, s18_3_2, x18_15, r18_4_l, s18_4_0, x18_16, x18_14, x18_17, x18_13, x18_11, x18_10, x18_2, x18_0, b_18, check, h5, h0]
  · obtain ⟨H', h⟩ := rcheck_loop (d := d) l ex (by omega) l.length 0 1000 [] (by omega) (by omega)
    simp only [List.drop_zero, Int.natCast_zero] at h
    by_cases h0 : (l.length : Int) = 0
    · simp only [seqX_normal, seqX_ret, bindR_some, regX_some, condX_bool, bodyX_ret, run_nil, run_cons, fget_cons', fput_cons', forget_nil, forget_cons', frame0, gcM, stp, just, Rd.bind, Rd.run, Rd.opt, upds, resA, resL, aLen, aBuiltin, aBin, aInt, Nat.reduceBEq, Nat.reduceEqDiff, Nat.reduceLeDiff, ↓reduceIte, reduceCtorEq, beq_iff_eq, List.getElem?_toArray, putD_some, Option.map_some, List.elem_cons, List.elem_nil, List.getElem?_cons_zero, T_25, x18_1, r18_0_l, s18_0_0, x18_4, r18_1_l, s18_1_0, s18_1_1, s18_1_2, x18_7, r18_2_l, s18_2_0, x18_8, x18_6, x18_9, x18_5, x18_3, x18_2, x18_0, b_18, check, h0]
    · by_cases hc : checkL l = 0
      · simp only [hc, if_true] at h
        simp only [seqX_normal, bindR_some, regX_some, condX_bool, blockX_exit, bodyX_ret, run_nil, run_cons, fget_cons', fput_nil, fput_cons', forget_nil, forget_cons', frame0, gcM, stp, just, Rd.bind, Rd.run, Rd.opt, upds, resA, resL, aLen, aBuiltin, aBin, aInt, Nat.reduceBEq, Nat.reduceEqDiff, Nat.reduceLeDiff, ↓reduceIte, reduceCtorEq, beq_iff_eq, List.getElem?_toArray, decide_false, putD_some, Option.map_some, List.elem_cons, List.elem_nil, List.getElem?_cons_zero, T_25, x18_1, r18_0_l, s18_0_0, x18_4, r18_1_l, s18_1_0, s18_1_1, s18_1_2, x18_7, r18_2_l, s18_2_0, x18_8, x18_6, x18_9, x18_5, x18_3, x18_12, r18_3_l, s18_3_0, s18_3_1, s18_3_2, x18_15, r18_4_l, s18_4_0, x18_16, x18_14, x18_17, x18_13, x18_11, x18_20, r18_5_l, s18_5_0, x18_22, x18_21, x18_19, x18_50, r18_13_l, s18_13_0, x18_51, x18_49, x18_18, x18_10, x18_2, x18_0, b_18, check, h5, h0, h, hc]
      · simp only [hc, if_false] at h
        simp only [seqX_normal, seqX_ret, bindR_some, regX_some, condX_bool, blockX_ret, bodyX_ret, run_nil, run_cons, fget_cons', fput_cons', forget_nil, forget_cons', frame0, gcM, stp, just, Rd.bind, Rd.run, Rd.opt, upds, resA, resL, aLen, aBuiltin, aBin, aInt, Nat.reduceBEq, Nat.reduceEqDiff, Nat.reduceLeDiff, ↓reduceIte, reduceCtorEq, beq_iff_eq, List.getElem?_toArray, decide_false, putD_some, Option.map_some, List.elem_cons, List.elem_nil, List.getElem?_cons_zero, T_25, x18_1, r18_0_l, s18_0_0, x18_4, r18_1_l, s18_1_0, s18_1_1, s18_1_2, x18_7, r18_2_l, s18_2_0, x18_8, x18_6, x18_9, x18_5, x18_3, x18_12, r18_3_l, s18_3_0, s18_3_1, s18_3_2, x18_15, r18_4_l, s18_4_0, x18_16, x18_14, x18_17, x18_13, x18_11, x18_20, r18_5_l, s18_5_0, x18_22, x18_21, x18_19, x18_18, x18_10, x18_2, x18_0, b_18, check, h5, h0, h]
theorem rcheck_nil {d : Nat} : rsOf (callA E fg 1000 (d + 2) 18 [.nilsl] [] 0) = some (.int .i64 (check [])) := by
  change rsOf (bodyA E (callA E fg 1000 (d + 1)) fg 1000 18 _ _ _) = _
  simp only [seqX_normal, seqX_ret, bindR_some, regX_some, condX_bool, bodyX_ret, run_nil, run_cons, fget_cons', fput_cons', forget_nil, forget_cons', frame0, gcM, stp, just, Rd.bind, Rd.run, Rd.opt, upds, resA, resL, aLen, aBuiltin, aBin, aInt, Nat.reduceBEq, Nat.reduceEqDiff, Nat.reduceLeDiff, ↓reduceIte, reduceCtorEq, beq_iff_eq, List.getElem?_toArray, putD_some, Option.map_some, List.elem_cons, List.elem_nil, List.length_nil, List.getElem?_cons_zero, T_25, x18_1, r18_0_l, s18_0_0, x18_4, r18_1_l, s18_1_0, s18_1_1, s18_1_2, x18_7, r18_2_l, s18_2_0, x18_8, x18_6, x18_9, x18_5, x18_3, x18_2, x18_0, b_18, check, List.length_nil, Int.natCast_zero]
theorem rcheck_call {d : Nat} {site : Nat → Nat} {seen : List Nat} {a : AV} {l : List Stone} (h : IsP a l) : aBack site true seen (thaw (callA E fg 1000 (d + 2)) 18 [a] [] 0) = .pure (.int .i64 (check l), []) := by
  rcases h with ⟨rfl, rfl⟩ | ⟨ex, rfl⟩
  · exact aBack_int (rs_ex rcheck_nil)
  · exact aBack_int (rs_ex (rcheck_run l ex))

theorem wrp_len {l : List Stone} (h : l.length ≤ 1000000) : wrp .i64 ((l.length : Int) - 1) = (l.length : Int) - 1 := wrp64 (by omega)
theorem levelled_run {d : Nat} {a : AV} {l : List Stone} (ha : IsP a l) (z : Int) : rsOf (callA E fg 1000 (d + 3) 58 [a, .int .i64 z] [] 0) = some (.int .i64 (foundE l z)) := by
  change rsOf (bodyA E (callA E fg 1000 (d + 2)) fg 1000 58 _ _ _) = _
  have hc := fun (site : Nat → Nat) seen => rcheck_call (d := d) (site := site) (seen := seen) ha
  have hi := fun (site : Nat → Nat) seen n lo hi => in_call (d := d + 1) (site := site) (seen := seen) n lo hi
  by_cases h0 : check l = 0
  · have h := check_zero.1 h0
    obtain ⟨ex, rfl⟩ := isP_imm ha h.ne
    have e : foundE l z = if inB z 0 ((l.length : Int) - 1) = true then 0 else 2 := by
      unfold foundE
      rw [if_pos h0]
      simp only [inB_iff]
      repeat' split
      all_goals first | rfl | omega
    rw [e]
    cases hb : inB z 0 ((l.length : Int) - 1) <;> simp only [seqX_normal, bindR_some, regX_some, condX_bool, ↓gd, fset_cons, Bool.not_true, Bool.not_false, bodyX_ret, run_nil, run_cons, fget_cons', fput_nil, fput_cons', forget_nil, forget_cons', frame0, gcM, stp, opPick, justO, just, Rd.bind, Rd.run, Rd.opt, upds, resA, resL, aLen, aBuiltin, aBin, aInt, Nat.reduceBEq, Nat.reduceEqDiff, Nat.reduceLeDiff, ↓reduceIte, reduceCtorEq, Nat.zero_add, beq_iff_eq, List.getElem?_toArray, Bool.not_false, Bool.not_true, aUn, putD_some, aCall, snaps, snap, List.append_nil, Option.map_some, List.elem_cons, List.elem_nil, List.getElem?_cons_zero, T_25, x58_1, r58_0_l, s58_0_0, x58_3, r58_1_l, s58_1_0, s58_1_1, s58_1_2, x58_6, r58_2_l, s58_2_0, s58_2_1, s58_2_2, s58_2_3, s58_2_4, s58_2_5, s58_2_6, s58_2_7, s58_2_8, s58_2_9, x58_8, r58_3_l, s58_3_0, x58_9, x58_7, x58_5, x58_11, r58_4_l, s58_4_0, s58_4_1, x58_12, x58_10, x58_4, x58_2, x58_0, b_58, hc, h0, hi, hb, wrp_len (show l.length ≤ 1000000 by have := h.le; omega), Bool.false_eq_true]
  · rcases ha with ⟨rfl, rfl⟩ | ⟨ex, rfl⟩ <;> simp only [seqX_normal, bindR_some, regX_some, condX_bool, ↓gd, fset_cons, Bool.not_true, bodyX_ret, run_nil, run_cons, fget_cons', fput_nil, fput_cons', forget_nil, forget_cons', frame0, gcM, stp, opPick, just, Rd.bind, Rd.run, Rd.opt, upds, resA, resL, aBin, aInt, Nat.reduceBEq, Nat.reduceEqDiff, Nat.reduceLeDiff, ↓reduceIte, reduceCtorEq, Nat.zero_add, beq_iff_eq, Bool.not_true, putD_some, aCall, snaps, snap, List.append_nil, Option.map_some, List.elem_cons, List.elem_nil, x58_1, r58_0_l, s58_0_0, x58_3, r58_1_l, s58_1_0, s58_1_1, s58_1_2, x58_6, r58_2_l, s58_2_0, s58_2_1, s58_2_2, s58_2_3, s58_2_4, s58_2_5, s58_2_6, s58_2_7, s58_2_8, s58_2_9, x58_8, r58_3_l, s58_3_0, x58_9, x58_7, x58_5, x58_11, r58_4_l, s58_4_0, s58_4_1, x58_12, x58_10, x58_4, x58_2, x58_0, b_58, hc, h0, foundE]
theorem levelled_call {d : Nat} {site : Nat → Nat} {seen : List Nat} {a : AV} {l : List Stone} (ha : IsP a l) (z : Int) : aBack site true seen (thaw (callA E fg 1000 (d + 3)) 58 [a, .int .i64 z] [] 0) = .pure (.int .i64 (foundE l z), []) :=
  aBack_int (rs_ex (levelled_run ha z))

theorem rsided_run {d : Nat} {a : AV} {l : List Stone} (ha : IsP a l) (z side : Int) : rsOf (callA E fg 1000 (d + 4) 49 [a, .int .i64 z, .int .i64 side] [] 0) = some (.int .i64 (sidedE l z side)) := by
  change rsOf (bodyA E (callA E fg 1000 (d + 3)) fg 1000 49 _ _ _) = _
  have hc := fun (site : Nat → Nat) seen => levelled_call (d := d) (site := site) (seen := seen) ha z
  rcases ha with ⟨rfl, rfl⟩ | ⟨ex, rfl⟩
  · have h0 : ¬ foundE [] z = 0 := fun h => by have := (found_zero.1 h).1.ne; simp at this
    simp only [seqX_normal, bindR_some, regX_some, condX_bool, ↓gd, fset_cons, Bool.not_true, bodyX_ret, run_nil, run_cons, fget_cons', fput_nil, fput_cons', forget_nil, forget_cons', frame0, gcM, stp, opPick, just, Rd.bind, Rd.run, Rd.opt, upds, resA, resL, aBin, aInt, Nat.reduceAdd, Nat.reduceBEq, Nat.reduceEqDiff, Nat.reduceLeDiff, ↓reduceIte, reduceCtorEq, Nat.zero_add, beq_iff_eq, Bool.not_true, putD_some, aCall, snaps, snap, List.append_nil, Option.map_some, List.elem_cons, List.elem_nil, x49_1, r49_0_l, s49_0_0, x49_3, r49_1_l, s49_1_0, s49_1_1, s49_1_2, s49_1_3, x49_6, r49_2_l, s49_2_0, s49_2_1, s49_2_2, s49_2_3, s49_2_4, s49_2_5, s49_2_6, s49_2_7, s49_2_8, s49_2_9, x49_8, r49_3_l, s49_3_0, x49_9, x49_7, x49_5, x49_12, r49_4_l, s49_4_0, s49_4_1, s49_4_2, s49_4_3, s49_4_4, s49_4_5, s49_4_6, s49_4_7, s49_4_8, s49_4_9, x49_14, r49_5_l, s49_5_0, x49_15, x49_13, x49_11, x49_17, r49_6_l, s49_6_0, s49_6_1, x49_18, x49_16, x49_10, x49_4, x49_2, x49_0, b_49, hc, h0, sidedE]
  · by_cases h0 : foundE l z = 0
    · by_cases h1 : side = 1
      · subst h1
        simp only [seqX_normal, seqX_ite, bindR_some, bindR_ite, regX_some, regX_ite, condX_bool, ↓gd, fset_cons, Bool.not_true, bodyX_ite, bodyX_ret, run_nil, run_cons, fget_cons', fput_nil, fput_cons', forget_nil, forget_cons', frame0, gcM, stp, opPick, just, Rd.bind, Rd.run, Rd.opt, upds, resA, resL, aBin, aInt, Nat.reduceAdd, Nat.reduceBEq, Nat.reduceEqDiff, Nat.reduceLeDiff, Int.reduceNeg, ↓reduceIte, reduceCtorEq, Nat.zero_add, rs_ite, m_int, bne_iff_ne, ne_eq, beq_iff_eq, Bool.not_true, not_true_eq_false, or_false, putD_some, aCall, snaps, snap, List.append_nil, Option.map_some, List.elem_cons, List.elem_nil, x49_1, r49_0_l, s49_0_0, x49_3, r49_1_l, s49_1_0, s49_1_1, s49_1_2, s49_1_3, x49_6, r49_2_l, s49_2_0, s49_2_1, s49_2_2, s49_2_3, s49_2_4, s49_2_5, s49_2_6, s49_2_7, s49_2_8, s49_2_9, x49_8, r49_3_l, s49_3_0, x49_9, x49_7, x49_5, x49_12, r49_4_l, s49_4_0, s49_4_1, s49_4_2, s49_4_3, s49_4_4, s49_4_5, s49_4_6, s49_4_7, s49_4_8, s49_4_9, x49_14, r49_5_l, s49_5_0, x49_15, x49_13, x49_11, x49_17, r49_6_l, s49_6_0, s49_6_1, x49_18, x49_16, x49_10, x49_4, x49_2, x49_0, b_49, hc, h0, sidedE]
        try simp
      · by_cases h2 : side = -1
        · subst h2
          by_cases h4 : z = 0
          · subst h4
            simp only [seqX_normal, bindR_some, regX_some, condX_bool, ↓gd, fset_cons, bodyX_ret, run_nil, run_cons, fget_cons', fput_nil, fput_cons', forget_nil, forget_cons', frame0, gcM, stp, opPick, just, Rd.bind, Rd.run, Rd.opt, upds, resA, resL, aBin, aInt, Nat.reduceAdd, Nat.reduceBEq, Nat.reduceEqDiff, Nat.reduceLeDiff, Int.reduceNeg, ↓reduceIte, reduceCtorEq, Nat.zero_add, bne_iff_ne, ne_eq, beq_iff_eq, not_true_eq_false, not_false_eq_true, or_true, putD_some, and_true, aCall, snaps, snap, List.append_nil, Option.map_some, List.elem_cons, List.elem_nil, x49_1, r49_0_l, s49_0_0, x49_3, r49_1_l, s49_1_0, s49_1_1, s49_1_2, s49_1_3, x49_6, r49_2_l, s49_2_0, s49_2_1, s49_2_2, s49_2_3, s49_2_4, s49_2_5, s49_2_6, s49_2_7, s49_2_8, s49_2_9, x49_8, r49_3_l, s49_3_0, x49_9, x49_7, x49_5, x49_12, r49_4_l, s49_4_0, s49_4_1, s49_4_2, s49_4_3, s49_4_4, s49_4_5, s49_4_6, s49_4_7, s49_4_8, s49_4_9, x49_14, r49_5_l, s49_5_0, x49_15, x49_13, x49_11, x49_17, r49_6_l, s49_6_0, s49_6_1, x49_18, x49_16, x49_10, x49_4, x49_2, x49_0, b_49, hc, h0, sidedE]
            try simp
          · simp only [seqX_normal, bindR_some, regX_some, condX_bool, ↓gd, fset_cons, Bool.not_true, bodyX_ret, run_nil, run_cons, fget_cons', fput_nil, fput_cons', forget_nil, forget_cons', frame0, gcM, stp, opPick, just, Rd.bind, Rd.run, Rd.opt, upds, resA, resL, aBin, aInt, Nat.reduceAdd, Nat.reduceBEq, Nat.reduceEqDiff, Nat.reduceLeDiff, Int.reduceNeg, ↓reduceIte, reduceCtorEq, Nat.zero_add, bne_iff_ne, ne_eq, beq_iff_eq, Bool.not_true, not_true_eq_false, not_false_eq_true, or_true, putD_some, aCall, snaps, snap, List.append_nil, Option.map_some, List.elem_cons, List.elem_nil, x49_1, r49_0_l, s49_0_0, x49_3, r49_1_l, s49_1_0, s49_1_1, s49_1_2, s49_1_3, x49_6, r49_2_l, s49_2_0, s49_2_1, s49_2_2, s49_2_3, s49_2_4, s49_2_5, s49_2_6, s49_2_7, s49_2_8, s49_2_9, x49_8, r49_3_l, s49_3_0, x49_9, x49_7, x49_5, x49_12, r49_4_l, s49_4_0, s49_4_1, s49_4_2, s49_4_3, s49_4_4, s49_4_5, s49_4_6, s49_4_7, s49_4_8, s49_4_9, x49_14, r49_5_l, s49_5_0, x49_15, x49_13, x49_11, x49_17, r49_6_l, s49_6_0, s49_6_1, x49_18, x49_16, x49_10, x49_4, x49_2, x49_0, b_49, hc, h0, sidedE, h4]
            try simp []
        · simp only [seqX_normal, seqX_ite, bindR_some, bindR_ite, regX_some, regX_ite, condX_bool, ↓gd, fset_cons, Bool.not_true, bodyX_ite, bodyX_ret, run_nil, run_cons, fget_cons', fput_nil, fput_cons', forget_nil, forget_cons', frame0, gcM, stp, opPick, just, Rd.bind, Rd.run, Rd.opt, upds, resA, resL, aBin, aInt, Nat.reduceAdd, Nat.reduceBEq, Nat.reduceEqDiff, Nat.reduceLeDiff, Int.reduceNeg, ↓reduceIte, reduceCtorEq, Nat.zero_add, rs_ite, m_int, bne_iff_ne, ne_eq, beq_iff_eq, Bool.not_true, not_false_eq_true, or_self, putD_some, aCall, snaps, snap, List.append_nil, Option.map_some, List.elem_cons, List.elem_nil, x49_1, r49_0_l, s49_0_0, x49_3, r49_1_l, s49_1_0, s49_1_1, s49_1_2, s49_1_3, x49_6, r49_2_l, s49_2_0, s49_2_1, s49_2_2, s49_2_3, s49_2_4, s49_2_5, s49_2_6, s49_2_7, s49_2_8, s49_2_9, x49_8, r49_3_l, s49_3_0, x49_9, x49_7, x49_5, x49_12, r49_4_l, s49_4_0, s49_4_1, s49_4_2, s49_4_3, s49_4_4, s49_4_5, s49_4_6, s49_4_7, s49_4_8, s49_4_9, x49_14, r49_5_l, s49_5_0, x49_15, x49_13, x49_11, x49_17, r49_6_l, s49_6_0, s49_6_1, x49_18, x49_16, x49_10, x49_4, x49_2, x49_0, b_49, hc, h0, sidedE, h1, h2, or_self]
          try simp
    · simp only [seqX_normal, bindR_some, regX_some, condX_bool, ↓gd, fset_cons, Bool.not_true, bodyX_ret, run_nil, run_cons, fget_cons', fput_nil, fput_cons', forget_nil, forget_cons', frame0, gcM, stp, opPick, just, Rd.bind, Rd.run, Rd.opt, upds, resA, resL, aBin, aInt, Nat.reduceAdd, Nat.reduceBEq, Nat.reduceEqDiff, Nat.reduceLeDiff, ↓reduceIte, reduceCtorEq, Nat.zero_add, beq_iff_eq, Bool.not_true, putD_some, aCall, snaps, snap, List.append_nil, Option.map_some, List.elem_cons, List.elem_nil, x49_1, r49_0_l, s49_0_0, x49_3, r49_1_l, s49_1_0, s49_1_1, s49_1_2, s49_1_3, x49_6, r49_2_l, s49_2_0, s49_2_1, s49_2_2, s49_2_3, s49_2_4, s49_2_5, s49_2_6, s49_2_7, s49_2_8, s49_2_9, x49_8, r49_3_l, s49_3_0, x49_9, x49_7, x49_5, x49_12, r49_4_l, s49_4_0, s49_4_1, s49_4_2, s49_4_3, s49_4_4, s49_4_5, s49_4_6, s49_4_7, s49_4_8, s49_4_9, x49_14, r49_5_l, s49_5_0, x49_15, x49_13, x49_11, x49_17, r49_6_l, s49_6_0, s49_6_1, x49_18, x49_16, x49_10, x49_4, x49_2, x49_0, b_49, hc, h0, sidedE]
theorem rsided_call {d : Nat} {site : Nat → Nat} {seen : List Nat} {a : AV} {l : List Stone} (ha : IsP a l) (z side : Int) : aBack site true seen (thaw (callA E fg 1000 (d + 4)) 49 [a, .int .i64 z, .int .i64 side] [] 0) = .pure (.int .i64 (sidedE l z side), []) :=
  aBack_int (rs_ex (rsided_run ha z side))
end Go.AM.Yteellnlcligpfaa
