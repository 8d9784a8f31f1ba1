/- Levels, sides and weights are checked; moments. Own work of this project. -/
import Derived.Test.YteellnlcligpfaaPropD
namespace Go.AM.Yteellnlcligpfaa
open Go Go.AM
set_option maxRecDepth 100000
set_option maxHeartbeats 1000000

/-- A list of integers as it is handed on. -/
def IsI (a : AV) (ws : List Int) : Prop := (a = .nilsl ∧ ws = []) ∨ ∃ ex, a = .imm (icells ws) ws.length ex

def foundE (l : List Stone) (z : Int) : Int := if check l = 0 then (if z < 0 then 2 else if z ≥ l.length then 2 else 0) else check l
theorem found_run {d : Nat} {a : AV} {l : List Stone} (ha : IsP a l) (z : Int) : rsOf (callA E fg 1000 (d + 3) 57 [a, .int .i64 z] [] 0) = some (.int .i64 (foundE l z)) := by
  change rsOf (bodyA E (callA E fg 1000 (d + 2)) fg 1000 57 _ _ _) = _
  have hc := fun (site : Nat → Nat) seen => check_call (d := d) (site := site) (seen := seen) ha
  by_cases h0 : check l = 0
  · have h := check_zero.1 h0
    obtain ⟨ex, rfl⟩ := isP_imm ha h.ne
    by_cases h1 : z < 0 <;> by_cases h2 : z ≥ l.length <;> simp only [seqX_normal, bindR_some, regX_some, condX_bool, ↓gd, fset_cons, Bool.not_false, bodyX_ret, run_nil, run_cons, fget_cons', fput_nil, fput_cons', forget_nil, forget_cons', frame0, gcM, stp, opPick, just, Rd.bind, Rd.run, Rd.opt, upds, resA, resL, aLen, aBuiltin, aBin, aInt, Nat.reduceBEq, Nat.reduceEqDiff, Nat.reduceLeDiff, ↓reduceIte, reduceCtorEq, Nat.zero_add, beq_iff_eq, List.getElem?_toArray, Bool.not_false, decide_true, decide_false, putD_some, aCall, snaps, snap, List.append_nil, Option.map_some, List.elem_cons, List.elem_nil, List.getElem?_cons_zero, T_22, x57_1, r57_0_l, s57_0_0, x57_3, r57_1_l, s57_1_0, s57_1_1, s57_1_2, x57_6, r57_2_l, s57_2_0, s57_2_1, s57_2_2, s57_2_3, s57_2_4, s57_2_5, s57_2_6, s57_2_7, s57_2_8, s57_2_9, s57_2_10, s57_2_11, x57_8, r57_3_l, s57_3_0, x57_9, x57_7, x57_5, x57_11, r57_4_l, s57_4_0, s57_4_1, x57_12, x57_10, x57_4, x57_2, x57_0, b_57, hc, h0, foundE, h1, h2]
  · rcases ha with ⟨rfl, rfl⟩ | ⟨ex, rfl⟩ <;> simp only [seqX_normal, bindR_some, regX_some, condX_bool, ↓gd, fset_cons, Bool.not_true, bodyX_ret, run_nil, run_cons, fget_cons', fput_nil, fput_cons', forget_nil, forget_cons', frame0, gcM, stp, opPick, just, Rd.bind, Rd.run, Rd.opt, upds, resA, resL, aBin, aInt, Nat.reduceBEq, Nat.reduceEqDiff, Nat.reduceLeDiff, ↓reduceIte, reduceCtorEq, Nat.zero_add, beq_iff_eq, Bool.not_true, putD_some, aCall, snaps, snap, List.append_nil, Option.map_some, List.elem_cons, List.elem_nil, x57_1, r57_0_l, s57_0_0, x57_3, r57_1_l, s57_1_0, s57_1_1, s57_1_2, x57_6, r57_2_l, s57_2_0, s57_2_1, s57_2_2, s57_2_3, s57_2_4, s57_2_5, s57_2_6, s57_2_7, s57_2_8, s57_2_9, s57_2_10, s57_2_11, x57_8, r57_3_l, s57_3_0, x57_9, x57_7, x57_5, x57_11, r57_4_l, s57_4_0, s57_4_1, x57_12, x57_10, x57_4, x57_2, x57_0, b_57, hc, h0, foundE]
theorem found_call {d : Nat} {site : Nat → Nat} {seen : List Nat} {a : AV} {l : List Stone} (ha : IsP a l) (z : Int) : aBack site true seen (thaw (callA E fg 1000 (d + 3)) 57 [a, .int .i64 z] [] 0) = .pure (.int .i64 (foundE l z), []) :=
  aBack_int (rs_ex (found_run ha z))
theorem found_zero {l : List Stone} {z : Int} : foundE l z = 0 ↔ OkP l ∧ 0 ≤ z ∧ z < l.length := by
  unfold foundE
  split
  · rename_i h
    have := check_zero.1 h
    split
    · simp; omega
    · split
      · simp; omega
      · simp [this]; omega
  · rename_i h
    constructor
    · intro h2; exact absurd h2 h
    · intro h2; exact absurd (check_zero.2 h2.1) h

def sidedE (l : List Stone) (z side : Int) : Int := if foundE l z = 0 then (if (side = 1 ∨ side = -1) then (if side < 0 ∧ z = 0 then 21 else 0) else 1) else foundE l z
theorem sided_run {d : Nat} {a : AV} {l : List Stone} (ha : IsP a l) (z side : Int) : rsOf (callA E fg 1000 (d + 4) 46 [a, .int .i64 z, .int .i64 side] [] 0) = some (.int .i64 (sidedE l z side)) := by
  change rsOf (bodyA E (callA E fg 1000 (d + 3)) fg 1000 46 _ _ _) = _
  have hc := fun (site : Nat → Nat) seen => found_call (d := d) (site := site) (seen := seen) ha z
  rcases ha with ⟨rfl, rfl⟩ | ⟨ex, rfl⟩
  · have h0 : ¬ foundE [] z = 0 := fun h => by have := (found_zero.1 h).1.ne; simp at this
    simp only [seqX_normal, seqX_ret, seqX_ite, bindR_some, bindR_ite, regX_some, regX_ite, condX_bool, blockX_ret, ↓gd, fset_cons, Bool.not_true, bodyX_ret, run_nil, run_cons, fget_cons', fput_nil, fput_cons', forget_nil, forget_cons', frame0, gcM, stp, opPick, just, Rd.bind, Rd.run, Rd.opt, upds, resA, resL, aBin, aInt, Nat.reduceAdd, Nat.reduceBEq, Nat.reduceEqDiff, Nat.reduceLeDiff, Int.reduceNeg, ↓reduceIte, reduceCtorEq, decide_eq_true_eq, Nat.zero_add, bne_iff_ne, ne_eq, beq_iff_eq, ite_not, Bool.not_true, not_false_eq_true, putD_some, aCall, snaps, snap, List.append_nil, Option.map_some, List.elem_cons, List.elem_nil, x46_1, r46_0_l, s46_0_0, x46_3, r46_1_l, s46_1_0, s46_1_1, s46_1_2, s46_1_3, x46_7, r46_2_l, s46_2_0, s46_2_1, s46_2_2, x46_10, r46_3_l, s46_3_0, s46_3_1, x46_11, x46_9, x46_13, r46_4_l, s46_4_0, s46_4_1, s46_4_2, s46_4_3, s46_4_4, s46_4_5, s46_4_6, x46_16, r46_5_l, s46_5_0, x46_17, x46_15, x46_19, r46_6_l, s46_6_0, s46_6_1, s46_6_2, s46_6_3, s46_6_4, s46_6_5, s46_6_6, x46_22, r46_7_l, s46_7_0, x46_23, x46_21, x46_24, x46_20, x46_18, x46_14, x46_12, x46_8, x46_6, x46_5, x46_4, x46_2, x46_0, b_46, hc, h0, sidedE]
  · by_cases h0 : foundE l z = 0
    · by_cases h1 : side = 1
      · subst h1
        simp only [seqX_normal, seqX_ret, seqX_ite, bindR_some, bindR_ite, regX_some, regX_ite, condX_bool, blockX_normal, blockX_ret, blockX_ite, ↓gd, fset_cons, Bool.not_true, bodyX_ite, bodyX_ret, run_nil, run_cons, fget_cons', fput_nil, fput_cons', forget_nil, forget_cons', frame0, gcM, stp, opPick, just, Rd.bind, Rd.run, Rd.opt, upds, resA, resL, aBin, aInt, Nat.reduceAdd, Nat.reduceBEq, Nat.reduceEqDiff, Nat.reduceLeDiff, Int.reduceNeg, ↓reduceIte, reduceCtorEq, decide_eq_true_eq, Nat.zero_add, rs_ite, m_int, bne_iff_ne, ne_eq, beq_iff_eq, Bool.not_true, not_true_eq_false, or_false, putD_some, aCall, snaps, snap, List.append_nil, Option.map_some, List.elem_cons, List.elem_nil, x46_1, r46_0_l, s46_0_0, x46_3, r46_1_l, s46_1_0, s46_1_1, s46_1_2, s46_1_3, x46_7, r46_2_l, s46_2_0, s46_2_1, s46_2_2, x46_10, r46_3_l, s46_3_0, s46_3_1, x46_11, x46_9, x46_13, r46_4_l, s46_4_0, s46_4_1, s46_4_2, s46_4_3, s46_4_4, s46_4_5, s46_4_6, x46_16, r46_5_l, s46_5_0, x46_17, x46_15, x46_19, r46_6_l, s46_6_0, s46_6_1, s46_6_2, s46_6_3, s46_6_4, s46_6_5, s46_6_6, x46_22, r46_7_l, s46_7_0, x46_23, x46_21, x46_24, x46_20, x46_18, x46_14, x46_12, x46_8, x46_6, x46_5, x46_26, r46_8_l, s46_8_0, x46_27, x46_25, x46_4, x46_2, x46_0, b_46, hc, h0, sidedE]
        try simp
      · by_cases h2 : side = -1
        · subst h2
          by_cases h4 : z = 0
          · subst h4
            simp only [seqX_normal, seqX_ret, seqX_ite, bindR_some, bindR_ite, regX_some, regX_ite, condX_bool, blockX_normal, blockX_ret, blockX_ite, ↓gd, fset_cons, Bool.not_true, bodyX_ite, bodyX_ret, run_nil, run_cons, fget_cons', fput_nil, fput_cons', forget_nil, forget_cons', frame0, gcM, stp, opPick, just, Rd.bind, Rd.run, Rd.opt, upds, resA, resL, aBin, aInt, Nat.reduceAdd, Nat.reduceBEq, Nat.reduceEqDiff, Nat.reduceLeDiff, Int.reduceNeg, ↓reduceIte, reduceCtorEq, decide_eq_true_eq, Nat.zero_add, rs_ite, m_int, bne_iff_ne, ne_eq, beq_iff_eq, Bool.not_true, not_true_eq_false, not_false_eq_true, or_true, putD_some, and_true, aCall, snaps, snap, List.append_nil, Option.map_some, List.elem_cons, List.elem_nil, x46_1, r46_0_l, s46_0_0, x46_3, r46_1_l, s46_1_0, s46_1_1, s46_1_2, s46_1_3, x46_7, r46_2_l, s46_2_0, s46_2_1, s46_2_2, x46_10, r46_3_l, s46_3_0, s46_3_1, x46_11, x46_9, x46_13, r46_4_l, s46_4_0, s46_4_1, s46_4_2, s46_4_3, s46_4_4, s46_4_5, s46_4_6, x46_16, r46_5_l, s46_5_0, x46_17, x46_15, x46_19, r46_6_l, s46_6_0, s46_6_1, s46_6_2, s46_6_3, s46_6_4, s46_6_5, s46_6_6, x46_22, r46_7_l, s46_7_0, x46_23, x46_21, x46_24, x46_20, x46_18, x46_14, x46_12, x46_8, x46_6, x46_5, x46_26, r46_8_l, s46_8_0, x46_27, x46_25, x46_4, x46_2, x46_0, b_46, hc, h0, sidedE]
            try simp
          · simp only [seqX_normal, seqX_ite, bindR_some, bindR_ite, regX_some, regX_ite, condX_bool, blockX_normal, blockX_ite, ↓gd, fset_cons, Bool.not_true, bodyX_ite, bodyX_ret, run_nil, run_cons, fget_cons', fput_nil, fput_cons', forget_nil, forget_cons', frame0, gcM, stp, opPick, just, Rd.bind, Rd.run, Rd.opt, upds, resA, resL, aBin, aInt, Nat.reduceAdd, Nat.reduceBEq, Nat.reduceEqDiff, Nat.reduceLeDiff, Int.reduceNeg, ↓reduceIte, reduceCtorEq, decide_eq_true_eq, Nat.zero_add, rs_ite, m_int, bne_iff_ne, ne_eq, beq_iff_eq, Bool.not_true, not_true_eq_false, not_false_eq_true, or_true, putD_some, aCall, snaps, snap, List.append_nil, Option.map_some, List.elem_cons, List.elem_nil, x46_1, r46_0_l, s46_0_0, x46_3, r46_1_l, s46_1_0, s46_1_1, s46_1_2, s46_1_3, x46_7, r46_2_l, s46_2_0, s46_2_1, s46_2_2, x46_10, r46_3_l, s46_3_0, s46_3_1, x46_11, x46_9, x46_13, r46_4_l, s46_4_0, s46_4_1, s46_4_2, s46_4_3, s46_4_4, s46_4_5, s46_4_6, x46_16, r46_5_l, s46_5_0, x46_17, x46_15, x46_19, r46_6_l, s46_6_0, s46_6_1, s46_6_2, s46_6_3, s46_6_4, s46_6_5, s46_6_6, x46_22, r46_7_l, s46_7_0, x46_23, x46_21, x46_24, x46_20, x46_18, x46_14, x46_12, x46_8, x46_6, x46_5, x46_26, r46_8_l, s46_8_0, x46_27, x46_25, x46_4, x46_2, x46_0, b_46, hc, h0, sidedE, h4]
            try simp []
        · simp only [seqX_normal, seqX_ret, seqX_ite, bindR_some, bindR_ite, regX_some, regX_ite, condX_bool, blockX_ret, ↓gd, fset_cons, Bool.not_true, bodyX_ret, run_nil, run_cons, fget_cons', fput_nil, fput_cons', forget_nil, forget_cons', frame0, gcM, stp, opPick, just, Rd.bind, Rd.run, Rd.opt, upds, resA, resL, aBin, aInt, Nat.reduceAdd, Nat.reduceBEq, Nat.reduceEqDiff, Nat.reduceLeDiff, Int.reduceNeg, ↓reduceIte, reduceCtorEq, decide_eq_true_eq, Nat.zero_add, bne_iff_ne, ne_eq, beq_iff_eq, Bool.not_true, not_true_eq_false, not_false_eq_true, or_self, putD_some, aCall, snaps, snap, List.append_nil, Option.map_some, List.elem_cons, List.elem_nil, x46_1, r46_0_l, s46_0_0, x46_3, r46_1_l, s46_1_0, s46_1_1, s46_1_2, s46_1_3, x46_7, r46_2_l, s46_2_0, s46_2_1, s46_2_2, x46_10, r46_3_l, s46_3_0, s46_3_1, x46_11, x46_9, x46_13, r46_4_l, s46_4_0, s46_4_1, s46_4_2, s46_4_3, s46_4_4, s46_4_5, s46_4_6, x46_16, r46_5_l, s46_5_0, x46_17, x46_15, x46_19, r46_6_l, s46_6_0, s46_6_1, s46_6_2, s46_6_3, s46_6_4, s46_6_5, s46_6_6, x46_22, r46_7_l, s46_7_0, x46_23, x46_21, x46_24, x46_20, x46_18, x46_14, x46_12, x46_8, x46_6, x46_5, x46_4, x46_2, x46_0, b_46, hc, h0, sidedE, h1, h2, or_self]
    · simp only [seqX_normal, seqX_ret, seqX_ite, bindR_some, bindR_ite, regX_some, regX_ite, condX_bool, blockX_ret, ↓gd, fset_cons, Bool.not_true, bodyX_ret, run_nil, run_cons, fget_cons', fput_nil, fput_cons', forget_nil, forget_cons', frame0, gcM, stp, opPick, just, Rd.bind, Rd.run, Rd.opt, upds, resA, resL, aBin, aInt, Nat.reduceAdd, Nat.reduceBEq, Nat.reduceEqDiff, Nat.reduceLeDiff, Int.reduceNeg, ↓reduceIte, reduceCtorEq, decide_eq_true_eq, Nat.zero_add, bne_iff_ne, ne_eq, beq_iff_eq, ite_not, Bool.not_true, not_false_eq_true, putD_some, aCall, snaps, snap, List.append_nil, Option.map_some, List.elem_cons, List.elem_nil, x46_1, r46_0_l, s46_0_0, x46_3, r46_1_l, s46_1_0, s46_1_1, s46_1_2, s46_1_3, x46_7, r46_2_l, s46_2_0, s46_2_1, s46_2_2, x46_10, r46_3_l, s46_3_0, s46_3_1, x46_11, x46_9, x46_13, r46_4_l, s46_4_0, s46_4_1, s46_4_2, s46_4_3, s46_4_4, s46_4_5, s46_4_6, x46_16, r46_5_l, s46_5_0, x46_17, x46_15, x46_19, r46_6_l, s46_6_0, s46_6_1, s46_6_2, s46_6_3, s46_6_4, s46_6_5, s46_6_6, x46_22, r46_7_l, s46_7_0, x46_23, x46_21, x46_24, x46_20, x46_18, x46_14, x46_12, x46_8, x46_6, x46_5, x46_4, x46_2, x46_0, b_46, hc, h0, sidedE]
theorem sided_call {d : Nat} {site : Nat → Nat} {seen : List Nat} {a : AV} {l : List Stone} (ha : IsP a l) (z side : Int) : aBack site true seen (thaw (callA E fg 1000 (d + 4)) 46 [a, .int .i64 z, .int .i64 side] [] 0) = .pure (.int .i64 (sidedE l z side), []) :=
  aBack_int (rs_ex (sided_run ha z side))
theorem sided_zero {l : List Stone} {z side : Int} (h : sidedE l z side = 0) : OkP l ∧ 0 ≤ z ∧ z < l.length ∧ (side = 1 ∨ side = -1) := by
  unfold sidedE at h
  split at h
  · rename_i h0
    obtain ⟨h1, h2, h3⟩ := found_zero.1 h0
    split at h
    · rename_i h4; exact ⟨h1, h2, h3, h4⟩
    · simp at h
  · rename_i h0; exact absurd h h0

def weighL : List Stone → List Int → Int
  | s :: l, w :: ws => if w < s.least then 1 else if w > s.most then 1 else weighL l ws
  | _, _ => 0
def weighE (l : List Stone) (ws : List Int) : Int := if (ws.length : Int) = l.length then weighL l ws else 5

theorem weigh_loop {C : Callee} {l : List Stone} {ws : List Int} {ex ex' : Bool} (hl : l.length ≤ 5) (hw : ws.length = l.length) : ∀ (m k F : Nat) (H : AHeap), k + m = ws.length → m < F →
    iterA (execA E C (fg 51) 0 36 [] 1000 c51_15) (headA []) F ([(14, .int .i64 k), (13, .int .i64 ws.length), (12, .imm (icells ws) ws.length ex'), (0, .imm (pcells l) l.length ex)], H) =
      if weighL (l.drop k) (ws.drop k) = 0 then some (.exit 0, [(15, .bool false), (14, .int .i64 ws.length), (13, .int .i64 ws.length), (12, .imm (icells ws) ws.length ex'), (0, .imm (pcells l) l.length ex)], []) else some (.ret, [(4, .int .i64 (weighL (l.drop k) (ws.drop k)))], [])
  | 0, k, F + 1, H, hk, _ => by
    obtain rfl : k = ws.length := by omega
    rw [iterA_succ]
    have : weighL (l.drop ws.length) (ws.drop ws.length) = 0 := by rw [List.drop_length]; unfold weighL; split <;> simp_all
    simp only [seqX_normal, seqX_exit, bindR_some, regX_some, condX_bool, run_nil, run_cons, fget_cons', fput_cons', forget_nil, forget_cons', gcM, stp, just, Rd.bind, Rd.run, Rd.opt, upds, aBin, aInt, Nat.reduceEqDiff, Nat.reduceLeDiff, ↓reduceIte, headA_drop, refsF, refsOf, decide_false, putD_some, List.append_nil, List.elem_nil, x51_16, r51_4_l, s51_4_0, x51_19, x51_20, x51_18, x51_17, x51_15, Int.lt_irrefl, decide_false, Bool.false_eq_true, this]
  | m + 1, k, F + 1, H, hk, hF => by
    have hkw : k < ws.length := by omega
    have hkl : k < l.length := by omega
    obtain ⟨w, hw1⟩ := at_ex hkw
    obtain ⟨s, hs1⟩ := at_ex hkl
    have hd : l.drop k = s :: l.drop (k + 1) := by
      rw [List.drop_eq_getElem_cons hkl]
      rw [List.getElem?_eq_getElem hkl] at hs1
      rw [Option.some.inj hs1]
    have hd2 : ws.drop k = w :: ws.drop (k + 1) := by
      rw [List.drop_eq_getElem_cons hkw]
      rw [List.getElem?_eq_getElem hkw] at hw1
      rw [Option.some.inj hw1]
    have ih := weigh_loop (C := C) (ex := ex) (ex' := ex') hl hw m (k + 1) F [] (by omega) (by omega)
    have f2 := pcells_field l k s 2 hs1 (by omega)
    have f3 := pcells_field l k s 3 hs1 (by omega)
    simp only [sc, List.getElem?_cons_succ, List.getElem?_cons_zero] at f2 f3
    rw [iterA_succ]
    simp only [seqX_normal, seqX_ret, seqX_ite, bindR_some, bindR_ite, regX_some, regX_ite, condX_bool, blockX_normal, blockX_ret, blockX_ite, ↓gd, fset_cons, Bool.not_false, run_nil, run_cons, fget_cons', fput_cons', forget_nil, forget_cons', gcM, stp, opPick, just, Rd.bind, Rd.run, Rd.opt, upds, tsz, rdCells, fieldOf, aFieldAddr, aLoad, aIndexAddr, aNum, aBin, aInt, Nat.reduceLT, Nat.reduceBEq, Nat.reduceEqDiff, Nat.reduceLeDiff, ↓reduceIte, reduceCtorEq, decide_eq_true_eq, decide_eq_false_iff_not, ite_not, headA_drop, refsF, refsOf, Bool.not_false, decide_true, putD_some, and_true, Int.natCast_nonneg, Int.ofNat_lt, Int.toNat_natCast, List.append_nil, List.elem_cons, List.elem_nil, List.getElem?_cons_zero, List.getElem?_cons_succ, T_3, T_22, T_23, T_56, x51_16, r51_4_l, s51_4_0, x51_19, x51_20, x51_18, x51_24, r51_5_l, s51_5_0, s51_5_1, s51_5_2, s51_5_3, s51_5_4, x51_26, r51_6_l, s51_6_0, s51_6_1, s51_6_2, s51_6_3, s51_6_4, s51_6_5, s51_6_6, s51_6_7, s51_6_8, s51_6_9, s51_6_10, s51_6_11, s51_6_12, s51_6_13, s51_6_14, s51_6_15, x51_29, r51_7_l, s51_7_0, x51_30, x51_28, x51_31, x51_27, x51_25, x51_23, x51_22, x51_32, r51_8_l, s51_8_0, s51_8_1, x51_21, x51_17, x51_15, hkw, hkl, icells_length, pcells_length, icells_at hw1, Nat.mul_one, f2, f3, wrp_succ (show k < 1000000 by omega), ih, hd, hd2, weighL]
    by_cases h1 : w < s.least <;> by_cases h2 : w > s.most <;> simp [h1, h2]

theorem weighed_run {C : Callee} {l : List Stone} {ex : Bool} {a : AV} {ws : List Int} (h : OkP l) (ha : IsI a ws) : rsOf (bodyA E C fg 1000 51 [.imm (pcells l) l.length ex, a] [] 0) = some (.int .i64 (weighE l ws)) := by
  rcases ha with ⟨rfl, rfl⟩ | ⟨ex', rfl⟩
  · have h0 : ¬ (0 : Int) = l.length := by have := h.ne; omega
    simp only [seqX_normal, seqX_ret, bindR_some, regX_some, condX_bool, bodyX_ret, run_nil, run_cons, fget_cons', fput_cons', forget_nil, forget_cons', frame0, gcM, stp, just, Rd.bind, Rd.run, Rd.opt, upds, resA, resL, aLen, aBuiltin, aBin, aInt, Nat.reduceBEq, Nat.reduceEqDiff, Nat.reduceLeDiff, ↓reduceIte, reduceCtorEq, Nat.zero_add, bne_iff_ne, ne_eq, List.getElem?_toArray, not_false_eq_true, putD_some, Option.map_some, List.elem_cons, List.elem_nil, List.length_nil, List.getElem?_cons_zero, T_22, T_23, x51_1, r51_0_l, s51_0_0, x51_4, r51_1_l, s51_1_0, s51_1_1, s51_1_2, s51_1_3, s51_1_4, x51_7, r51_2_l, s51_2_0, x51_8, x51_6, x51_9, x51_5, x51_3, x51_2, x51_0, b_51, weighE, List.length_nil, Int.natCast_zero, h0, not_false_eq_true]
  · by_cases hw : (ws.length : Int) = l.length
    · have hl := weigh_loop (C := C) (l := l) (ws := ws) (ex := ex) (ex' := ex') h.le (by omega) ws.length 0 1000 [] (by omega) (by have := h.le; omega)
      simp only [List.drop_zero, Int.natCast_zero] at hl
      by_cases h0 : weighL l ws = 0
      · simp only [h0, if_true] at hl
        simp only [hw] at hl
        simp only [seqX_normal, bindR_some, regX_some, condX_bool, blockX_exit, bodyX_ret, run_nil, run_cons, fget_cons', fput_nil, fput_cons', forget_nil, forget_cons', frame0, gcM, stp, just, Rd.bind, Rd.run, Rd.opt, upds, resA, resL, aLen, aBuiltin, aBin, aInt, Nat.reduceBEq, Nat.reduceEqDiff, Nat.reduceLeDiff, ↓reduceIte, reduceCtorEq, Nat.zero_add, bne_iff_ne, ne_eq, List.getElem?_toArray, not_true_eq_false, putD_some, Option.map_some, List.elem_cons, List.elem_nil, List.getElem?_cons_zero, T_22, T_23, x51_1, r51_0_l, s51_0_0, x51_4, r51_1_l, s51_1_0, s51_1_1, s51_1_2, s51_1_3, s51_1_4, x51_7, r51_2_l, s51_2_0, x51_8, x51_6, x51_9, x51_5, x51_3, x51_12, r51_3_l, s51_3_0, s51_3_1, s51_3_2, x51_14, x51_13, x51_11, x51_34, r51_9_l, s51_9_0, x51_35, x51_33, x51_10, x51_2, x51_0, b_51, weighE, hw, h0, hl]
      · simp only [h0, if_false] at hl
        simp only [hw] at hl
        simp only [seqX_normal, seqX_ret, bindR_some, regX_some, condX_bool, blockX_ret, bodyX_ret, run_nil, run_cons, fget_cons', fput_cons', forget_nil, forget_cons', frame0, gcM, stp, just, Rd.bind, Rd.run, Rd.opt, upds, resA, resL, aLen, aBuiltin, aBin, aInt, Nat.reduceBEq, Nat.reduceEqDiff, Nat.reduceLeDiff, ↓reduceIte, reduceCtorEq, Nat.zero_add, bne_iff_ne, ne_eq, List.getElem?_toArray, not_true_eq_false, putD_some, Option.map_some, List.elem_cons, List.elem_nil, List.getElem?_cons_zero, T_22, T_23, x51_1, r51_0_l, s51_0_0, x51_4, r51_1_l, s51_1_0, s51_1_1, s51_1_2, s51_1_3, s51_1_4, x51_7, r51_2_l, s51_2_0, x51_8, x51_6, x51_9, x51_5, x51_3, x51_12, r51_3_l, s51_3_0, s51_3_1, s51_3_2, x51_14, x51_13, x51_11, x51_10, x51_2, x51_0, b_51, weighE, hw, hl]
    · simp only [seqX_normal, seqX_ret, bindR_some, regX_some, condX_bool, bodyX_ret, run_nil, run_cons, fget_cons', fput_cons', forget_nil, forget_cons', frame0, gcM, stp, just, Rd.bind, Rd.run, Rd.opt, upds, resA, resL, aLen, aBuiltin, aBin, aInt, Nat.reduceBEq, Nat.reduceEqDiff, Nat.reduceLeDiff, ↓reduceIte, reduceCtorEq, Nat.zero_add, bne_iff_ne, ne_eq, List.getElem?_toArray, not_false_eq_true, putD_some, Option.map_some, List.elem_cons, List.elem_nil, List.getElem?_cons_zero, T_22, T_23, x51_1, r51_0_l, s51_0_0, x51_4, r51_1_l, s51_1_0, s51_1_1, s51_1_2, s51_1_3, s51_1_4, x51_7, r51_2_l, s51_2_0, x51_8, x51_6, x51_9, x51_5, x51_3, x51_2, x51_0, b_51, weighE, hw]
theorem weighed_call {d : Nat} {site : Nat → Nat} {seen : List Nat} {l : List Stone} {ex : Bool} {a : AV} {ws : List Int} (h : OkP l) (ha : IsI a ws) :
    aBack site true seen (thaw (callA E fg 1000 (d + 1)) 51 [.imm (pcells l) l.length ex, a] [] 0) = .pure (.int .i64 (weighE l ws), []) :=
  aBack_int (rs_ex (weighed_run h ha))
theorem weighL_fits : ∀ {l : List Stone} {ws : List Int}, ws.length = l.length → (weighL l ws = 0 ↔ ∀ (k : Nat) (s : Stone) (w : Int), l[k]? = some s → ws[k]? = some w → s.least ≤ w ∧ w ≤ s.most)
  | [], [], _ => by simp [weighL]
  | [], _ :: _, h => by simp at h
  | _ :: _, [], h => by simp at h
  | a :: l, b :: ws, h => by
    simp only [weighL]
    constructor
    · intro h2 k s w hs hw
      split at h2
      · simp at h2
      · split at h2
        · simp at h2
        · cases k with
          | zero => simp at hs hw; subst hs; subst hw; omega
          | succ k => simp at hs hw; exact (weighL_fits (by simpa using h)).1 h2 k s w hs hw
    · intro h2
      have := h2 0 a b (by simp) (by simp)
      rw [if_neg (by omega), if_neg (by omega)]
      exact (weighL_fits (by simpa using h)).2 fun k s w hs hw => h2 (k + 1) s w (by simpa using hs) (by simpa using hw)
end Go.AM.Yteellnlcligpfaa
