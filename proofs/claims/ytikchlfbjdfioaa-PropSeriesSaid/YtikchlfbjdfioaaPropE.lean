/- Levels, sides and weights are checked; moments. Own work of this project. -/
import Derived.Test.YtikchlfbjdfioaaPropD
namespace Go.AM.Ytikchlfbjdfioaa
open Go Go.AM
set_option maxRecDepth 100000
set_option maxHeartbeats 1000000

/-- A list of integers as it is handed on. -/
def IsI (a : AV) (ws : List Int) : Prop := (a = .nilsl ∧ ws = []) ∨ ∃ ex, a = .imm (icells ws) ws.length ex

def foundE (l : List Stone) (z : Int) : Int := if check l = 0 then (if z < 0 then 2 else if z ≥ l.length then 2 else 0) else check l
theorem found_run {d : Nat} {a : AV} {l : List Stone} (ha : IsP a l) (z : Int) : rsOf (callA E fg 1000 (d + 3) 40 [a, .int .i64 z] [] 0) = some (.int .i64 (foundE l z)) := by
  change rsOf (bodyA E (callA E fg 1000 (d + 2)) fg 1000 40 _ _ _) = _
  have hc := fun (site : Nat → Nat) seen => check_call (d := d) (site := site) (seen := seen) ha
  by_cases h0 : check l = 0
  · have h := check_zero.1 h0
    obtain ⟨ex, rfl⟩ := isP_imm ha h.ne
    by_cases h1 : z < 0 <;> by_cases h2 : z ≥ l.length <;> simp only [seqX_normal, bindR_some, regX_some, condX_bool, ↓gd, fset_cons, Bool.not_false, bodyX_ret, run_nil, run_cons, fget_cons', fput_nil, fput_cons', forget_nil, forget_cons', frame0, gcM, stp, opPick, just, Rd.bind, Rd.run, Rd.opt, upds, resA, resL, aLen, aBuiltin, aBin, aInt, Nat.reduceBEq, Nat.reduceEqDiff, Nat.reduceLeDiff, ↓reduceIte, reduceCtorEq, Nat.zero_add, beq_iff_eq, List.getElem?_toArray, Bool.not_false, decide_true, decide_false, putD_some, aCall, snaps, snap, List.append_nil, Option.map_some, List.elem_cons, List.elem_nil, List.getElem?_cons_zero, T_27, x40_1, r40_0_l, s40_0_0, x40_3, r40_1_l, s40_1_0, s40_1_1, s40_1_2, x40_6, r40_2_l, s40_2_0, s40_2_1, s40_2_2, s40_2_3, s40_2_4, s40_2_5, s40_2_6, s40_2_7, s40_2_8, s40_2_9, s40_2_10, s40_2_11, x40_8, r40_3_l, s40_3_0, x40_9, x40_7, x40_5, x40_11, r40_4_l, s40_4_0, s40_4_1, x40_12, x40_10, x40_4, x40_2, x40_0, b_40, hc, h0, foundE, h1, h2]
  · rcases ha with ⟨rfl, rfl⟩ | ⟨ex, rfl⟩ <;> simp only [seqX_normal, bindR_some, regX_some, condX_bool, ↓gd, fset_cons, Bool.not_true, bodyX_ret, run_nil, run_cons, fget_cons', fput_nil, fput_cons', forget_nil, forget_cons', frame0, gcM, stp, opPick, just, Rd.bind, Rd.run, Rd.opt, upds, resA, resL, aBin, aInt, Nat.reduceBEq, Nat.reduceEqDiff, Nat.reduceLeDiff, ↓reduceIte, reduceCtorEq, Nat.zero_add, beq_iff_eq, Bool.not_true, putD_some, aCall, snaps, snap, List.append_nil, Option.map_some, List.elem_cons, List.elem_nil, x40_1, r40_0_l, s40_0_0, x40_3, r40_1_l, s40_1_0, s40_1_1, s40_1_2, x40_6, r40_2_l, s40_2_0, s40_2_1, s40_2_2, s40_2_3, s40_2_4, s40_2_5, s40_2_6, s40_2_7, s40_2_8, s40_2_9, s40_2_10, s40_2_11, x40_8, r40_3_l, s40_3_0, x40_9, x40_7, x40_5, x40_11, r40_4_l, s40_4_0, s40_4_1, x40_12, x40_10, x40_4, x40_2, x40_0, b_40, hc, h0, foundE]
theorem found_call {d : Nat} {site : Nat → Nat} {seen : List Nat} {a : AV} {l : List Stone} (ha : IsP a l) (z : Int) : aBack site true seen (thaw (callA E fg 1000 (d + 3)) 40 [a, .int .i64 z] [] 0) = .pure (.int .i64 (foundE l z), []) :=
  aBack_int (rs_ex (found_run ha z))
theorem found_zero {l : List Stone} {z : Int} : foundE l z = 0 ↔ OkP l ∧ 0 ≤ z ∧ z < l.length := by
  unfold foundE
  split
  · rename_i h
    have := check_zero.1 h
    split
    · simp; omega
    · split
      · simp; omega
      · simp [this]; omega
  · rename_i h
    constructor
    · intro h2; exact absurd h2 h
    · intro h2; exact absurd (check_zero.2 h2.1) h

def sidedE (l : List Stone) (z side : Int) : Int := if foundE l z = 0 then (if (side = 1 ∨ side = -1) then (if side < 0 ∧ z = 0 then 21 else 0) else 1) else foundE l z
theorem sided_run {d : Nat} {a : AV} {l : List Stone} (ha : IsP a l) (z side : Int) : rsOf (callA E fg 1000 (d + 4) 35 [a, .int .i64 z, .int .i64 side] [] 0) = some (.int .i64 (sidedE l z side)) := by
  change rsOf (bodyA E (callA E fg 1000 (d + 3)) fg 1000 35 _ _ _) = _
  have hc := fun (site : Nat → Nat) seen => found_call (d := d) (site := site) (seen := seen) ha z
  rcases ha with ⟨rfl, rfl⟩ | ⟨ex, rfl⟩
  · have h0 : ¬ foundE [] z = 0 := fun h => by have := (found_zero.1 h).1.ne; simp at this
    simp only [seqX_normal, seqX_ret, seqX_ite, bindR_some, bindR_ite, regX_some, regX_ite, condX_bool, blockX_ret, ↓gd, fset_cons, Bool.not_true, bodyX_ret, run_nil, run_cons, fget_cons', fput_nil, fput_cons', forget_nil, forget_cons', frame0, gcM, stp, opPick, just, Rd.bind, Rd.run, Rd.opt, upds, resA, resL, aBin, aInt, Nat.reduceAdd, Nat.reduceBEq, Nat.reduceEqDiff, Nat.reduceLeDiff, Int.reduceNeg, ↓reduceIte, reduceCtorEq, decide_eq_true_eq, Nat.zero_add, bne_iff_ne, ne_eq, beq_iff_eq, ite_not, Bool.not_true, not_false_eq_true, putD_some, aCall, snaps, snap, List.append_nil, Option.map_some, List.elem_cons, List.elem_nil, x35_1, r35_0_l, s35_0_0, x35_3, r35_1_l, s35_1_0, s35_1_1, s35_1_2, s35_1_3, x35_7, r35_2_l, s35_2_0, s35_2_1, s35_2_2, x35_10, r35_3_l, s35_3_0, s35_3_1, x35_11, x35_9, x35_13, r35_4_l, s35_4_0, s35_4_1, s35_4_2, s35_4_3, s35_4_4, s35_4_5, s35_4_6, x35_16, r35_5_l, s35_5_0, x35_17, x35_15, x35_19, r35_6_l, s35_6_0, s35_6_1, s35_6_2, s35_6_3, s35_6_4, s35_6_5, s35_6_6, x35_22, r35_7_l, s35_7_0, x35_23, x35_21, x35_24, x35_20, x35_18, x35_14, x35_12, x35_8, x35_6, x35_5, x35_4, x35_2, x35_0, b_35, hc, h0, sidedE]
  · by_cases h0 : foundE l z = 0
    · by_cases h1 : side = 1
      · subst h1
        simp only [seqX_normal, seqX_ret, seqX_ite, bindR_some, bindR_ite, regX_some, regX_ite, condX_bool, blockX_normal, blockX_ret, blockX_ite, ↓gd, fset_cons, Bool.not_true, bodyX_ite, bodyX_ret, run_nil, run_cons, fget_cons', fput_nil, fput_cons', forget_nil, forget_cons', frame0, gcM, stp, opPick, just, Rd.bind, Rd.run, Rd.opt, upds, resA, resL, aBin, aInt, Nat.reduceAdd, Nat.reduceBEq, Nat.reduceEqDiff, Nat.reduceLeDiff, Int.reduceNeg, ↓reduceIte, reduceCtorEq, decide_eq_true_eq, Nat.zero_add, rs_ite, m_int, bne_iff_ne, ne_eq, beq_iff_eq, Bool.not_true, not_true_eq_false, or_false, putD_some, aCall, snaps, snap, List.append_nil, Option.map_some, List.elem_cons, List.elem_nil, x35_1, r35_0_l, s35_0_0, x35_3, r35_1_l, s35_1_0, s35_1_1, s35_1_2, s35_1_3, x35_7, r35_2_l, s35_2_0, s35_2_1, s35_2_2, x35_10, r35_3_l, s35_3_0, s35_3_1, x35_11, x35_9, x35_13, r35_4_l, s35_4_0, s35_4_1, s35_4_2, s35_4_3, s35_4_4, s35_4_5, s35_4_6, x35_16, r35_5_l, s35_5_0, x35_17, x35_15, x35_19, r35_6_l, s35_6_0, s35_6_1, s35_6_2, s35_6_3, s35_6_4, s35_6_5, s35_6_6, x35_22, r35_7_l, s35_7_0, x35_23, x35_21, x35_24, x35_20, x35_18, x35_14, x35_12, x35_8, x35_6, x35_5, x35_26, r35_8_l, s35_8_0, x35_27, x35_25, x35_4, x35_2, x35_0, b_35, hc, h0, sidedE]
        try simp
      · by_cases h2 : side = -1
        · subst h2
          by_cases h4 : z = 0
          · subst h4
            simp only [seqX_normal, seqX_ret, seqX_ite, bindR_some, bindR_ite, regX_some, regX_ite, condX_bool, blockX_normal, blockX_ret, blockX_ite, ↓gd, fset_cons, Bool.not_true, bodyX_ite, bodyX_ret, run_nil, run_cons, fget_cons', fput_nil, fput_cons', forget_nil, forget_cons', frame0, gcM, stp, opPick, just, Rd.bind, Rd.run, Rd.opt, upds, resA, resL, aBin, aInt, Nat.reduceAdd, Nat.reduceBEq, Nat.reduceEqDiff, Nat.reduceLeDiff, Int.reduceNeg, ↓reduceIte, reduceCtorEq, decide_eq_true_eq, Nat.zero_add, rs_ite, m_int, bne_iff_ne, ne_eq, beq_iff_eq, Bool.not_true, not_true_eq_false, not_false_eq_true, or_true, putD_some, and_true, aCall, snaps, snap, List.append_nil, Option.map_some, List.elem_cons, List.elem_nil, x35_1, r35_0_l, s35_0_0, x35_3, r35_1_l, s35_1_0, s35_1_1, s35_1_2, s35_1_3, x35_7, r35_2_l, s35_2_0, s35_2_1, s35_2_2, x35_10, r35_3_l, s35_3_0, s35_3_1, x35_11, x35_9, x35_13, r35_4_l, s35_4_0, s35_4_1, s35_4_2, s35_4_3, s35_4_4, s35_4_5, s35_4_6, x35_16, r35_5_l, s35_5_0, x35_17, x35_15, x35_19, r35_6_l, s35_6_0, s35_6_1, s35_6_2, s35_6_3, s35_6_4, s35_6_5, s35_6_6, x35_22, r35_7_l, s35_7_0, x35_23, x35_21, x35_24, x35_20, x35_18, x35_14, x35_12, x35_8, x35_6, x35_5, x35_26, r35_8_l, s35_8_0, x35_27, x35_25, x35_4, x35_2, x35_0, b_35, hc, h0, sidedE]
            try simp
          · simp only [seqX_normal, seqX_ite, bindR_some, bindR_ite, regX_some, regX_ite, condX_bool, blockX_normal, blockX_ite, ↓gd, fset_cons, Bool.not_true, bodyX_ite, bodyX_ret, run_nil, run_cons, fget_cons', fput_nil, fput_cons', forget_nil, forget_cons', frame0, gcM, stp, opPick, just, Rd.bind, Rd.run, Rd.opt, upds, resA, resL, aBin, aInt, Nat.reduceAdd, Nat.reduceBEq, Nat.reduceEqDiff, Nat.reduceLeDiff, Int.reduceNeg, ↓reduceIte, reduceCtorEq, decide_eq_true_eq, Nat.zero_add, rs_ite, m_int, bne_iff_ne, ne_eq, beq_iff_eq, Bool.not_true, not_true_eq_false, not_false_eq_true, or_true, putD_some, aCall, snaps, snap, List.append_nil, Option.map_some, List.elem_cons, List.elem_nil, x35_1, r35_0_l, s35_0_0, x35_3, r35_1_l, s35_1_0, s35_1_1, s35_1_2, s35_1_3, x35_7, r35_2_l, s35_2_0, s35_2_1, s35_2_2, x35_10, r35_3_l, s35_3_0, s35_3_1, x35_11, x35_9, x35_13, r35_4_l, s35_4_0, s35_4_1, s35_4_2, s35_4_3, s35_4_4, s35_4_5, s35_4_6, x35_16, r35_5_l, s35_5_0, x35_17, x35_15, x35_19, r35_6_l, s35_6_0, s35_6_1, s35_6_2, s35_6_3, s35_6_4, s35_6_5, s35_6_6, x35_22, r35_7_l, s35_7_0, x35_23, x35_21, x35_24, x35_20, x35_18, x35_14, x35_12, x35_8, x35_6, x35_5, x35_26, r35_8_l, s35_8_0, x35_27, x35_25, x35_4, x35_2, x35_0, b_35, hc, h0, sidedE, h4]
            try simp []
        · simp only [seqX_normal, seqX_ret, seqX_ite, bindR_some, bindR_ite, regX_some, regX_ite, condX_bool, blockX_ret, ↓gd, fset_cons, Bool.not_true, bodyX_ret, run_nil, run_cons, fget_cons', fput_nil, fput_cons', forget_nil, forget_cons', frame0, gcM, stp, opPick, just, Rd.bind, Rd.run, Rd.opt, upds, resA, resL, aBin, aInt, Nat.reduceAdd, Nat.reduceBEq, Nat.reduceEqDiff, Nat.reduceLeDiff, Int.reduceNeg, ↓reduceIte, reduceCtorEq, decide_eq_true_eq, Nat.zero_add, bne_iff_ne, ne_eq, beq_iff_eq, Bool.not_true, not_true_eq_false, not_false_eq_true, or_self, putD_some, aCall, snaps, snap, List.append_nil, Option.map_some, List.elem_cons, List.elem_nil, x35_1, r35_0_l, s35_0_0, x35_3, r35_1_l, s35_1_0, s35_1_1, s35_1_2, s35_1_3, x35_7, r35_2_l, s35_2_0, s35_2_1, s35_2_2, x35_10, r35_3_l, s35_3_0, s35_3_1, x35_11, x35_9, x35_13, r35_4_l, s35_4_0, s35_4_1, s35_4_2, s35_4_3, s35_4_4, s35_4_5, s35_4_6, x35_16, r35_5_l, s35_5_0, x35_17, x35_15, x35_19, r35_6_l, s35_6_0, s35_6_1, s35_6_2, s35_6_3, s35_6_4, s35_6_5, s35_6_6, x35_22, r35_7_l, s35_7_0, x35_23, x35_21, x35_24, x35_20, x35_18, x35_14, x35_12, x35_8, x35_6, x35_5, x35_4, x35_2, x35_0, b_35, hc, h0, sidedE, h1, h2, or_self]
    · simp only [seqX_normal, seqX_ret, seqX_ite, bindR_some, bindR_ite, regX_some, regX_ite, condX_bool, blockX_ret, ↓gd, fset_cons, Bool.not_true, bodyX_ret, run_nil, run_cons, fget_cons', fput_nil, fput_cons', forget_nil, forget_cons', frame0, gcM, stp, opPick, just, Rd.bind, Rd.run, Rd.opt, upds, resA, resL, aBin, aInt, Nat.reduceAdd, Nat.reduceBEq, Nat.reduceEqDiff, Nat.reduceLeDiff, Int.reduceNeg, ↓reduceIte, reduceCtorEq, decide_eq_true_eq, Nat.zero_add, bne_iff_ne, ne_eq, beq_iff_eq, ite_not, Bool.not_true, not_false_eq_true, putD_some, aCall, snaps, snap, List.append_nil, Option.map_some, List.elem_cons, List.elem_nil, x35_1, r35_0_l, s35_0_0, x35_3, r35_1_l, s35_1_0, s35_1_1, s35_1_2, s35_1_3, x35_7, r35_2_l, s35_2_0, s35_2_1, s35_2_2, x35_10, r35_3_l, s35_3_0, s35_3_1, x35_11, x35_9, x35_13, r35_4_l, s35_4_0, s35_4_1, s35_4_2, s35_4_3, s35_4_4, s35_4_5, s35_4_6, x35_16, r35_5_l, s35_5_0, x35_17, x35_15, x35_19, r35_6_l, s35_6_0, s35_6_1, s35_6_2, s35_6_3, s35_6_4, s35_6_5, s35_6_6, x35_22, r35_7_l, s35_7_0, x35_23, x35_21, x35_24, x35_20, x35_18, x35_14, x35_12, x35_8, x35_6, x35_5, x35_4, x35_2, x35_0, b_35, hc, h0, sidedE]
theorem sided_call {d : Nat} {site : Nat → Nat} {seen : List Nat} {a : AV} {l : List Stone} (ha : IsP a l) (z side : Int) : aBack site true seen (thaw (callA E fg 1000 (d + 4)) 35 [a, .int .i64 z, .int .i64 side] [] 0) = .pure (.int .i64 (sidedE l z side), []) :=
  aBack_int (rs_ex (sided_run ha z side))
theorem sided_zero {l : List Stone} {z side : Int} (h : sidedE l z side = 0) : OkP l ∧ 0 ≤ z ∧ z < l.length ∧ (side = 1 ∨ side = -1) := by
  unfold sidedE at h
  split at h
  · rename_i h0
    obtain ⟨h1, h2, h3⟩ := found_zero.1 h0
    split at h
    · rename_i h4; exact ⟨h1, h2, h3, h4⟩
    · simp at h
  · rename_i h0; exact absurd h h0

def weighL : List Stone → List Int → Int
  | s :: l, w :: ws => if w < s.least then 1 else if w > s.most then 1 else weighL l ws
  | _, _ => 0
def weighE (l : List Stone) (ws : List Int) : Int := if (ws.length : Int) = l.length then weighL l ws else 5

theorem weigh_loop {C : Callee} {l : List Stone} {ws : List Int} {ex ex' : Bool} (hl : l.length ≤ 5) (hw : ws.length = l.length) : ∀ (m k F : Nat) (H : AHeap), k + m = ws.length → m < F →
    iterA (execA E C (fg 38) 0 36 [] 1000 c38_15) (headA []) F ([(14, .int .i64 k), (13, .int .i64 ws.length), (12, .imm (icells ws) ws.length ex'), (0, .imm (pcells l) l.length ex)], H) =
      if weighL (l.drop k) (ws.drop k) = 0 then some (.exit 0, [(15, .bool false), (14, .int .i64 ws.length), (13, .int .i64 ws.length), (12, .imm (icells ws) ws.length ex'), (0, .imm (pcells l) l.length ex)], []) else some (.ret, [(4, .int .i64 (weighL (l.drop k) (ws.drop k)))], [])
  | 0, k, F + 1, H, hk, _ => by
    obtain rfl : k = ws.length := by omega
    rw [iterA_succ]
    have : weighL (l.drop ws.length) (ws.drop ws.length) = 0 := by rw [List.drop_length]; unfold weighL; split <;> simp_all
    simp only [seqX_normal, seqX_exit, bindR_some, regX_some, condX_bool, run_nil, run_cons, fget_cons', fput_cons', forget_nil, forget_cons', gcM, stp, just, Rd.bind, Rd.run, Rd.opt, upds, aBin, aInt, Nat.reduceEqDiff, Nat.reduceLeDiff, ↓reduceIte, headA_drop, refsF, refsOf, decide_false, putD_some, List.append_nil, List.elem_nil, x38_16, r38_4_l, s38_4_0, x38_19, x38_20, x38_18, x38_17, x38_15, Int.lt_irrefl, decide_false, Bool.false_eq_true, this]
  | m + 1, k, F + 1, H, hk, hF => by
    have hkw : k < ws.length := by omega
    have hkl : k < l.length := by omega
    obtain ⟨w, hw1⟩ := at_ex hkw
    obtain ⟨s, hs1⟩ := at_ex hkl
    have hd : l.drop k = s :: l.drop (k + 1) := by
      rw [List.drop_eq_getElem_cons hkl]
      rw [List.getElem?_eq_getElem hkl] at hs1
      rw [Option.some.inj hs1]
    have hd2 : ws.drop k = w :: ws.drop (k + 1) := by
      rw [List.drop_eq_getElem_cons hkw]
      rw [List.getElem?_eq_getElem hkw] at hw1
      rw [Option.some.inj hw1]
    have ih := weigh_loop (C := C) (ex := ex) (ex' := ex') hl hw m (k + 1) F [] (by omega) (by omega)
    have f2 := pcells_field l k s 2 hs1 (by omega)
    have f3 := pcells_field l k s 3 hs1 (by omega)
    simp only [sc, List.getElem?_cons_succ, List.getElem?_cons_zero] at f2 f3
    rw [iterA_succ]
    simp only [seqX_normal, seqX_ret, seqX_ite, bindR_some, bindR_ite, regX_some, regX_ite, condX_bool, blockX_normal, blockX_ret, blockX_ite, ↓gd, fset_cons, Bool.not_false, run_nil, run_cons, fget_cons', fput_cons', forget_nil, forget_cons', gcM, stp, opPick, just, Rd.bind, Rd.run, Rd.opt, upds, tsz, rdCells, fieldOf, aFieldAddr, aLoad, aIndexAddr, aNum, aBin, aInt, Nat.reduceLT, Nat.reduceBEq, Nat.reduceEqDiff, Nat.reduceLeDiff, ↓reduceIte, reduceCtorEq, decide_eq_true_eq, decide_eq_false_iff_not, ite_not, headA_drop, refsF, refsOf, Bool.not_false, decide_true, putD_some, and_true, Int.natCast_nonneg, Int.ofNat_lt, Int.toNat_natCast, List.append_nil, List.elem_cons, List.elem_nil, List.getElem?_cons_zero, List.getElem?_cons_succ, T_3, T_27, T_36, T_44, x38_16, r38_4_l, s38_4_0, x38_19, x38_20, x38_18, x38_24, r38_5_l, s38_5_0, s38_5_1, s38_5_2, s38_5_3, s38_5_4, x38_26, r38_6_l, s38_6_0, s38_6_1, s38_6_2, s38_6_3, s38_6_4, s38_6_5, s38_6_6, s38_6_7, s38_6_8, s38_6_9, s38_6_10, s38_6_11, s38_6_12, s38_6_13, s38_6_14, s38_6_15, x38_29, r38_7_l, s38_7_0, x38_30, x38_28, x38_31, x38_27, x38_25, x38_23, x38_22, x38_32, r38_8_l, s38_8_0, s38_8_1, x38_21, x38_17, x38_15, hkw, hkl, icells_length, pcells_length, icells_at hw1, Nat.mul_one, f2, f3, wrp_succ (show k < 1000000 by omega), ih, hd, hd2, weighL]
    by_cases h1 : w < s.least <;> by_cases h2 : w > s.most <;> simp [h1, h2]

theorem weighed_run {C : Callee} {l : List Stone} {ex : Bool} {a : AV} {ws : List Int} (h : OkP l) (ha : IsI a ws) : rsOf (bodyA E C fg 1000 38 [.imm (pcells l) l.length ex, a] [] 0) = some (.int .i64 (weighE l ws)) := by
  rcases ha with ⟨rfl, rfl⟩ | ⟨ex', rfl⟩
  · have h0 : ¬ (0 : Int) = l.length := by have := h.ne; omega
    simp only [seqX_normal, seqX_ret, bindR_some, regX_some, condX_bool, bodyX_ret, run_nil, run_cons, fget_cons', fput_cons', forget_nil, forget_cons', frame0, gcM, stp, just, Rd.bind, Rd.run, Rd.opt, upds, resA, resL, aLen, aBuiltin, aBin, aInt, Nat.reduceBEq, Nat.reduceEqDiff, Nat.reduceLeDiff, ↓reduceIte, reduceCtorEq, Nat.zero_add, bne_iff_ne, ne_eq, List.getElem?_toArray, not_false_eq_true, putD_some, Option.map_some, List.elem_cons, List.elem_nil, List.length_nil, List.getElem?_cons_zero, T_27, T_36, x38_1, r38_0_l, s38_0_0, x38_4, r38_1_l, s38_1_0, s38_1_1, s38_1_2, s38_1_3, s38_1_4, x38_7, r38_2_l, s38_2_0, x38_8, x38_6, x38_9, x38_5, x38_3, x38_2, x38_0, b_38, weighE, List.length_nil, Int.natCast_zero, h0, not_false_eq_true]
  · by_cases hw : (ws.length : Int) = l.length
    · have hl := weigh_loop (C := C) (l := l) (ws := ws) (ex := ex) (ex' := ex') h.le (by omega) ws.length 0 1000 [] (by omega) (by have := h.le; omega)
      simp only [List.drop_zero, Int.natCast_zero] at hl
      by_cases h0 : weighL l ws = 0
      · simp only [h0, if_true] at hl
        simp only [hw] at hl
        simp only [seqX_normal, bindR_some, regX_some, condX_bool, blockX_exit, bodyX_ret, run_nil, run_cons, fget_cons', fput_nil, fput_cons', forget_nil, forget_cons', frame0, gcM, stp, just, Rd.bind, Rd.run, Rd.opt, upds, resA, resL, aLen, aBuiltin, aBin, aInt, Nat.reduceBEq, Nat.reduceEqDiff, Nat.reduceLeDiff, ↓reduceIte, reduceCtorEq, Nat.zero_add, bne_iff_ne, ne_eq, List.getElem?_toArray, not_true_eq_false, putD_some, Option.map_some, List.elem_cons, List.elem_nil, List.getElem?_cons_zero, T_27, T_36, x38_1, r38_0_l, s38_0_0, x38_4, r38_1_l, s38_1_0, s38_1_1, s38_1_2, s38_1_3, s38_1_4, x38_7, r38_2_l, s38_2_0, x38_8, x38_6, x38_9, x38_5, x38_3, x38_12, r38_3_l, s38_3_0, s38_3_1, s38_3_2, x38_14, x38_13, x38_11, x38_34, r38_9_l, s38_9_0, x38_35, x38_33, x38_10, x38_2, x38_0, b_38, weighE, hw, h0, hl]
      · simp only [h0, if_false] at hl
        simp only [hw] at hl
        simp only [seqX_normal, seqX_ret, bindR_some, regX_some, condX_bool, blockX_ret, bodyX_ret, run_nil, run_cons, fget_cons', fput_cons', forget_nil, forget_cons', frame0, gcM, stp, just, Rd.bind, Rd.run, Rd.opt, upds, resA, resL, aLen, aBuiltin, aBin, aInt, Nat.reduceBEq, Nat.reduceEqDiff, Nat.reduceLeDiff, ↓reduceIte, reduceCtorEq, Nat.zero_add, bne_iff_ne, ne_eq, List.getElem?_toArray, not_true_eq_false, putD_some, Option.map_some, List.elem_cons, List.elem_nil, List.getElem?_cons_zero, T_27, T_36, x38_1, r38_0_l, s38_0_0, x38_4, r38_1_l, s38_1_0, s38_1_1, s38_1_2, s38_1_3, s38_1_4, x38_7, r38_2_l, s38_2_0, x38_8, x38_6, x38_9, x38_5, x38_3, x38_12, r38_3_l, s38_3_0, s38_3_1, s38_3_2, x38_14, x38_13, x38_11, x38_10, x38_2, x38_0, b_38, weighE, hw, hl]
    · simp only [seqX_normal, seqX_ret, bindR_some, regX_some, condX_bool, bodyX_ret, run_nil, run_cons, fget_cons', fput_cons', forget_nil, forget_cons', frame0, gcM, stp, just, Rd.bind, Rd.run, Rd.opt, upds, resA, resL, aLen, aBuiltin, aBin, aInt, Nat.reduceBEq, Nat.reduceEqDiff, Nat.reduceLeDiff, ↓reduceIte, reduceCtorEq, Nat.zero_add, bne_iff_ne, ne_eq, List.getElem?_toArray, not_false_eq_true, putD_some, Option.map_some, List.elem_cons, List.elem_nil, List.getElem?_cons_zero, T_27, T_36, x38_1, r38_0_l, s38_0_0, x38_4, r38_1_l, s38_1_0, s38_1_1, s38_1_2, s38_1_3, s38_1_4, x38_7, r38_2_l, s38_2_0, x38_8, x38_6, x38_9, x38_5, x38_3, x38_2, x38_0, b_38, weighE, hw]
theorem weighed_call {d : Nat} {site : Nat → Nat} {seen : List Nat} {l : List Stone} {ex : Bool} {a : AV} {ws : List Int} (h : OkP l) (ha : IsI a ws) :
    aBack site true seen (thaw (callA E fg 1000 (d + 1)) 38 [.imm (pcells l) l.length ex, a] [] 0) = .pure (.int .i64 (weighE l ws), []) :=
  aBack_int (rs_ex (weighed_run h ha))
theorem weighL_fits : ∀ {l : List Stone} {ws : List Int}, ws.length = l.length → (weighL l ws = 0 ↔ ∀ (k : Nat) (s : Stone) (w : Int), l[k]? = some s → ws[k]? = some w → s.least ≤ w ∧ w ≤ s.most)
  | [], [], _ => by simp [weighL]
  | [], _ :: _, h => by simp at h
  | _ :: _, [], h => by simp at h
  | a :: l, b :: ws, h => by
    simp only [weighL]
    constructor
    · intro h2 k s w hs hw
      split at h2
      · simp at h2
      · split at h2
        · simp at h2
        · cases k with
          | zero => simp at hs hw; subst hs; subst hw; omega
          | succ k => simp at hs hw; exact (weighL_fits (by simpa using h)).1 h2 k s w hs hw
    · intro h2
      have := h2 0 a b (by simp) (by simp)
      rw [if_neg (by omega), if_neg (by omega)]
      exact (weighL_fits (by simpa using h)).2 fun k s w hs hw => h2 (k + 1) s w (by simpa using hs) (by simpa using hw)
end Go.AM.Ytikchlfbjdfioaa
