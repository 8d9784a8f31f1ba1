/- Edges, how far stones are beyond them, whether levels may tip. Own work of this project. -/
import Derived.Test.YtikchlfbjdfioaaPropB
namespace Go.AM.Ytikchlfbjdfioaa
open Go Go.AM
set_option maxRecDepth 100000
set_option maxHeartbeats 1000000

def leftE (l : List Stone) : Nat → Int
  | 0 => -268435456
  | k + 1 => (l.getD k default).pos - (l.getD k default).half
def rightE (l : List Stone) : Nat → Int
  | 0 => 0
  | k + 1 => (l.getD k default).pos + (l.getD k default).half
theorem edge_bounds {l : List Stone} (h : OkP l) {k : Nat} (hk : k ≤ l.length) : -268435456 ≤ leftE l k ∧ leftE l k ≤ 37748736 ∧ -37748736 ≤ rightE l k ∧ rightE l k ≤ 37748736 := by
  cases k with
  | zero => simp [leftE, rightE]
  | succ k =>
    obtain ⟨s, hs⟩ := at_ex (show k < l.length by omega)
    obtain ⟨h1, h2, p1, p2, _, _, _⟩ := h.fits k s hs
    simp only [leftE, rightE, List.getD_eq_getElem?_getD, hs, Option.getD_some]
    omega

theorem edges_run {C : Callee} {l : List Stone} {ex : Bool} (h : OkP l) {k : Nat} (hk : k ≤ l.length) : rsOf (bodyA E C fg 1000 60 [.imm (pcells l) l.length ex, .int .i64 k] [] 0) = some (.tup [.int .i64 (leftE l k), .int .i64 (rightE l k)]) := by
  cases k with
  | zero => simp only [seqX_normal, seqX_ret, bindR_some, regX_some, condX_bool, bodyX_ret, run_nil, run_cons, fget_cons', fput_cons', forget_nil, forget_cons', frame0, gcM, stp, just, Rd.bind, Rd.run, Rd.opt, upds, resA, resL, aBin, aInt, Nat.reduceBEq, Nat.reduceEqDiff, Nat.reduceLeDiff, Int.reduceNeg, ↓reduceIte, reduceCtorEq, Nat.zero_add, beq_iff_eq, putD_some, Option.map_some, List.elem_cons, List.elem_nil, x60_1, r60_0_l, s60_0_0, s60_0_1, x60_4, r60_1_l, s60_1_0, s60_1_1, x60_7, r60_2_l, s60_2_0, s60_2_1, x60_8, x60_6, x60_9, x60_5, x60_3, x60_2, x60_0, b_60, leftE, rightE, Int.natCast_zero]
  | succ k =>
    have hkl : k < l.length := by omega
    obtain ⟨s, hs⟩ := at_ex hkl
    obtain ⟨h1, h2, p1, p2, _, _, _⟩ := h.fits k s hs
    have e0 : ((k + 1 : Nat) : Int) ≠ 0 := by omega
    have e1 : wrp .i64 (((k + 1 : Nat) : Int) - 1) = (k : Int) := by rw [wrp64 (by have := h.le; omega)]; omega
    have e2 : wrp .i64 (s.pos - s.half) = s.pos - s.half := wrp64 (by omega)
    have e3 : wrp .i64 (s.pos + s.half) = s.pos + s.half := wrp64 (by omega)
    have f2 : (l.getD k default) = s := by simp [hs]
    simp only [seqX_normal, bindR_some, regX_some, condX_bool, Bool.not_true, Bool.not_false, bodyX_ret, run_nil, run_cons, fget_cons', fput_nil, fput_cons', forget_nil, forget_cons', hget_nil', hget_cons', hset_nil', hset_cons', frame0, gcM, stp, opBox, just, Rd.bind, Rd.run, Rd.opt, upds, acells, zeroCells, tsz, rdCells, fieldOf, aFieldAddr, aLoad, aStore, opStore, resA, resL, fresh, aIndexAddr, aNum, aBin, aInt, putC, Nat.reduceAdd, Nat.reduceLT, Nat.reduceBEq, Nat.reduceEqDiff, Nat.reduceLeDiff, Int.reduceNeg, ↓reduceIte, reduceCtorEq, liveBlk_eq, Nat.zero_add, Nat.add_zero, beq_iff_eq, List.nil_append, rtX_some, addT_some, drX_some, runT_nil, runT_cons, neat_eq, descF_nil', descF_cons', ascH_nil', ascH_cons', stpT, Rd.foot, writing, touching, Tr.empty, dynPairs, apartT, disj, List.isEmpty_nil, List.isEmpty_cons, List.map_nil, Bool.not_false, Bool.not_true, Bool.true_or, Bool.or_false, Bool.and_true, Bool.true_and, Bool.and_self, decide_true, frz, putD_some, putD_none, and_true, Int.natCast_nonneg, Int.ofNat_lt, Int.toNat_natCast, snaps, snap, List.append_nil, Option.map_some, List.elem_cons, List.elem_nil, List.length_cons, List.length_nil, List.getElem?_cons_zero, List.getElem?_cons_succ, List.set_cons_zero, List.set_cons_succ, T_3, T_27, T_44, x60_1, r60_0_l, s60_0_0, s60_0_1, x60_4, r60_1_l, s60_1_0, s60_1_1, x60_7, r60_2_l, s60_2_0, s60_2_1, x60_8, x60_6, x60_9, x60_5, x60_3, x60_11, r60_3_l, s60_3_0, s60_3_1, s60_3_2, s60_3_3, s60_3_4, s60_3_5, s60_3_6, x60_13, r60_4_l, r60_4_dr, r60_4_an, s60_4_0, s60_4_1, s60_4_2, s60_4_3, s60_4_4, s60_4_5, s60_4_6, s60_4_7, s60_4_8, s60_4_9, s60_4_10, s60_4_11, x60_14, x60_12, x60_10, x60_2, x60_0, b_60, leftE, rightE, e0, e1, hkl, pcells_length, pcells_at l k s hs, sc, pcells_off l k hkl, e2, e3, f2]
theorem edges_call {d : Nat} {site : Nat → Nat} {seen : List Nat} {l : List Stone} {ex : Bool} (h : OkP l) {k : Nat} (hk : k ≤ l.length) :
    aBack site true seen (thaw (callA E fg 1000 (d + 1)) 60 [.imm (pcells l) l.length ex, .int .i64 k] [] 0) = .pure (.tup [.int .i64 (leftE l k), .int .i64 (rightE l k)], []) :=
  aBack_ints (rs_ex (edges_run h hk))

/-- The closure that tells how far a stone is beyond an edge. -/
def farV (side right left : Int) : AV := .clo 61 [.iptr [.int .i64 side] 0, .iptr [.int .i64 right] 0, .iptr [.int .i64 left] 0]
def far (side right left : Int) (s : Stone) : Int := if side > 0 then s.pos - right else left - s.pos

theorem beyond_run {d : Nat} {l : List Stone} {ex : Bool} (h : OkP l) {k : Nat} (hk : k ≤ l.length) (side : Int) : ∃ H', thaw (callA E fg 1000 (d + 2)) 36 [.imm (pcells l) l.length ex, .int .i64 k, .int .i64 side] [] 0 = some (farV side (rightE l k) (leftE l k), H') := by
  have e : callA E fg 1000 (d + 2) 36 [.imm (pcells l) l.length ex, .int .i64 k, .int .i64 side] [] 0 = bodyA E (callA E fg 1000 (d + 1)) fg 1000 36 [.imm (pcells l) l.length ex, .int .i64 k, .int .i64 side] [] 0 := rfl
  simp only [thaw, e]
  simp only [seqX_normal, bindR_some, regX_some, bodyX_ret, run_nil, run_cons, fget_cons', fput_cons', forget_nil, forget_cons', hget_nil', hget_cons', hset_nil', hset_cons', frame0, gcM, stp, opBox, justO, Rd.bind, Rd.run, upds, acells, zeroCells, tsz, aStore, opStore, opExtract, resA, resL, fresh, putC, Nat.reduceAdd, Nat.reduceBEq, Nat.reduceEqDiff, Nat.reduceLeDiff, ↓reduceIte, reduceCtorEq, liveBlk_eq, Nat.zero_add, List.nil_append, Bool.and_self, frz, putD_some, putD_none, and_true, aCall, snaps, snap, List.append_nil, Option.map_some, List.elem_cons, List.elem_nil, List.length_cons, List.length_nil, List.getElem?_cons_zero, List.getElem?_cons_succ, List.set_cons_zero, T_3, x36_1, r36_0_l, s36_0_0, s36_0_1, x36_3, r36_1_l, s36_1_0, s36_1_1, s36_1_2, s36_1_3, s36_1_4, s36_1_5, s36_1_6, s36_1_7, s36_1_8, s36_1_9, x36_5, r36_2_l, s36_2_0, s36_2_1, x36_6, x36_4, x36_2, x36_0, b_36, edges_call h hk, frzRet, frz, List.all_cons, List.all_nil, AV.flat, List.cons_append, farV]
  exact ⟨_, rfl⟩
theorem beyond_call {d : Nat} {site : Nat → Nat} {l : List Stone} {ex : Bool} (h : OkP l) {k : Nat} (hk : k ≤ l.length) (side : Int) :
    aBack site true [] (thaw (callA E fg 1000 (d + 2)) 36 [.imm (pcells l) l.length ex, .int .i64 k, .int .i64 side] [] 0) = .pure (farV side (rightE l k) (leftE l k), []) := by
  obtain ⟨H', e⟩ := beyond_run (d := d) (ex := ex) h hk side
  rw [e]
  rfl

theorem far_run {C : Callee} (s : Stone) (side right left : Int) (hs : Fits s) (h1 : -268435456 ≤ left ∧ left ≤ 37748736 ∧ -37748736 ≤ right ∧ right ≤ 37748736) :
    rsOf (bodyA E C fg 1000 61 [.agg (sc s), .iptr [.int .i64 side] 0, .iptr [.int .i64 right] 0, .iptr [.int .i64 left] 0] [] 0) = some (.int .i64 (far side right left s)) := by
  obtain ⟨_, _, p1, p2, _, _, _⟩ := hs
  have e1 : wrp .i64 (s.pos - right) = s.pos - right := wrp64 (by omega)
  have e2 : wrp .i64 (left - s.pos) = left - s.pos := wrp64 (by omega)
  simp only [sc, seqX_normal, seqX_ret, seqX_ite, bindR_some, regX_some, condX_bool, bodyX_ite, bodyX_ret, run_nil, run_cons, fget_cons', fput_cons', forget_nil, forget_cons', hget_nil', hget_cons', hset_nil', frame0, gcM, stp, opBox, just, Rd.bind, Rd.run, Rd.opt, upds, acells, rdCells, fieldOf, aFieldAddr, aLoad, resA, resL, fresh, aBin, aInt, Nat.reduceAdd, Nat.reduceBEq, Nat.reduceEqDiff, Nat.reduceLeDiff, ↓reduceIte, reduceCtorEq, liveBlk_eq, decide_eq_true_eq, Nat.zero_add, rs_ite, m_int, putD_some, Option.map_some, List.elem_cons, List.elem_nil, List.length_cons, List.length_nil, List.getElem?_cons_zero, List.getElem?_cons_succ, T_3, T_44, x61_1, r61_0_l, s61_0_0, s61_0_1, x61_4, r61_1_l, s61_1_0, s61_1_1, x61_7, r61_2_l, s61_2_0, s61_2_1, s61_2_2, s61_2_3, s61_2_4, x61_8, x61_6, x61_9, x61_5, x61_3, x61_11, r61_3_l, s61_3_0, s61_3_1, s61_3_2, s61_3_3, s61_3_4, x61_12, x61_10, x61_2, x61_0, b_61, far, e1, e2]
theorem far_bound {s : Stone} {side right left : Int} (hs : Fits s) (h1 : -268435456 ≤ left ∧ left ≤ 37748736 ∧ -37748736 ≤ right ∧ right ≤ 37748736) : -301989888 ≤ far side right left s ∧ far side right left s ≤ 71303168 := by
  obtain ⟨_, _, p1, p2, _, _, _⟩ := hs
  unfold far; split <;> omega
theorem far_ask {d : Nat} {site : Nat → Nat} (s : Stone) (side right left : Int) (hs : Fits s) (h1 : -268435456 ≤ left ∧ left ≤ 37748736 ∧ -37748736 ≤ right ∧ right ≤ 37748736) :
    opCallV E (callA E fg 1000 (d + 1)) site true (farV side right left) [.agg [.int .i64 s.half, .int .i64 s.pos, .int .i64 s.least, .int .i64 s.most]] = .pure (.int .i64 (far side right left s), []) := by
  have := aBack_int (site := site) (seen := []) (rs_ex (far_run (C := callA E fg 1000 d) s side right left hs h1))
  simp only [sc] at this
  simp only [opCallV, farV, fi_61, aCall, List.cons_append, List.nil_append, snaps, snap, Rd.bind]
  exact this
theorem far_pure (side right left : Int) (args : List AV) : mutV E (farV side right left) args = none := rfl

def wt (s : Stone) (b : Int) : Int := if b > 0 then s.most else s.least
theorem worst_run {C : Callee} (s : Stone) (b : Int) : rsOf (bodyA E C fg 1000 37 [.agg (sc s), .int .i64 b] [] 0) = some (.int .i64 (wt s b)) := by
  simp only [sc, seqX_normal, seqX_ret, seqX_ite, bindR_some, regX_some, condX_bool, bodyX_ite, bodyX_ret, run_nil, run_cons, fget_cons', fput_cons', forget_nil, forget_cons', hget_nil', hget_cons', hset_nil', frame0, gcM, stp, opBox, just, Rd.bind, Rd.run, Rd.opt, upds, acells, rdCells, fieldOf, aFieldAddr, aLoad, resA, resL, fresh, aBin, aInt, Nat.reduceAdd, Nat.reduceBEq, Nat.reduceEqDiff, Nat.reduceLeDiff, ↓reduceIte, reduceCtorEq, liveBlk_eq, decide_eq_true_eq, Nat.zero_add, rs_ite, m_int, putD_some, Option.map_some, List.elem_cons, List.elem_nil, List.length_cons, List.length_nil, List.getElem?_cons_zero, List.getElem?_cons_succ, T_3, T_44, x37_1, r37_0_l, s37_0_0, s37_0_1, x37_4, r37_1_l, s37_1_0, s37_1_1, x37_7, r37_2_l, s37_2_0, s37_2_1, s37_2_2, x37_8, x37_6, x37_9, x37_5, x37_3, x37_11, r37_3_l, s37_3_0, s37_3_1, s37_3_2, x37_12, x37_10, x37_2, x37_0, b_37, wt]
theorem worst_call {d : Nat} {site : Nat → Nat} {seen : List Nat} (s : Stone) (b : Int) : aBack site true seen (thaw (callA E fg 1000 (d + 1)) 37 [.agg [.int .i64 s.half, .int .i64 s.pos, .int .i64 s.least, .int .i64 s.most], .int .i64 b] [] 0) = .pure (.int .i64 (wt s b), []) :=
  aBack_int (rs_ex (worst_run s b))

/-- What a stone adds in the worst truth. -/
def term (side right left : Int) (s : Stone) : Int := wt s (far side right left s) * far side right left s
theorem mul_bound {w x M : Int} (h1 : 0 ≤ w) (h2 : w ≤ 9) (h3 : -M ≤ x) (h4 : x ≤ M) : -(9 * M) ≤ w * x ∧ w * x ≤ 9 * M := by
  have hM : 0 ≤ M := by omega
  have a1 : w * x ≤ w * M := Int.mul_le_mul_of_nonneg_left h4 h1
  have a2 : w * M ≤ 9 * M := Int.mul_le_mul_of_nonneg_right h2 hM
  have a3 : w * (-M) ≤ w * x := Int.mul_le_mul_of_nonneg_left h3 h1
  have a4 : w * (-M) = -(w * M) := Int.mul_neg _ _
  omega
theorem term_bound {s : Stone} {side right left : Int} (hs : Fits s) (h1 : -268435456 ≤ left ∧ left ≤ 37748736 ∧ -37748736 ≤ right ∧ right ≤ 37748736) : -2717908992 ≤ term side right left s ∧ term side right left s ≤ 2717908992 := by
  obtain ⟨a, b⟩ := far_bound (side := side) hs h1
  obtain ⟨_, _, _, _, l1, lm, m9⟩ := hs
  have := mul_bound (w := wt s (far side right left s)) (x := far side right left s) (M := 301989888) (by unfold wt; split <;> omega) (by unfold wt; split <;> omega) a (by omega)
  unfold term
  omega

theorem mayTerm_run {d : Nat} (i : Int) (s : Stone) (side right left : Int) (hs : Fits s) (h1 : -268435456 ≤ left ∧ left ≤ 37748736 ∧ -37748736 ≤ right ∧ right ≤ 37748736) :
    rsOf (bodyA E (callA E fg 1000 (d + 1)) fg 1000 74 [.int .i64 i, .agg (sc s), .iptr [farV side right left] 0] [] 0) = some (.int .i64 (term side right left s)) := by
  obtain ⟨b1, b2⟩ := term_bound (side := side) hs h1
  have e : wrp .i64 (wt s (far side right left s) * far side right left s) = term side right left s := wrp64 (by unfold term at b1 b2; omega)
  simp only [sc, seqX_normal, bindR_some, regX_some, Bool.not_true, Bool.not_false, bodyX_ret, run_nil, run_cons, fget_cons', fput_cons', forget_nil, forget_cons', hget_nil', hget_cons', hset_nil', frame0, gcM, stp, opBox, just, Rd.bind, Rd.run, Rd.opt, upds, acells, rdCells, aLoad, resA, resL, fresh, aBin, aInt, Nat.reduceAdd, Nat.reduceMul, Nat.reduceBEq, Nat.reduceEqDiff, Nat.reduceLeDiff, ↓reduceIte, reduceCtorEq, liveBlk_eq, Nat.zero_add, rtX_some, addT_some, drX_some, runT_nil, runT_cons, neat_eq, descF_nil', descF_cons', ascH_nil', ascH_cons', stpT, Rd.foot, writing, touching, Tr.empty, dynPairs, apartT, disj, List.isEmpty_nil, List.isEmpty_cons, List.map_nil, Bool.not_false, Bool.not_true, Bool.true_or, Bool.or_false, Bool.and_true, Bool.true_and, Bool.and_self, decide_true, putD_some, aCall, snaps, snap, List.append_nil, Option.map_some, List.elem_cons, List.elem_nil, List.length_cons, List.length_nil, List.getElem?_cons_zero, List.drop_zero, List.take_succ_cons, List.take_nil, T_44, T_67, x74_1, r74_0_l, s74_0_0, s74_0_1, x74_3, r74_1_l, r74_1_dr, r74_1_an, s74_1_0, s74_1_1, s74_1_2, s74_1_3, s74_1_4, s74_1_5, s74_1_6, s74_1_7, s74_1_8, s74_1_9, x74_4, x74_2, x74_0, b_74, callVT_eq (far_pure _ _ _ _), far_ask s side right left hs h1, worst_call, e]
end Go.AM.Ytikchlfbjdfioaa
