/- Whether levels may tip, and what is told of it. Own work of this project. -/
import Derived.Test.YtikchlfbjdfioaaPropC
namespace Go.AM.Ytikchlfbjdfioaa
open Go Go.AM
set_option maxRecDepth 100000
set_option maxHeartbeats 1000000

/-- The sum of a level's moments to a side, in the worst truth. -/
def worstSum (l : List Stone) (k : Nat) (side : Int) : Int := sumF (fun i => term side (rightE l k) (leftE l k) (l.getD i default)) k (l.length - k)
def mayTip (l : List Stone) (k : Nat) (side : Int) : Bool := decide (worstSum l k side > 0)

theorem may_asks {d : Nat} {l : List Stone} (h : OkP l) {k : Nat} (hk : k ≤ l.length) (side : Int) :
    Asks (callA E fg 1000 (d + 2)) (.clo 74 [.iptr [farV side (rightE l k) (leftE l k)] 0]) (fun i => [.agg (sc (l.getD i default))]) (fun i => term side (rightE l k) (leftE l k) (l.getD i default)) k l.length := by
  refine ⟨fun _ => rfl, fun site i _ hi => ?_⟩
  obtain ⟨s, hs⟩ := at_ex hi
  have hg : l.getD i default = s := by simp [hs]
  have := aBack_int (site := site) (seen := []) (rs_ex (mayTerm_run (d := d) i s side (rightE l k) (leftE l k) (h.fits i s hs) (edge_bounds h hk)))
  simp only [hg]
  simp only [sc] at this
  simp only [sc, opCallV, fi_74, aCall, List.cons_append, List.nil_append, snaps, snap, Rd.bind]
  exact this

theorem may_run {d : Nat} {l : List Stone} {ex : Bool} (h : OkP l) {k : Nat} (hk : k ≤ l.length) (side : Int) : rsOf (callA E fg 1000 (d + 4) 59 [.imm (pcells l) l.length ex, .int .i64 k, .int .i64 side] [] 0) = some (.bool (mayTip l k side)) := by
  have hsum := fun site seen => aBack_int (site := site) (seen := seen) (rs_ex (sumP_run (ex := ex) hk h.le (may_asks (d := d) h hk side) (by rfl) (fun i h1 h2 => by
    obtain ⟨s, hs⟩ := at_ex h2
    have hg : l.getD i default = s := by simp [hs]
    obtain ⟨b1, b2⟩ := term_bound (side := side) (h.fits i s hs) (edge_bounds h hk)
    simp only [hg]
    omega)))
  have hs2 : ∀ (args : List AV), bodyA E (callA E fg 1000 (d + 2)) fg 1000 73 args [] 0 = callA E fg 1000 (d + 3) 73 args [] 0 := fun _ => rfl
  have hsum2 : ∀ site seen, aBack site true seen (thaw (callA E fg 1000 (d + 3)) 73 [.imm (pcells l) l.length ex, .int .i64 k, .clo 74 [.iptr [farV side (rightE l k) (leftE l k)] 0]] [] 0) = .pure (.int .i64 (worstSum l k side), []) := fun site seen => hsum site seen
  change rsOf (bodyA E (callA E fg 1000 (d + 3)) fg 1000 59 _ _ _) = _
  have hbc := fun site => beyond_call (d := d + 1) (site := site) (ex := ex) h hk side
  simp only [farV] at hbc hsum2
  simp only [seqX_normal, bindR_some, regX_some, bodyX_ret, run_nil, run_cons, fget_cons', fput_cons', forget_nil, forget_cons', hget_nil', hget_cons', hset_nil', hset_cons', frame0, gcM, stp, opBox, just, Rd.bind, Rd.run, Rd.opt, upds, acells, zeroCells, tsz, aStore, opStore, resA, resL, fresh, aBin, aInt, putC, Nat.reduceAdd, Nat.reduceBEq, Nat.reduceEqDiff, Nat.reduceLeDiff, ↓reduceIte, reduceCtorEq, liveBlk_eq, Nat.zero_add, List.nil_append, frz, putD_some, putD_none, and_true, aCall, snaps, snap, List.append_nil, Option.map_some, List.elem_cons, List.elem_nil, List.length_cons, List.length_nil, List.set_cons_zero, T_67, x59_1, r59_0_l, s59_0_0, x59_3, r59_1_l, s59_1_0, s59_1_1, s59_1_2, s59_1_3, s59_1_4, s59_1_5, x59_5, r59_2_l, s59_2_0, s59_2_1, s59_2_2, s59_2_3, s59_2_4, s59_2_5, x59_6, x59_4, x59_2, x59_0, b_59, hbc, hsum2, mayTip]
theorem may_call {d : Nat} {site : Nat → Nat} {seen : List Nat} {l : List Stone} {ex : Bool} (h : OkP l) {k : Nat} (hk : k ≤ l.length) (side : Int) :
    aBack site true seen (thaw (callA E fg 1000 (d + 4)) 59 [.imm (pcells l) l.length ex, .int .i64 k, .int .i64 side] [] 0) = .pure (.bool (mayTip l k side), []) :=
  aBack_bool (rs_ex (may_run h hk side))

/-- The lowest level that may tip, from one on. -/
def weakFrom (l : List Stone) (k : Nat) : Nat → Int
  | 0 => -1
  | m + 1 => if mayTip l k 1 = true ∨ mayTip l k (-1) = true then k else weakFrom l (k + 1) m
def weakL (l : List Stone) : Int := weakFrom l 0 l.length

theorem weak_loop {d : Nat} {l : List Stone} {ex : Bool} (h : OkP l) : ∀ (m k F : Nat) (H : AHeap), k + m = l.length → m < F →
    iterA (execA E (callA E fg 1000 (d + 4)) (fg 33) 0 19 [] 1000 c33_7) (headA []) F ([(6, .int .i64 k), (5, .int .i64 l.length), (0, .imm (pcells l) l.length ex)], H) =
      if weakFrom l k m = -1 then some (.exit 0, [(7, .bool false), (6, .int .i64 l.length), (5, .int .i64 l.length), (0, .imm (pcells l) l.length ex)], []) else some (.ret, [(2, .int .i64 (weakFrom l k m))], [])
  | 0, k, F + 1, H, hk, _ => by
    obtain rfl : k = l.length := by omega
    rw [iterA_succ]
    simp only [seqX_normal, seqX_exit, bindR_some, regX_some, condX_bool, run_nil, run_cons, fget_cons', fput_cons', forget_nil, forget_cons', gcM, stp, just, Rd.bind, Rd.run, Rd.opt, upds, aBin, aInt, Nat.reduceEqDiff, Nat.reduceLeDiff, Int.reduceNeg, ↓reduceIte, headA_drop, refsF, refsOf, decide_false, putD_some, List.append_nil, List.elem_nil, x33_8, r33_2_l, s33_2_0, x33_11, x33_12, x33_10, x33_9, x33_7, Int.lt_irrefl, decide_false, Bool.false_eq_true, weakFrom]
  | m + 1, k, F + 1, H, hk, hF => by
    have hkl : k < l.length := by omega
    have ih := weak_loop (d := d) (ex := ex) h m (k + 1) F [] (by omega) (by omega)
    have hne : (k : Int) ≠ -1 := by omega
    rw [iterA_succ]
    simp only [seqX_normal, seqX_ret, seqX_ite, bindR_some, bindR_ite, regX_some, regX_ite, condX_bool, blockX_normal, blockX_ret, blockX_ite, ↓gd, fset_cons, Bool.not_false, run_nil, run_cons, fget_cons', fput_cons', forget_nil, forget_cons', gcM, stp, opPick, just, Rd.bind, Rd.run, Rd.opt, upds, aBin, aInt, Nat.reduceBEq, Nat.reduceEqDiff, Nat.reduceLeDiff, Int.reduceNeg, ↓reduceIte, reduceCtorEq, Nat.zero_add, headA_drop, refsF, refsOf, Bool.not_false, decide_true, putD_some, Int.ofNat_lt, aCall, snaps, snap, List.append_nil, List.elem_cons, List.elem_nil, x33_8, r33_2_l, s33_2_0, x33_11, x33_12, x33_10, x33_16, r33_3_l, s33_3_0, s33_3_1, x33_18, r33_4_l, s33_4_0, s33_4_1, s33_4_2, s33_4_3, s33_4_4, s33_4_5, s33_4_6, s33_4_7, x33_21, r33_5_l, s33_5_0, s33_5_1, x33_22, x33_20, x33_23, x33_19, x33_17, x33_15, x33_14, x33_24, r33_6_l, s33_6_0, s33_6_1, x33_13, x33_9, x33_7, hkl, may_call h (Nat.le_of_lt hkl), wrp_succ (show k < 1000000 by have := h.le; omega), ih, weakFrom]
    by_cases h1 : mayTip l k 1 = true <;> by_cases h2 : mayTip l k (-1) = true <;> simp [h1, h2, hne]

theorem weak_run {d : Nat} {l : List Stone} {ex : Bool} (h : OkP l) : rsOf (callA E fg 1000 (d + 5) 33 [.imm (pcells l) l.length ex] [] 0) = some (.int .i64 (weakL l)) := by
  change rsOf (bodyA E (callA E fg 1000 (d + 4)) fg 1000 33 _ _ _) = _
  have hl := weak_loop (d := d) (ex := ex) h l.length 0 1000 [] (by omega) (by have := h.le; omega)
  simp only [Int.natCast_zero] at hl
  by_cases hw : weakFrom l 0 l.length = -1
  · simp only [hw, if_true] at hl
    simp only [seqX_normal, bindR_some, regX_some, blockX_exit, bodyX_ret, run_nil, run_cons, fget_cons', fput_nil, fput_cons', forget_nil, forget_cons', frame0, gcM, stp, just, Rd.bind, Rd.run, upds, resA, resL, aLen, aBuiltin, Nat.reduceBEq, Nat.reduceEqDiff, Nat.reduceLeDiff, Int.reduceNeg, ↓reduceIte, reduceCtorEq, List.getElem?_toArray, putD_some, Option.map_some, List.elem_cons, List.elem_nil, List.getElem?_cons_zero, T_27, x33_1, r33_0_l, s33_0_0, x33_4, r33_1_l, s33_1_0, s33_1_1, s33_1_2, x33_6, x33_5, x33_3, x33_26, r33_7_l, s33_7_0, x33_27, x33_25, x33_2, x33_0, b_33, hl, weakL, hw]
  · simp only [hw, if_false] at hl
    simp only [seqX_normal, seqX_ret, bindR_some, regX_some, blockX_ret, bodyX_ret, run_nil, run_cons, fget_cons', fput_cons', forget_nil, forget_cons', frame0, gcM, stp, just, Rd.bind, Rd.run, upds, resA, resL, aLen, aBuiltin, Nat.reduceBEq, Nat.reduceEqDiff, Nat.reduceLeDiff, ↓reduceIte, reduceCtorEq, List.getElem?_toArray, putD_some, Option.map_some, List.elem_cons, List.elem_nil, List.getElem?_cons_zero, T_27, x33_1, r33_0_l, s33_0_0, x33_4, r33_1_l, s33_1_0, s33_1_1, s33_1_2, x33_6, x33_5, x33_3, x33_2, x33_0, b_33, hl, weakL]
theorem weak_call {d : Nat} {site : Nat → Nat} {seen : List Nat} {l : List Stone} {ex : Bool} (h : OkP l) : aBack site true seen (thaw (callA E fg 1000 (d + 5)) 33 [.imm (pcells l) l.length ex] [] 0) = .pure (.int .i64 (weakL l), []) :=
  aBack_int (rs_ex (weak_run h))

theorem isP_imm {a : AV} {l : List Stone} (h : IsP a l) (hl : 0 < l.length) : ∃ ex, a = .imm (pcells l) l.length ex := by
  rcases h with ⟨_, rfl⟩ | h
  · simp at hl
  · exact h

def standsB (l : List Stone) : Bool := if check l = 0 then decide (weakL l < 0) else false
theorem stands_run {d : Nat} {a : AV} {l : List Stone} (ha : IsP a l) : rsOf (callA E fg 1000 (d + 6) 9 [a] [] 0) = some (.tup [.bool (standsB l), .int .i64 (check l)]) := by
  change rsOf (bodyA E (callA E fg 1000 (d + 5)) fg 1000 9 _ _ _) = _
  have hc := fun (site : Nat → Nat) seen => check_call (d := d + 3) (site := site) (seen := seen) ha
  by_cases h0 : check l = 0
  · have h := check_zero.1 h0
    obtain ⟨ex, rfl⟩ := isP_imm ha h.ne
    simp only [seqX_normal, bindR_some, regX_some, condX_bool, bodyX_ret, run_nil, run_cons, fget_cons', fput_cons', forget_nil, forget_cons', frame0, gcM, stp, just, Rd.bind, Rd.run, Rd.opt, upds, resA, resL, aBin, aInt, Nat.reduceBEq, Nat.reduceEqDiff, Nat.reduceLeDiff, ↓reduceIte, reduceCtorEq, Nat.zero_add, bne_iff_ne, ne_eq, not_true_eq_false, putD_some, aCall, snaps, snap, List.append_nil, Option.map_some, List.elem_cons, List.elem_nil, x9_1, r9_0_l, s9_0_0, s9_0_1, x9_4, r9_1_l, s9_1_0, s9_1_1, s9_1_2, x9_6, r9_2_l, s9_2_0, s9_2_1, x9_9, r9_3_l, s9_3_0, s9_3_1, s9_3_2, x9_10, x9_8, x9_11, x9_7, x9_5, x9_3, x9_13, r9_4_l, s9_4_0, s9_4_1, s9_4_2, s9_4_3, s9_4_4, x9_14, x9_12, x9_2, x9_0, b_9, hc, h0, weak_call h, standsB]
  · rcases ha with ⟨rfl, rfl⟩ | ⟨ex, rfl⟩ <;> simp only [seqX_normal, seqX_ret, bindR_some, regX_some, condX_bool, bodyX_ret, run_nil, run_cons, fget_cons', fput_cons', forget_nil, forget_cons', frame0, gcM, stp, just, Rd.bind, Rd.run, Rd.opt, upds, resA, resL, aBin, aInt, Nat.reduceBEq, Nat.reduceEqDiff, Nat.reduceLeDiff, ↓reduceIte, reduceCtorEq, Nat.zero_add, bne_iff_ne, ne_eq, not_false_eq_true, putD_some, aCall, snaps, snap, List.append_nil, Option.map_some, List.elem_cons, List.elem_nil, x9_1, r9_0_l, s9_0_0, s9_0_1, x9_4, r9_1_l, s9_1_0, s9_1_1, s9_1_2, x9_6, r9_2_l, s9_2_0, s9_2_1, x9_9, r9_3_l, s9_3_0, s9_3_1, s9_3_2, x9_10, x9_8, x9_11, x9_7, x9_5, x9_3, x9_2, x9_0, b_9, hc, h0, standsB]
theorem stands_call {d : Nat} {site : Nat → Nat} {seen : List Nat} {a : AV} {l : List Stone} (ha : IsP a l) : aBack site true seen (thaw (callA E fg 1000 (d + 6)) 9 [a] [] 0) = .pure (.tup [.bool (standsB l), .int .i64 (check l)], []) :=
  aBack_boolint (rs_ex (stands_run ha))

def tipsN (l : List Stone) : Int := if check l = 0 then (if weakL l < 0 then 0 else weakL l) else 0
def tipsE (l : List Stone) : Int := if check l = 0 then (if weakL l < 0 then 13 else 0) else check l
theorem tips_run {d : Nat} {a : AV} {l : List Stone} (ha : IsP a l) : rsOf (callA E fg 1000 (d + 6) 10 [a] [] 0) = some (.tup [.int .i64 (tipsN l), .int .i64 (tipsE l)]) := by
  change rsOf (bodyA E (callA E fg 1000 (d + 5)) fg 1000 10 _ _ _) = _
  have hc := fun (site : Nat → Nat) seen => check_call (d := d + 3) (site := site) (seen := seen) ha
  by_cases h0 : check l = 0
  · have h := check_zero.1 h0
    obtain ⟨ex, rfl⟩ := isP_imm ha h.ne
    by_cases hw : weakL l < 0 <;> simp only [seqX_normal, seqX_ret, bindR_some, regX_some, condX_bool, bodyX_ret, run_nil, run_cons, fget_cons', fput_nil, fput_cons', forget_nil, forget_cons', frame0, gcM, stp, just, Rd.bind, Rd.run, Rd.opt, upds, resA, resL, aBin, aInt, Nat.reduceBEq, Nat.reduceEqDiff, Nat.reduceLeDiff, ↓reduceIte, reduceCtorEq, Nat.zero_add, bne_iff_ne, ne_eq, decide_true, decide_false, not_true_eq_false, putD_some, aCall, snaps, snap, List.append_nil, Option.map_some, List.elem_cons, List.elem_nil, x10_1, r10_0_l, s10_0_0, s10_0_1, x10_4, r10_1_l, s10_1_0, s10_1_1, s10_1_2, x10_6, r10_2_l, s10_2_0, s10_2_1, x10_9, r10_3_l, s10_3_0, s10_3_1, s10_3_2, x10_10, x10_8, x10_11, x10_7, x10_5, x10_3, x10_13, r10_4_l, s10_4_0, s10_4_1, s10_4_2, x10_16, r10_5_l, s10_5_0, s10_5_1, x10_19, r10_6_l, s10_6_0, s10_6_1, x10_20, x10_18, x10_21, x10_17, x10_15, x10_23, r10_7_l, s10_7_0, s10_7_1, s10_7_2, x10_24, x10_22, x10_14, x10_12, x10_2, x10_0, b_10, hc, h0, weak_call h, tipsN, tipsE, hw]
  · rcases ha with ⟨rfl, rfl⟩ | ⟨ex, rfl⟩ <;> simp only [seqX_normal, seqX_ret, bindR_some, regX_some, condX_bool, bodyX_ret, run_nil, run_cons, fget_cons', fput_cons', forget_nil, forget_cons', frame0, gcM, stp, just, Rd.bind, Rd.run, Rd.opt, upds, resA, resL, aBin, aInt, Nat.reduceBEq, Nat.reduceEqDiff, Nat.reduceLeDiff, ↓reduceIte, reduceCtorEq, Nat.zero_add, bne_iff_ne, ne_eq, not_false_eq_true, putD_some, aCall, snaps, snap, List.append_nil, Option.map_some, List.elem_cons, List.elem_nil, x10_1, r10_0_l, s10_0_0, s10_0_1, x10_4, r10_1_l, s10_1_0, s10_1_1, s10_1_2, x10_6, r10_2_l, s10_2_0, s10_2_1, x10_9, r10_3_l, s10_3_0, s10_3_1, s10_3_2, x10_10, x10_8, x10_11, x10_7, x10_5, x10_3, x10_2, x10_0, b_10, hc, h0, tipsN, tipsE]
theorem tips_call {d : Nat} {site : Nat → Nat} {seen : List Nat} {a : AV} {l : List Stone} (ha : IsP a l) : aBack site true seen (thaw (callA E fg 1000 (d + 6)) 10 [a] [] 0) = .pure (.tup [.int .i64 (tipsN l), .int .i64 (tipsE l)], []) :=
  aBack_ints (rs_ex (tips_run ha))
end Go.AM.Ytikchlfbjdfioaa
