/- Whether levels may tip, and what is told of it. Own work of this project. -/
import Derived.Test.YteellnlcligpfaaPropC
namespace Go.AM.Yteellnlcligpfaa
open Go Go.AM
set_option maxRecDepth 100000
set_option maxHeartbeats 1000000

/-- The sum of a level's moments to a side, in the worst truth. -/
def worstSum (l : List Stone) (k : Nat) (side : Int) : Int := sumF (fun i => term side (rightE l k) (leftE l k) (l.getD i default)) k (l.length - k)
def mayTip (l : List Stone) (k : Nat) (side : Int) : Bool := decide (worstSum l k side > 0)

theorem may_asks {d : Nat} {l : List Stone} (h : OkP l) {k : Nat} (hk : k ≤ l.length) (side : Int) :
    Asks (callA E fg 1000 (d + 2)) (.clo 84 [.iptr [farV side (rightE l k) (leftE l k)] 0]) (fun i => [.agg (sc (l.getD i default))]) (fun i => term side (rightE l k) (leftE l k) (l.getD i default)) k l.length := by
  refine ⟨fun _ => rfl, fun site i _ hi => ?_⟩
  obtain ⟨s, hs⟩ := at_ex hi
  have hg : l.getD i default = s := by simp [hs]
  have := aBack_int (site := site) (seen := []) (rs_ex (mayTerm_run (d := d) i s side (rightE l k) (leftE l k) (h.fits i s hs) (edge_bounds h hk)))
  simp only [hg]
  simp only [sc] at this
  simp only [sc, opCallV, fi_84, aCall, List.cons_append, List.nil_append, snaps, snap, Rd.bind]
  exact this

theorem may_run {d : Nat} {l : List Stone} {ex : Bool} (h : OkP l) {k : Nat} (hk : k ≤ l.length) (side : Int) : rsOf (callA E fg 1000 (d + 4) 75 [.imm (pcells l) l.length ex, .int .i64 k, .int .i64 side] [] 0) = some (.bool (mayTip l k side)) := by
  have hsum := fun site seen => aBack_int (site := site) (seen := seen) (rs_ex (sumP_run (ex := ex) hk h.le (may_asks (d := d) h hk side) (by rfl) (fun i h1 h2 => by
    obtain ⟨s, hs⟩ := at_ex h2
    have hg : l.getD i default = s := by simp [hs]
    obtain ⟨b1, b2⟩ := term_bound (side := side) (h.fits i s hs) (edge_bounds h hk)
    simp only [hg]
    omega)))
  have hs2 : ∀ (args : List AV), bodyA E (callA E fg 1000 (d + 2)) fg 1000 83 args [] 0 = callA E fg 1000 (d + 3) 83 args [] 0 := fun _ => rfl
  have hsum2 : ∀ site seen, aBack site true seen (thaw (callA E fg 1000 (d + 3)) 83 [.imm (pcells l) l.length ex, .int .i64 k, .clo 84 [.iptr [farV side (rightE l k) (leftE l k)] 0]] [] 0) = .pure (.int .i64 (worstSum l k side), []) := fun site seen => hsum site seen
  change rsOf (bodyA E (callA E fg 1000 (d + 3)) fg 1000 75 _ _ _) = _
  have hbc := fun site => beyond_call (d := d + 1) (site := site) (ex := ex) h hk side
  simp only [farV] at hbc hsum2
  simp only [seqX_normal, bindR_some, regX_some, bodyX_ret, run_nil, run_cons, fget_cons', fput_cons', forget_nil, forget_cons', hget_nil', hget_cons', hset_nil', hset_cons', frame0, gcM, stp, opBox, just, Rd.bind, Rd.run, Rd.opt, upds, acells, zeroCells, tsz, aStore, opStore, resA, resL, fresh, aBin, aInt, putC, Nat.reduceAdd, Nat.reduceBEq, Nat.reduceEqDiff, Nat.reduceLeDiff, ↓reduceIte, reduceCtorEq, liveBlk_eq, Nat.zero_add, List.nil_append, frz, putD_some, putD_none, and_true, aCall, snaps, snap, List.append_nil, Option.map_some, List.elem_cons, List.elem_nil, List.length_cons, List.length_nil, List.set_cons_zero, T_85, x75_1, r75_0_l, s75_0_0, x75_3, r75_1_l, s75_1_0, s75_1_1, s75_1_2, s75_1_3, s75_1_4, s75_1_5, x75_5, r75_2_l, s75_2_0, s75_2_1, s75_2_2, s75_2_3, s75_2_4, s75_2_5, x75_6, x75_4, x75_2, x75_0, b_75, hbc, hsum2, mayTip]
theorem may_call {d : Nat} {site : Nat → Nat} {seen : List Nat} {l : List Stone} {ex : Bool} (h : OkP l) {k : Nat} (hk : k ≤ l.length) (side : Int) :
    aBack site true seen (thaw (callA E fg 1000 (d + 4)) 75 [.imm (pcells l) l.length ex, .int .i64 k, .int .i64 side] [] 0) = .pure (.bool (mayTip l k side), []) :=
  aBack_bool (rs_ex (may_run h hk side))

/-- The lowest level that may tip, from one on. -/
def weakFrom (l : List Stone) (k : Nat) : Nat → Int
  | 0 => -1
  | m + 1 => if mayTip l k 1 = true ∨ mayTip l k (-1) = true then k else weakFrom l (k + 1) m
def weakL (l : List Stone) : Int := weakFrom l 0 l.length

theorem weak_loop {d : Nat} {l : List Stone} {ex : Bool} (h : OkP l) : ∀ (m k F : Nat) (H : AHeap), k + m = l.length → m < F →
    iterA (execA E (callA E fg 1000 (d + 4)) (fg 44) 0 19 [] 1000 c44_7) (headA []) F ([(6, .int .i64 k), (5, .int .i64 l.length), (0, .imm (pcells l) l.length ex)], H) =
      if weakFrom l k m = -1 then some (.exit 0, [(7, .bool false), (6, .int .i64 l.length), (5, .int .i64 l.length), (0, .imm (pcells l) l.length ex)], []) else some (.ret, [(2, .int .i64 (weakFrom l k m))], [])
  | 0, k, F + 1, H, hk, _ => by
    obtain rfl : k = l.length := by omega
    rw [iterA_succ]
    simp only [seqX_normal, seqX_exit, bindR_some, regX_some, condX_bool, run_nil, run_cons, fget_cons', fput_cons', forget_nil, forget_cons', gcM, stp, just, Rd.bind, Rd.run, Rd.opt, upds, aBin, aInt, Nat.reduceEqDiff, Nat.reduceLeDiff, Int.reduceNeg, ↓reduceIte, headA_drop, refsF, refsOf, decide_false, putD_some, List.append_nil, List.elem_nil, x44_8, r44_2_l, s44_2_0, x44_11, x44_12, x44_10, x44_9, x44_7, Int.lt_irrefl, decide_false, Bool.false_eq_true, weakFrom]
  | m + 1, k, F + 1, H, hk, hF => by
    have hkl : k < l.length := by omega
    have ih := weak_loop (d := d) (ex := ex) h m (k + 1) F [] (by omega) (by omega)
    have hne : (k : Int) ≠ -1 := by omega
    rw [iterA_succ]
    simp only [seqX_normal, seqX_ret, seqX_ite, bindR_some, bindR_ite, regX_some, regX_ite, condX_bool, blockX_normal, blockX_ret, blockX_ite, ↓gd, fset_cons, Bool.not_false, run_nil, run_cons, fget_cons', fput_cons', forget_nil, forget_cons', gcM, stp, opPick, just, Rd.bind, Rd.run, Rd.opt, upds, aBin, aInt, Nat.reduceBEq, Nat.reduceEqDiff, Nat.reduceLeDiff, Int.reduceNeg, ↓reduceIte, reduceCtorEq, Nat.zero_add, headA_drop, refsF, refsOf, Bool.not_false, decide_true, putD_some, Int.ofNat_lt, aCall, snaps, snap, List.append_nil, List.elem_cons, List.elem_nil, x44_8, r44_2_l, s44_2_0, x44_11, x44_12, x44_10, x44_16, r44_3_l, s44_3_0, s44_3_1, x44_18, r44_4_l, s44_4_0, s44_4_1, s44_4_2, s44_4_3, s44_4_4, s44_4_5, s44_4_6, s44_4_7, x44_21, r44_5_l, s44_5_0, s44_5_1, x44_22, x44_20, x44_23, x44_19, x44_17, x44_15, x44_14, x44_24, r44_6_l, s44_6_0, s44_6_1, x44_13, x44_9, x44_7, hkl, may_call h (Nat.le_of_lt hkl), wrp_succ (show k < 1000000 by have := h.le; omega), ih, weakFrom]
    by_cases h1 : mayTip l k 1 = true <;> by_cases h2 : mayTip l k (-1) = true <;> simp [h1, h2, hne]

theorem weak_run {d : Nat} {l : List Stone} {ex : Bool} (h : OkP l) : rsOf (callA E fg 1000 (d + 5) 44 [.imm (pcells l) l.length ex] [] 0) = some (.int .i64 (weakL l)) := by
  change rsOf (bodyA E (callA E fg 1000 (d + 4)) fg 1000 44 _ _ _) = _
  have hl := weak_loop (d := d) (ex := ex) h l.length 0 1000 [] (by omega) (by have := h.le; omega)
  simp only [Int.natCast_zero] at hl
  by_cases hw : weakFrom l 0 l.length = -1
  · simp only [hw, if_true] at hl
    simp only [seqX_normal, bindR_some, regX_some, blockX_exit, bodyX_ret, run_nil, run_cons, fget_cons', fput_nil, fput_cons', forget_nil, forget_cons', frame0, gcM, stp, just, Rd.bind, Rd.run, upds, resA, resL, aLen, aBuiltin, Nat.reduceBEq, Nat.reduceEqDiff, Nat.reduceLeDiff, Int.reduceNeg, ↓reduceIte, reduceCtorEq, List.getElem?_toArray, putD_some, Option.map_some, List.elem_cons, List.elem_nil, List.getElem?_cons_zero, T_22, x44_1, r44_0_l, s44_0_0, x44_4, r44_1_l, s44_1_0, s44_1_1, s44_1_2, x44_6, x44_5, x44_3, x44_26, r44_7_l, s44_7_0, x44_27, x44_25, x44_2, x44_0, b_44, hl, weakL, hw]
  · simp only [hw, if_false] at hl
    simp only [seqX_normal, seqX_ret, bindR_some, regX_some, blockX_ret, bodyX_ret, run_nil, run_cons, fget_cons', fput_cons', forget_nil, forget_cons', frame0, gcM, stp, just, Rd.bind, Rd.run, upds, resA, resL, aLen, aBuiltin, Nat.reduceBEq, Nat.reduceEqDiff, Nat.reduceLeDiff, ↓reduceIte, reduceCtorEq, List.getElem?_toArray, putD_some, Option.map_some, List.elem_cons, List.elem_nil, List.getElem?_cons_zero, T_22, x44_1, r44_0_l, s44_0_0, x44_4, r44_1_l, s44_1_0, s44_1_1, s44_1_2, x44_6, x44_5, x44_3, x44_2, x44_0, b_44, hl, weakL]
theorem weak_call {d : Nat} {site : Nat → Nat} {seen : List Nat} {l : List Stone} {ex : Bool} (h : OkP l) : aBack site true seen (thaw (callA E fg 1000 (d + 5)) 44 [.imm (pcells l) l.length ex] [] 0) = .pure (.int .i64 (weakL l), []) :=
  aBack_int (rs_ex (weak_run h))

theorem isP_imm {a : AV} {l : List Stone} (h : IsP a l) (hl : 0 < l.length) : ∃ ex, a = .imm (pcells l) l.length ex := by
  rcases h with ⟨_, rfl⟩ | h
  · simp at hl
  · exact h

def standsB (l : List Stone) : Bool := if check l = 0 then decide (weakL l < 0) else false
theorem stands_run {d : Nat} {a : AV} {l : List Stone} (ha : IsP a l) : rsOf (callA E fg 1000 (d + 6) 8 [a] [] 0) = some (.tup [.bool (standsB l), .int .i64 (check l)]) := by
  change rsOf (bodyA E (callA E fg 1000 (d + 5)) fg 1000 8 _ _ _) = _
  have hc := fun (site : Nat → Nat) seen => check_call (d := d + 3) (site := site) (seen := seen) ha
  by_cases h0 : check l = 0
  · have h := check_zero.1 h0
    obtain ⟨ex, rfl⟩ := isP_imm ha h.ne
    simp only [seqX_normal, bindR_some, regX_some, condX_bool, bodyX_ret, run_nil, run_cons, fget_cons', fput_cons', forget_nil, forget_cons', frame0, gcM, stp, just, Rd.bind, Rd.run, Rd.opt, upds, resA, resL, aBin, aInt, Nat.reduceBEq, Nat.reduceEqDiff, Nat.reduceLeDiff, ↓reduceIte, reduceCtorEq, Nat.zero_add, bne_iff_ne, ne_eq, not_true_eq_false, putD_some, aCall, snaps, snap, List.append_nil, Option.map_some, List.elem_cons, List.elem_nil, x8_1, r8_0_l, s8_0_0, s8_0_1, x8_4, r8_1_l, s8_1_0, s8_1_1, s8_1_2, x8_6, r8_2_l, s8_2_0, s8_2_1, x8_9, r8_3_l, s8_3_0, s8_3_1, s8_3_2, x8_10, x8_8, x8_11, x8_7, x8_5, x8_3, x8_13, r8_4_l, s8_4_0, s8_4_1, s8_4_2, s8_4_3, s8_4_4, x8_14, x8_12, x8_2, x8_0, b_8, hc, h0, weak_call h, standsB]
  · rcases ha with ⟨rfl, rfl⟩ | ⟨ex, rfl⟩ <;> simp only [seqX_normal, seqX_ret, bindR_some, regX_some, condX_bool, bodyX_ret, run_nil, run_cons, fget_cons', fput_cons', forget_nil, forget_cons', frame0, gcM, stp, just, Rd.bind, Rd.run, Rd.opt, upds, resA, resL, aBin, aInt, Nat.reduceBEq, Nat.reduceEqDiff, Nat.reduceLeDiff, ↓reduceIte, reduceCtorEq, Nat.zero_add, bne_iff_ne, ne_eq, not_false_eq_true, putD_some, aCall, snaps, snap, List.append_nil, Option.map_some, List.elem_cons, List.elem_nil, x8_1, r8_0_l, s8_0_0, s8_0_1, x8_4, r8_1_l, s8_1_0, s8_1_1, s8_1_2, x8_6, r8_2_l, s8_2_0, s8_2_1, x8_9, r8_3_l, s8_3_0, s8_3_1, s8_3_2, x8_10, x8_8, x8_11, x8_7, x8_5, x8_3, x8_2, x8_0, b_8, hc, h0, standsB]
theorem stands_call {d : Nat} {site : Nat → Nat} {seen : List Nat} {a : AV} {l : List Stone} (ha : IsP a l) : aBack site true seen (thaw (callA E fg 1000 (d + 6)) 8 [a] [] 0) = .pure (.tup [.bool (standsB l), .int .i64 (check l)], []) :=
  aBack_boolint (rs_ex (stands_run ha))

def tipsN (l : List Stone) : Int := if check l = 0 then (if weakL l < 0 then 0 else weakL l) else 0
def tipsE (l : List Stone) : Int := if check l = 0 then (if weakL l < 0 then 13 else 0) else check l
theorem tips_run {d : Nat} {a : AV} {l : List Stone} (ha : IsP a l) : rsOf (callA E fg 1000 (d + 6) 10 [a] [] 0) = some (.tup [.int .i64 (tipsN l), .int .i64 (tipsE l)]) := by
  change rsOf (bodyA E (callA E fg 1000 (d + 5)) fg 1000 10 _ _ _) = _
  have hc := fun (site : Nat → Nat) seen => check_call (d := d + 3) (site := site) (seen := seen) ha
  by_cases h0 : check l = 0
  · have h := check_zero.1 h0
    obtain ⟨ex, rfl⟩ := isP_imm ha h.ne
    by_cases hw : weakL l < 0 <;> simp only [seqX_normal, seqX_ret, bindR_some, regX_some, condX_bool, bodyX_ret, run_nil, run_cons, fget_cons', fput_nil, fput_cons', forget_nil, forget_cons', frame0, gcM, stp, just, Rd.bind, Rd.run, Rd.opt, upds, resA, resL, aBin, aInt, Nat.reduceBEq, Nat.reduceEqDiff, Nat.reduceLeDiff, ↓reduceIte, reduceCtorEq, Nat.zero_add, bne_iff_ne, ne_eq, decide_true, decide_false, not_true_eq_false, putD_some, aCall, snaps, snap, List.append_nil, Option.map_some, List.elem_cons, List.elem_nil, x10_1, r10_0_l, s10_0_0, s10_0_1, x10_4, r10_1_l, s10_1_0, s10_1_1, s10_1_2, x10_6, r10_2_l, s10_2_0, s10_2_1, x10_9, r10_3_l, s10_3_0, s10_3_1, s10_3_2, x10_10, x10_8, x10_11, x10_7, x10_5, x10_3, x10_13, r10_4_l, s10_4_0, s10_4_1, s10_4_2, x10_16, r10_5_l, s10_5_0, s10_5_1, x10_19, r10_6_l, s10_6_0, s10_6_1, x10_20, x10_18, x10_21, x10_17, x10_15, x10_23, r10_7_l, s10_7_0, s10_7_1, s10_7_2, x10_24, x10_22, x10_14, x10_12, x10_2, x10_0, b_10, hc, h0, weak_call h, tipsN, tipsE, hw]
  · rcases ha with ⟨rfl, rfl⟩ | ⟨ex, rfl⟩ <;> simp only [seqX_normal, seqX_ret, bindR_some, regX_some, condX_bool, bodyX_ret, run_nil, run_cons, fget_cons', fput_cons', forget_nil, forget_cons', frame0, gcM, stp, just, Rd.bind, Rd.run, Rd.opt, upds, resA, resL, aBin, aInt, Nat.reduceBEq, Nat.reduceEqDiff, Nat.reduceLeDiff, ↓reduceIte, reduceCtorEq, Nat.zero_add, bne_iff_ne, ne_eq, not_false_eq_true, putD_some, aCall, snaps, snap, List.append_nil, Option.map_some, List.elem_cons, List.elem_nil, x10_1, r10_0_l, s10_0_0, s10_0_1, x10_4, r10_1_l, s10_1_0, s10_1_1, s10_1_2, x10_6, r10_2_l, s10_2_0, s10_2_1, x10_9, r10_3_l, s10_3_0, s10_3_1, s10_3_2, x10_10, x10_8, x10_11, x10_7, x10_5, x10_3, x10_2, x10_0, b_10, hc, h0, tipsN, tipsE]
theorem tips_call {d : Nat} {site : Nat → Nat} {seen : List Nat} {a : AV} {l : List Stone} (ha : IsP a l) : aBack site true seen (thaw (callA E fg 1000 (d + 6)) 10 [a] [] 0) = .pure (.tup [.int .i64 (tipsN l), .int .i64 (tipsE l)], []) :=
  aBack_ints (rs_ex (tips_run ha))
end Go.AM.Yteellnlcligpfaa
