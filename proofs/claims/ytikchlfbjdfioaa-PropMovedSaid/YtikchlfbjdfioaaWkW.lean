/- Whether levels may tip, for piles that were moved far (printed by genw.py). Own work of this project. -/
import Derived.Test.YtikchlfbjdfioaaBit
import Derived.Test.YtikchlfbjdfioaaSyF
namespace Go.AM.Ytikchlfbjdfioaa
open Go Go.AM
set_option maxRecDepth 100000
set_option maxHeartbeats 1000000

structure FitsW (s : Stone) : Prop where
  h1 : 1 ≤ s.half
  h2 : s.half ≤ 4194304
  p1 : -33554432 ≤ s.pos
  p2 : s.pos ≤ 301989888
  l1 : 1 ≤ s.least
  lm : s.least ≤ s.most
  m9 : s.most ≤ 9
structure WP (l : List Stone) : Prop where
  ne : 0 < l.length
  le : l.length ≤ 5
  fits : ∀ (k : Nat) (s : Stone), l[k]? = some s → FitsW s

theorem edge_boundsW {l : List Stone} (h : WP l) {k : Nat} (hk : k ≤ l.length) : -268435456 ≤ leftE l k ∧ leftE l k ≤ 306184192 ∧ -37748736 ≤ rightE l k ∧ rightE l k ≤ 306184192 := by
  cases k with
  | zero => simp [leftE, rightE]
  | succ k =>
    obtain ⟨s, hs⟩ := at_ex (show k < l.length by omega)
    obtain ⟨h1, h2, p1, p2, _, _, _⟩ := h.fits k s hs
    simp only [leftE, rightE, List.getD_eq_getElem?_getD, hs, Option.getD_some]
    omega

theorem edges_runW {C : Callee} {l : List Stone} {ex : Bool} (h : WP l) {k : Nat} (hk : k ≤ l.length) : rsOf (bodyA E C fg 1000 60 [.imm (pcells l) l.length ex, .int .i64 k] [] 0) = some (.tup [.int .i64 (leftE l k), .int .i64 (rightE l k)]) := by
  cases k with
  | zero => simp only [seqX_normal, seqX_ret, bindR_some, regX_some, condX_bool, bodyX_ret, run_nil, run_cons, fget_cons', fput_cons', forget_nil, forget_cons', frame0, gcM, stp, just, Rd.bind, Rd.run, Rd.opt, upds, resA, resL, aBin, aInt, Nat.reduceBEq, Nat.reduceEqDiff, Nat.reduceLeDiff, Int.reduceNeg, ↓reduceIte, reduceCtorEq, Nat.zero_add, beq_iff_eq, putD_some, Option.map_some, List.elem_cons, List.elem_nil, x60_1, r60_0_l, s60_0_0, s60_0_1, x60_4, r60_1_l, s60_1_0, s60_1_1, x60_7, r60_2_l, s60_2_0, s60_2_1, x60_8, x60_6, x60_9, x60_5, x60_3, x60_2, x60_0, b_60, leftE, rightE, Int.natCast_zero]
  | succ k =>
    have hkl : k < l.length := by omega
    obtain ⟨s, hs⟩ := at_ex hkl
    obtain ⟨h1, h2, p1, p2, _, _, _⟩ := h.fits k s hs
    have e0 : ((k + 1 : Nat) : Int) ≠ 0 := by omega
    have e1 : wrp .i64 (((k + 1 : Nat) : Int) - 1) = (k : Int) := by rw [wrp64 (by have := h.le; omega)]; omega
    have e2 : wrp .i64 (s.pos - s.half) = s.pos - s.half := wrp64 (by omega)
    have e3 : wrp .i64 (s.pos + s.half) = s.pos + s.half := wrp64 (by omega)
    have f2 : (l.getD k default) = s := by simp [hs]
    simp only [seqX_normal, bindR_some, regX_some, condX_bool, Bool.not_true, Bool.not_false, bodyX_ret, run_nil, run_cons, fget_cons', fput_nil, fput_cons', forget_nil, forget_cons', hget_nil', hget_cons', hset_nil', hset_cons', frame0, gcM, stp, opBox, just, Rd.bind, Rd.run, Rd.opt, upds, acells, zeroCells, tsz, rdCells, fieldOf, aFieldAddr, aLoad, aStore, opStore, resA, resL, fresh, aIndexAddr, aNum, aBin, aInt, putC, Nat.reduceAdd, Nat.reduceLT, Nat.reduceBEq, Nat.reduceEqDiff, Nat.reduceLeDiff, Int.reduceNeg, ↓reduceIte, reduceCtorEq, liveBlk_eq, Nat.zero_add, Nat.add_zero, beq_iff_eq, List.nil_append, rtX_some, addT_some, drX_some, runT_nil, runT_cons, neat_eq, descF_nil', descF_cons', ascH_nil', ascH_cons', stpT, Rd.foot, writing, touching, Tr.empty, dynPairs, apartT, disj, List.isEmpty_nil, List.isEmpty_cons, List.map_nil, Bool.not_false, Bool.not_true, Bool.true_or, Bool.or_false, Bool.and_true, Bool.true_and, Bool.and_self, decide_true, frz, putD_some, putD_none, and_true, Int.natCast_nonneg, Int.ofNat_lt, Int.toNat_natCast, snaps, snap, List.append_nil, Option.map_some, List.elem_cons, List.elem_nil, List.length_cons, List.length_nil, List.getElem?_cons_zero, List.getElem?_cons_succ, List.set_cons_zero, List.set_cons_succ, T_3, T_27, T_44, x60_1, r60_0_l, s60_0_0, s60_0_1, x60_4, r60_1_l, s60_1_0, s60_1_1, x60_7, r60_2_l, s60_2_0, s60_2_1, x60_8, x60_6, x60_9, x60_5, x60_3, x60_11, r60_3_l, s60_3_0, s60_3_1, s60_3_2, s60_3_3, s60_3_4, s60_3_5, s60_3_6, x60_13, r60_4_l, r60_4_dr, r60_4_an, s60_4_0, s60_4_1, s60_4_2, s60_4_3, s60_4_4, s60_4_5, s60_4_6, s60_4_7, s60_4_8, s60_4_9, s60_4_10, s60_4_11, x60_14, x60_12, x60_10, x60_2, x60_0, b_60, leftE, rightE, e0, e1, hkl, pcells_length, pcells_at l k s hs, sc, pcells_off l k hkl, e2, e3, f2]
theorem edges_callW {d : Nat} {site : Nat → Nat} {seen : List Nat} {l : List Stone} {ex : Bool} (h : WP l) {k : Nat} (hk : k ≤ l.length) :
    aBack site true seen (thaw (callA E fg 1000 (d + 1)) 60 [.imm (pcells l) l.length ex, .int .i64 k] [] 0) = .pure (.tup [.int .i64 (leftE l k), .int .i64 (rightE l k)], []) :=
  aBack_ints (rs_ex (edges_runW h hk))


theorem beyond_runW {d : Nat} {l : List Stone} {ex : Bool} (h : WP l) {k : Nat} (hk : k ≤ l.length) (side : Int) : ∃ H', thaw (callA E fg 1000 (d + 2)) 36 [.imm (pcells l) l.length ex, .int .i64 k, .int .i64 side] [] 0 = some (farV side (rightE l k) (leftE l k), H') := by
  have e : callA E fg 1000 (d + 2) 36 [.imm (pcells l) l.length ex, .int .i64 k, .int .i64 side] [] 0 = bodyA E (callA E fg 1000 (d + 1)) fg 1000 36 [.imm (pcells l) l.length ex, .int .i64 k, .int .i64 side] [] 0 := rfl
  simp only [thaw, e]
  simp only [seqX_normal, bindR_some, regX_some, bodyX_ret, run_nil, run_cons, fget_cons', fput_cons', forget_nil, forget_cons', hget_nil', hget_cons', hset_nil', hset_cons', frame0, gcM, stp, opBox, justO, Rd.bind, Rd.run, upds, acells, zeroCells, tsz, aStore, opStore, opExtract, resA, resL, fresh, putC, Nat.reduceAdd, Nat.reduceBEq, Nat.reduceEqDiff, Nat.reduceLeDiff, ↓reduceIte, reduceCtorEq, liveBlk_eq, Nat.zero_add, List.nil_append, Bool.and_self, frz, putD_some, putD_none, and_true, aCall, snaps, snap, List.append_nil, Option.map_some, List.elem_cons, List.elem_nil, List.length_cons, List.length_nil, List.getElem?_cons_zero, List.getElem?_cons_succ, List.set_cons_zero, T_3, x36_1, r36_0_l, s36_0_0, s36_0_1, x36_3, r36_1_l, s36_1_0, s36_1_1, s36_1_2, s36_1_3, s36_1_4, s36_1_5, s36_1_6, s36_1_7, s36_1_8, s36_1_9, x36_5, r36_2_l, s36_2_0, s36_2_1, x36_6, x36_4, x36_2, x36_0, b_36, edges_callW h hk, frzRet, frz, List.all_cons, List.all_nil, AV.flat, List.cons_append, farV]
  exact ⟨_, rfl⟩
theorem beyond_callW {d : Nat} {site : Nat → Nat} {l : List Stone} {ex : Bool} (h : WP l) {k : Nat} (hk : k ≤ l.length) (side : Int) :
    aBack site true [] (thaw (callA E fg 1000 (d + 2)) 36 [.imm (pcells l) l.length ex, .int .i64 k, .int .i64 side] [] 0) = .pure (farV side (rightE l k) (leftE l k), []) := by
  obtain ⟨H', e⟩ := beyond_runW (d := d) (ex := ex) h hk side
  rw [e]
  rfl

theorem far_runW {C : Callee} (s : Stone) (side right left : Int) (hs : FitsW s) (h1 : -268435456 ≤ left ∧ left ≤ 306184192 ∧ -37748736 ≤ right ∧ right ≤ 306184192) :
    rsOf (bodyA E C fg 1000 61 [.agg (sc s), .iptr [.int .i64 side] 0, .iptr [.int .i64 right] 0, .iptr [.int .i64 left] 0] [] 0) = some (.int .i64 (far side right left s)) := by
  obtain ⟨_, _, p1, p2, _, _, _⟩ := hs
  have e1 : wrp .i64 (s.pos - right) = s.pos - right := wrp64 (by omega)
  have e2 : wrp .i64 (left - s.pos) = left - s.pos := wrp64 (by omega)
  simp only [sc, seqX_normal, seqX_ret, seqX_ite, bindR_some, regX_some, condX_bool, bodyX_ite, bodyX_ret, run_nil, run_cons, fget_cons', fput_cons', forget_nil, forget_cons', hget_nil', hget_cons', hset_nil', frame0, gcM, stp, opBox, just, Rd.bind, Rd.run, Rd.opt, upds, acells, rdCells, fieldOf, aFieldAddr, aLoad, resA, resL, fresh, aBin, aInt, Nat.reduceAdd, Nat.reduceBEq, Nat.reduceEqDiff, Nat.reduceLeDiff, ↓reduceIte, reduceCtorEq, liveBlk_eq, decide_eq_true_eq, Nat.zero_add, rs_ite, m_int, putD_some, Option.map_some, List.elem_cons, List.elem_nil, List.length_cons, List.length_nil, List.getElem?_cons_zero, List.getElem?_cons_succ, T_3, T_44, x61_1, r61_0_l, s61_0_0, s61_0_1, x61_4, r61_1_l, s61_1_0, s61_1_1, x61_7, r61_2_l, s61_2_0, s61_2_1, s61_2_2, s61_2_3, s61_2_4, x61_8, x61_6, x61_9, x61_5, x61_3, x61_11, r61_3_l, s61_3_0, s61_3_1, s61_3_2, s61_3_3, s61_3_4, x61_12, x61_10, x61_2, x61_0, b_61, far, e1, e2]
theorem far_boundW {s : Stone} {side right left : Int} (hs : FitsW s) (h1 : -268435456 ≤ left ∧ left ≤ 306184192 ∧ -37748736 ≤ right ∧ right ≤ 306184192) : -570425344 ≤ far side right left s ∧ far side right left s ≤ 339738624 := by
  obtain ⟨_, _, p1, p2, _, _, _⟩ := hs
  unfold far; split <;> omega
theorem far_askW {d : Nat} {site : Nat → Nat} (s : Stone) (side right left : Int) (hs : FitsW s) (h1 : -268435456 ≤ left ∧ left ≤ 306184192 ∧ -37748736 ≤ right ∧ right ≤ 306184192) :
    opCallV E (callA E fg 1000 (d + 1)) site true (farV side right left) [.agg [.int .i64 s.half, .int .i64 s.pos, .int .i64 s.least, .int .i64 s.most]] = .pure (.int .i64 (far side right left s), []) := by
  have := aBack_int (site := site) (seen := []) (rs_ex (far_runW (C := callA E fg 1000 d) s side right left hs h1))
  simp only [sc] at this
  simp only [opCallV, farV, fi_61, aCall, List.cons_append, List.nil_append, snaps, snap, Rd.bind]
  exact this
theorem term_boundW {s : Stone} {side right left : Int} (hs : FitsW s) (h1 : -268435456 ≤ left ∧ left ≤ 306184192 ∧ -37748736 ≤ right ∧ right ≤ 306184192) : -5133828096 ≤ term side right left s ∧ term side right left s ≤ 5133828096 := by
  obtain ⟨a, b⟩ := far_boundW (side := side) hs h1
  obtain ⟨_, _, _, _, l1, lm, m9⟩ := hs
  have := mul_bound (w := wt s (far side right left s)) (x := far side right left s) (M := 570425344) (by unfold wt; split <;> omega) (by unfold wt; split <;> omega) a (by omega)
  unfold term
  omega

theorem mayTerm_runW {d : Nat} (i : Int) (s : Stone) (side right left : Int) (hs : FitsW s) (h1 : -268435456 ≤ left ∧ left ≤ 306184192 ∧ -37748736 ≤ right ∧ right ≤ 306184192) :
    rsOf (bodyA E (callA E fg 1000 (d + 1)) fg 1000 74 [.int .i64 i, .agg (sc s), .iptr [farV side right left] 0] [] 0) = some (.int .i64 (term side right left s)) := by
  obtain ⟨b1, b2⟩ := term_boundW (side := side) hs h1
  have e : wrp .i64 (wt s (far side right left s) * far side right left s) = term side right left s := wrp64 (by unfold term at b1 b2; omega)
  simp only [sc, seqX_normal, bindR_some, regX_some, Bool.not_true, Bool.not_false, bodyX_ret, run_nil, run_cons, fget_cons', fput_cons', forget_nil, forget_cons', hget_nil', hget_cons', hset_nil', frame0, gcM, stp, opBox, just, Rd.bind, Rd.run, Rd.opt, upds, acells, rdCells, aLoad, resA, resL, fresh, aBin, aInt, Nat.reduceAdd, Nat.reduceMul, Nat.reduceBEq, Nat.reduceEqDiff, Nat.reduceLeDiff, ↓reduceIte, reduceCtorEq, liveBlk_eq, Nat.zero_add, rtX_some, addT_some, drX_some, runT_nil, runT_cons, neat_eq, descF_nil', descF_cons', ascH_nil', ascH_cons', stpT, Rd.foot, writing, touching, Tr.empty, dynPairs, apartT, disj, List.isEmpty_nil, List.isEmpty_cons, List.map_nil, Bool.not_false, Bool.not_true, Bool.true_or, Bool.or_false, Bool.and_true, Bool.true_and, Bool.and_self, decide_true, putD_some, aCall, snaps, snap, List.append_nil, Option.map_some, List.elem_cons, List.elem_nil, List.length_cons, List.length_nil, List.getElem?_cons_zero, List.drop_zero, List.take_succ_cons, List.take_nil, T_44, T_67, x74_1, r74_0_l, s74_0_0, s74_0_1, x74_3, r74_1_l, r74_1_dr, r74_1_an, s74_1_0, s74_1_1, s74_1_2, s74_1_3, s74_1_4, s74_1_5, s74_1_6, s74_1_7, s74_1_8, s74_1_9, x74_4, x74_2, x74_0, b_74, callVT_eq (far_pure _ _ _ _), far_askW s side right left hs h1, worst_call, e]


theorem may_asksW {d : Nat} {l : List Stone} (h : WP l) {k : Nat} (hk : k ≤ l.length) (side : Int) :
    Asks (callA E fg 1000 (d + 2)) (.clo 74 [.iptr [farV side (rightE l k) (leftE l k)] 0]) (fun i => [.agg (sc (l.getD i default))]) (fun i => term side (rightE l k) (leftE l k) (l.getD i default)) k l.length := by
  refine ⟨fun _ => rfl, fun site i _ hi => ?_⟩
  obtain ⟨s, hs⟩ := at_ex hi
  have hg : l.getD i default = s := by simp [hs]
  have := aBack_int (site := site) (seen := []) (rs_ex (mayTerm_runW (d := d) i s side (rightE l k) (leftE l k) (h.fits i s hs) (edge_boundsW h hk)))
  simp only [hg]
  simp only [sc] at this
  simp only [sc, opCallV, fi_74, aCall, List.cons_append, List.nil_append, snaps, snap, Rd.bind]
  exact this

theorem may_runW {d : Nat} {l : List Stone} {ex : Bool} (h : WP l) {k : Nat} (hk : k ≤ l.length) (side : Int) : rsOf (callA E fg 1000 (d + 4) 59 [.imm (pcells l) l.length ex, .int .i64 k, .int .i64 side] [] 0) = some (.bool (mayTip l k side)) := by
  have hsum := fun site seen => aBack_int (site := site) (seen := seen) (rs_ex (sumP_run (ex := ex) hk h.le (may_asksW (d := d) h hk side) (by rfl) (fun i h1 h2 => by
    obtain ⟨s, hs⟩ := at_ex h2
    have hg : l.getD i default = s := by simp [hs]
    obtain ⟨b1, b2⟩ := term_boundW (side := side) (h.fits i s hs) (edge_boundsW h hk)
    simp only [hg]
    omega)))
  have hs2 : ∀ (args : List AV), bodyA E (callA E fg 1000 (d + 2)) fg 1000 73 args [] 0 = callA E fg 1000 (d + 3) 73 args [] 0 := fun _ => rfl
  have hsum2 : ∀ site seen, aBack site true seen (thaw (callA E fg 1000 (d + 3)) 73 [.imm (pcells l) l.length ex, .int .i64 k, .clo 74 [.iptr [farV side (rightE l k) (leftE l k)] 0]] [] 0) = .pure (.int .i64 (worstSum l k side), []) := fun site seen => hsum site seen
  change rsOf (bodyA E (callA E fg 1000 (d + 3)) fg 1000 59 _ _ _) = _
  have hbc := fun site => beyond_callW (d := d + 1) (site := site) (ex := ex) h hk side
  simp only [farV] at hbc hsum2
  simp only [seqX_normal, bindR_some, regX_some, bodyX_ret, run_nil, run_cons, fget_cons', fput_cons', forget_nil, forget_cons', hget_nil', hget_cons', hset_nil', hset_cons', frame0, gcM, stp, opBox, just, Rd.bind, Rd.run, Rd.opt, upds, acells, zeroCells, tsz, aStore, opStore, resA, resL, fresh, aBin, aInt, putC, Nat.reduceAdd, Nat.reduceBEq, Nat.reduceEqDiff, Nat.reduceLeDiff, ↓reduceIte, reduceCtorEq, liveBlk_eq, Nat.zero_add, List.nil_append, frz, putD_some, putD_none, and_true, aCall, snaps, snap, List.append_nil, Option.map_some, List.elem_cons, List.elem_nil, List.length_cons, List.length_nil, List.set_cons_zero, T_67, x59_1, r59_0_l, s59_0_0, x59_3, r59_1_l, s59_1_0, s59_1_1, s59_1_2, s59_1_3, s59_1_4, s59_1_5, x59_5, r59_2_l, s59_2_0, s59_2_1, s59_2_2, s59_2_3, s59_2_4, s59_2_5, x59_6, x59_4, x59_2, x59_0, b_59, hbc, hsum2, mayTip]
theorem may_callW {d : Nat} {site : Nat → Nat} {seen : List Nat} {l : List Stone} {ex : Bool} (h : WP l) {k : Nat} (hk : k ≤ l.length) (side : Int) :
    aBack site true seen (thaw (callA E fg 1000 (d + 4)) 59 [.imm (pcells l) l.length ex, .int .i64 k, .int .i64 side] [] 0) = .pure (.bool (mayTip l k side), []) :=
  aBack_bool (rs_ex (may_runW h hk side))


theorem weak_loopW {d : Nat} {l : List Stone} {ex : Bool} (h : WP l) : ∀ (m k F : Nat) (H : AHeap), k + m = l.length → m < F →
    iterA (execA E (callA E fg 1000 (d + 4)) (fg 33) 0 19 [] 1000 c33_7) (headA []) F ([(6, .int .i64 k), (5, .int .i64 l.length), (0, .imm (pcells l) l.length ex)], H) =
      if weakFrom l k m = -1 then some (.exit 0, [(7, .bool false), (6, .int .i64 l.length), (5, .int .i64 l.length), (0, .imm (pcells l) l.length ex)], []) else some (.ret, [(2, .int .i64 (weakFrom l k m))], [])
  | 0, k, F + 1, H, hk, _ => by
    obtain rfl : k = l.length := by omega
    rw [iterA_succ]
    simp only [seqX_normal, seqX_exit, bindR_some, regX_some, condX_bool, run_nil, run_cons, fget_cons', fput_cons', forget_nil, forget_cons', gcM, stp, just, Rd.bind, Rd.run, Rd.opt, upds, aBin, aInt, Nat.reduceEqDiff, Nat.reduceLeDiff, Int.reduceNeg, ↓reduceIte, headA_drop, refsF, refsOf, decide_false, putD_some, List.append_nil, List.elem_nil, x33_8, r33_2_l, s33_2_0, x33_11, x33_12, x33_10, x33_9, x33_7, Int.lt_irrefl, decide_false, Bool.false_eq_true, weakFrom]
  | m + 1, k, F + 1, H, hk, hF => by
    have hkl : k < l.length := by omega
    have ih := weak_loopW (d := d) (ex := ex) h m (k + 1) F [] (by omega) (by omega)
    have hne : (k : Int) ≠ -1 := by omega
    rw [iterA_succ]
    simp only [seqX_normal, seqX_ret, seqX_ite, bindR_some, bindR_ite, regX_some, regX_ite, condX_bool, blockX_normal, blockX_ret, blockX_ite, ↓gd, fset_cons, Bool.not_false, run_nil, run_cons, fget_cons', fput_cons', forget_nil, forget_cons', gcM, stp, opPick, just, Rd.bind, Rd.run, Rd.opt, upds, aBin, aInt, Nat.reduceBEq, Nat.reduceEqDiff, Nat.reduceLeDiff, Int.reduceNeg, ↓reduceIte, reduceCtorEq, Nat.zero_add, headA_drop, refsF, refsOf, Bool.not_false, decide_true, putD_some, Int.ofNat_lt, aCall, snaps, snap, List.append_nil, List.elem_cons, List.elem_nil, x33_8, r33_2_l, s33_2_0, x33_11, x33_12, x33_10, x33_16, r33_3_l, s33_3_0, s33_3_1, x33_18, r33_4_l, s33_4_0, s33_4_1, s33_4_2, s33_4_3, s33_4_4, s33_4_5, s33_4_6, s33_4_7, x33_21, r33_5_l, s33_5_0, s33_5_1, x33_22, x33_20, x33_23, x33_19, x33_17, x33_15, x33_14, x33_24, r33_6_l, s33_6_0, s33_6_1, x33_13, x33_9, x33_7, hkl, may_callW h (Nat.le_of_lt hkl), wrp_succ (show k < 1000000 by have := h.le; omega), ih, weakFrom]
    by_cases h1 : mayTip l k 1 = true <;> by_cases h2 : mayTip l k (-1) = true <;> simp [h1, h2, hne]

theorem weak_runW {d : Nat} {l : List Stone} {ex : Bool} (h : WP l) : rsOf (callA E fg 1000 (d + 5) 33 [.imm (pcells l) l.length ex] [] 0) = some (.int .i64 (weakL l)) := by
  change rsOf (bodyA E (callA E fg 1000 (d + 4)) fg 1000 33 _ _ _) = _
  have hl := weak_loopW (d := d) (ex := ex) h l.length 0 1000 [] (by omega) (by have := h.le; omega)
  simp only [Int.natCast_zero] at hl
  by_cases hw : weakFrom l 0 l.length = -1
  · simp only [hw, if_true] at hl
    simp only [seqX_normal, bindR_some, regX_some, blockX_exit, bodyX_ret, run_nil, run_cons, fget_cons', fput_nil, fput_cons', forget_nil, forget_cons', frame0, gcM, stp, just, Rd.bind, Rd.run, upds, resA, resL, aLen, aBuiltin, Nat.reduceBEq, Nat.reduceEqDiff, Nat.reduceLeDiff, Int.reduceNeg, ↓reduceIte, reduceCtorEq, List.getElem?_toArray, putD_some, Option.map_some, List.elem_cons, List.elem_nil, List.getElem?_cons_zero, T_27, x33_1, r33_0_l, s33_0_0, x33_4, r33_1_l, s33_1_0, s33_1_1, s33_1_2, x33_6, x33_5, x33_3, x33_26, r33_7_l, s33_7_0, x33_27, x33_25, x33_2, x33_0, b_33, hl, weakL, hw]
  · simp only [hw, if_false] at hl
    simp only [seqX_normal, seqX_ret, bindR_some, regX_some, blockX_ret, bodyX_ret, run_nil, run_cons, fget_cons', fput_cons', forget_nil, forget_cons', frame0, gcM, stp, just, Rd.bind, Rd.run, upds, resA, resL, aLen, aBuiltin, Nat.reduceBEq, Nat.reduceEqDiff, Nat.reduceLeDiff, ↓reduceIte, reduceCtorEq, List.getElem?_toArray, putD_some, Option.map_some, List.elem_cons, List.elem_nil, List.getElem?_cons_zero, T_27, x33_1, r33_0_l, s33_0_0, x33_4, r33_1_l, s33_1_0, s33_1_1, s33_1_2, x33_6, x33_5, x33_3, x33_2, x33_0, b_33, hl, weakL]
theorem weak_callW {d : Nat} {site : Nat → Nat} {seen : List Nat} {l : List Stone} {ex : Bool} (h : WP l) : aBack site true seen (thaw (callA E fg 1000 (d + 5)) 33 [.imm (pcells l) l.length ex] [] 0) = .pure (.int .i64 (weakL l), []) :=
  aBack_int (rs_ex (weak_runW h))


end Go.AM.Ytikchlfbjdfioaa
