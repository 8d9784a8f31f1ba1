/- Worst truths: a list is built. Own work of this project. -/
import Derived.Test.YtikchlfbjdfioaaPropF
namespace Go.AM.Ytikchlfbjdfioaa
open Go Go.AM
set_option maxRecDepth 100000
set_option maxHeartbeats 1000000

theorem room3 {n : Nat} (h : n ≤ 1000000) : roomOk E.T 3 n = true := by
  simp only [roomOk, T_3, decide_eq_true_eq]; exact ⟨by decide, rfl, by omega⟩
theorem window_all {cs : List AV} {n : Nat} (h : cs.length = n) : window cs 0 n = cs := by
  simp only [window, List.drop_zero]; exact List.take_of_length_le (by omega)
theorem icells_snoc (l : List Int) (z : Int) : icells l ++ [.int .i64 z] = icells (l ++ [z]) := by simp [icells]

def worstW (l : List Stone) (k : Nat) (side : Int) (i : Nat) : Int := if k ≤ i then wt (l.getD i default) (far side (rightE l k) (leftE l k) (l.getD i default)) else (l.getD i default).least
def worstL (l : List Stone) (k : Nat) (side : Int) : List Int := (List.range l.length).map (worstW l k side)
/-- A list that is being built, and its heap. -/
def outV (id : Nat) : List Int → AV
  | [] => .nilsl
  | z :: l => .ref id 0 (l.length + 1) (l.length + 1) (l.length + 1) 1 false
def outH (id : Nat) : List Int → AHeap
  | [] => []
  | z :: l => [(id, ⟨.row, icells (z :: l)⟩)]

theorem take_icells (a : Int) (o : List Int) : List.take (o.length + 1) (icells (a :: o)) = icells (a :: o) := List.take_of_length_le (by simp [icells])

theorem worst_round {d : Nat} {l : List Stone} {ex : Bool} (h : OkP l) {k : Nat} (hk : k ≤ l.length) (side : Int) (i : Nat) (hi : i < l.length) (out : List Int) (ho : out.length = i) :
    ∃ s', execA E (callA E fg 1000 (d + 1)) (fg 14) 0 48 [] 1000 c14_21 ([(27, .int .i64 i), (26, .int .i64 l.length), (25, .imm (pcells l) l.length ex), (10, outV 45 out), (9, farV side (rightE l k) (leftE l k)), (1, .int .i64 k)], outH 45 out) = some (.normal, s') ∧
      headA [] s' = ([(27, .int .i64 (i + 1 : Nat)), (26, .int .i64 l.length), (25, .imm (pcells l) l.length ex), (10, outV 45 (out ++ [worstW l k side i])), (9, farV side (rightE l k) (leftE l k)), (1, .int .i64 k)], outH 45 (out ++ [worstW l k side i])) := by
  obtain ⟨s, hs⟩ := at_ex hi
  have hg : l.getD i default = s := by simp [hs]
  have hle := h.le
  have ew : worstW l k side i = if k ≤ i then wt s (far side (rightE l k) (leftE l k) s) else s.least := by unfold worstW; rw [hg]
  rw [ew]
  cases out with
  | nil =>
    simp only [outV, outH, List.nil_append]
    by_cases hki : k ≤ i
    · have hki' : (i : Int) ≥ k := by omega
      simp only [seqX_normal, bindR_some, regX_some, condX_bool, blockX_normal, Bool.not_true, Bool.not_false, run_nil, run_cons, fget_cons', fput_cons', forget_nil, forget_cons', hget_nil', hget_cons', hset_nil', hset_cons', gcM, stp, opBox, just, Rd.bind, Rd.run, Rd.opt, upds, acells, zeroCells, tsz, elemT, rdCells, fieldOf, aFieldAddr, aLoad, aStore, opStore, fresh, aIndexAddr, aNum, aBuiltin, aBin, aInt, putC, evO, Nat.reduceAdd, Nat.reduceMul, Nat.reduceLT, Nat.reduceGT, Nat.reduceBEq, Nat.reduceEqDiff, Nat.reduceLeDiff, ↓reduceIte, reduceCtorEq, liveBlk_eq, Nat.zero_add, ne_eq, List.nil_append, List.getElem?_toArray, rtX_some, addT_some, drX_some, runT_nil, runT_cons, neat_eq, descF_nil', descF_cons', ascH_nil', ascH_cons', stpT, Rd.foot, writing, touching, Tr.empty, dynPairs, apartT, disj, List.isEmpty_nil, List.isEmpty_cons, List.map_nil, Bool.not_false, Bool.not_true, Bool.true_or, Bool.or_false, Bool.and_true, Bool.true_and, Bool.and_self, decide_true, not_true_eq_false, or_self, aBuildSlice, partsOf, fillA, repC, frz, isSliceT, aAppend, srcOf, window, putD_some, putD_none, and_true, Int.natCast_nonneg, Int.ofNat_lt, Int.toNat_natCast, aCall, snaps, snap, List.append_nil, List.elem_cons, List.elem_nil, List.length_cons, List.length_nil, List.getElem?_cons_zero, List.getElem?_cons_succ, List.drop_zero, List.take_succ_cons, List.take_nil, List.set_cons_zero, List.set_cons_succ, T_3, T_27, T_36, T_44, x14_22, r14_7_l, s14_7_0, x14_25, x14_26, x14_24, x14_30, r14_8_l, s14_8_0, s14_8_1, s14_8_2, s14_8_3, s14_8_4, s14_8_5, x14_32, r14_9_l, s14_9_0, s14_9_1, s14_9_2, x14_35, r14_10_l, s14_10_0, s14_10_1, s14_10_2, x14_37, r14_11_l, r14_11_dr, r14_11_an, s14_11_0, s14_11_1, s14_11_2, s14_11_3, s14_11_4, s14_11_5, x14_38, x14_36, x14_34, x14_39, r14_12_l, s14_12_0, s14_12_1, s14_12_2, s14_12_3, s14_12_4, x14_33, x14_31, x14_29, x14_28, x14_40, r14_13_l, s14_13_0, s14_13_1, x14_27, x14_23, x14_21, hi, pcells_length, pcells_at l i s hs, sc, pcells_off l i hi, wrp_succ (show i < 1000000 by omega), hki, hki', callVT_eq (far_pure _ _ _ _), far_ask s side _ _ (h.fits i s hs) (edge_bounds h hk), worst_call, room3 (show 1 ≤ 1000000 by omega)]
      exact ⟨_, rfl, rfl⟩
    · have hki' : ¬ (i : Int) ≥ k := by omega
      simp only [seqX_normal, bindR_some, regX_some, condX_bool, blockX_normal, run_nil, run_cons, fget_cons', fput_cons', forget_nil, forget_cons', hget_nil', hget_cons', hset_nil', hset_cons', gcM, stp, opBox, just, Rd.bind, Rd.run, Rd.opt, upds, acells, zeroCells, tsz, elemT, rdCells, fieldOf, aFieldAddr, aLoad, aStore, opStore, fresh, aIndexAddr, aNum, aBuiltin, aBin, aInt, putC, evO, Nat.reduceAdd, Nat.reduceMul, Nat.reduceLT, Nat.reduceGT, Nat.reduceBEq, Nat.reduceEqDiff, Nat.reduceLeDiff, ↓reduceIte, reduceCtorEq, liveBlk_eq, Nat.zero_add, ne_eq, List.nil_append, List.getElem?_toArray, rtX_some, runT_cons, neat_eq, descF_nil', descF_cons', ascH_nil', ascH_cons', stpT, Rd.foot, List.map_nil, Bool.and_self, decide_true, decide_false, not_true_eq_false, or_self, aBuildSlice, partsOf, fillA, repC, frz, isSliceT, aAppend, srcOf, window, putD_some, putD_none, and_true, Int.natCast_nonneg, Int.ofNat_lt, Int.toNat_natCast, snaps, snap, List.append_nil, List.elem_cons, List.elem_nil, List.length_cons, List.length_nil, List.getElem?_cons_zero, List.getElem?_cons_succ, List.drop_zero, List.take_succ_cons, List.take_nil, List.set_cons_zero, List.set_cons_succ, T_3, T_27, T_36, T_44, x14_22, r14_7_l, s14_7_0, x14_25, x14_26, x14_24, x14_30, r14_8_l, s14_8_0, s14_8_1, s14_8_2, s14_8_3, s14_8_4, s14_8_5, x14_32, r14_9_l, s14_9_0, s14_9_1, s14_9_2, x14_35, r14_10_l, s14_10_0, s14_10_1, s14_10_2, x14_37, r14_11_l, r14_11_dr, s14_11_0, s14_11_1, s14_11_2, s14_11_3, x14_38, x14_36, x14_34, x14_39, r14_12_l, s14_12_0, s14_12_1, s14_12_2, s14_12_3, s14_12_4, x14_33, x14_31, x14_29, x14_28, x14_40, r14_13_l, s14_13_0, s14_13_1, x14_27, x14_23, x14_21, hi, pcells_length, pcells_at l i s hs, sc, pcells_off l i hi, wrp_succ (show i < 1000000 by omega), hki, hki', room3 (show 1 ≤ 1000000 by omega)]
      exact ⟨_, rfl, rfl⟩
  | cons a o =>
    have hlen : (icells (a :: o)).length = o.length + 1 := by simp [icells]
    have hno : ¬ o.length + 1 + 1 ≤ o.length + 1 := by omega
    have ho2 : o.length + 1 = i := by simpa using ho
    simp only [outV, outH, List.cons_append]
    by_cases hki : k ≤ i
    · have hki' : (i : Int) ≥ k := by omega
      simp only [seqX_normal, bindR_some, regX_some, condX_bool, blockX_normal, Bool.not_true, Bool.not_false, run_nil, run_cons, fget_cons', fput_cons', forget_nil, forget_cons', hget_nil', hget_cons', hset_cons', gcM, stp, opBox, just, Rd.bind, Rd.run, Rd.opt, upds, acells, zeroCells, tsz, elemT, rdCells, fieldOf, aFieldAddr, aLoad, aStore, opStore, fresh, aIndexAddr, aNum, aBuiltin, aBin, aInt, putC, evO, Nat.reduceAdd, Nat.reduceMul, Nat.reduceLT, Nat.reduceGT, Nat.reduceBEq, Nat.reduceEqDiff, Nat.reduceLeDiff, ↓reduceIte, reduceCtorEq, liveBlk_eq, Nat.zero_add, ne_eq, List.nil_append, List.getElem?_toArray, rtX_some, addT_some, drX_some, runT_nil, runT_cons, neat_eq, descF_nil', descF_cons', ascH_nil', ascH_cons', stpT, Rd.foot, writing, touching, Tr.empty, dynPairs, apartT, disj, List.isEmpty_nil, List.isEmpty_cons, List.map_nil, Bool.not_false, Bool.not_true, Bool.true_or, Bool.or_false, Bool.and_true, Bool.true_and, Bool.and_self, decide_true, not_true_eq_false, or_self, aBuildSlice, partsOf, fillA, repC, frz, isSliceT, aAppend, srcOf, window, putD_some, putD_none, and_true, Int.natCast_nonneg, Int.ofNat_lt, Int.toNat_natCast, aCall, snaps, snap, List.append_nil, List.elem_cons, List.elem_nil, List.length_cons, List.length_nil, List.getElem?_cons_zero, List.getElem?_cons_succ, List.drop_zero, List.take_succ_cons, List.take_nil, List.set_cons_zero, List.set_cons_succ, T_3, T_27, T_36, T_44, x14_22, r14_7_l, s14_7_0, x14_25, x14_26, x14_24, x14_30, r14_8_l, s14_8_0, s14_8_1, s14_8_2, s14_8_3, s14_8_4, s14_8_5, x14_32, r14_9_l, s14_9_0, s14_9_1, s14_9_2, x14_35, r14_10_l, s14_10_0, s14_10_1, s14_10_2, x14_37, r14_11_l, r14_11_dr, r14_11_an, s14_11_0, s14_11_1, s14_11_2, s14_11_3, s14_11_4, s14_11_5, x14_38, x14_36, x14_34, x14_39, r14_12_l, s14_12_0, s14_12_1, s14_12_2, s14_12_3, s14_12_4, x14_33, x14_31, x14_29, x14_28, x14_40, r14_13_l, s14_13_0, s14_13_1, x14_27, x14_23, x14_21, hi, pcells_length, pcells_at l i s hs, sc, pcells_off l i hi, wrp_succ (show i < 1000000 by omega), hki, hki', callVT_eq (far_pure _ _ _ _), far_ask s side _ _ (h.fits i s hs) (edge_bounds h hk), worst_call,
        room3 (show o.length + 1 + 1 ≤ 1000000 by omega), hlen, hno, take_icells, icells_snoc, Nat.mul_one, Nat.le_refl]
      exact ⟨_, rfl, by simp [List.length_append]; rfl⟩
    · have hki' : ¬ (i : Int) ≥ k := by omega
      simp only [seqX_normal, bindR_some, regX_some, condX_bool, blockX_normal, run_nil, run_cons, fget_cons', fput_cons', forget_nil, forget_cons', hget_nil', hget_cons', hset_cons', gcM, stp, opBox, just, Rd.bind, Rd.run, Rd.opt, upds, acells, zeroCells, tsz, elemT, rdCells, fieldOf, aFieldAddr, aLoad, aStore, opStore, fresh, aIndexAddr, aNum, aBuiltin, aBin, aInt, putC, evO, Nat.reduceAdd, Nat.reduceMul, Nat.reduceLT, Nat.reduceGT, Nat.reduceBEq, Nat.reduceEqDiff, Nat.reduceLeDiff, ↓reduceIte, reduceCtorEq, liveBlk_eq, Nat.zero_add, ne_eq, List.nil_append, List.getElem?_toArray, rtX_some, runT_cons, neat_eq, descF_nil', descF_cons', ascH_nil', ascH_cons', stpT, Rd.foot, List.map_nil, Bool.and_self, decide_true, decide_false, not_true_eq_false, or_self, aBuildSlice, partsOf, fillA, repC, frz, isSliceT, aAppend, srcOf, window, putD_some, putD_none, and_true, Int.natCast_nonneg, Int.ofNat_lt, Int.toNat_natCast, snaps, snap, List.append_nil, List.elem_cons, List.elem_nil, List.length_cons, List.length_nil, List.getElem?_cons_zero, List.getElem?_cons_succ, List.drop_zero, List.take_succ_cons, List.take_nil, List.set_cons_zero, List.set_cons_succ, T_3, T_27, T_36, T_44, x14_22, r14_7_l, s14_7_0, x14_25, x14_26, x14_24, x14_30, r14_8_l, s14_8_0, s14_8_1, s14_8_2, s14_8_3, s14_8_4, s14_8_5, x14_32, r14_9_l, s14_9_0, s14_9_1, s14_9_2, x14_35, r14_10_l, s14_10_0, s14_10_1, s14_10_2, x14_37, r14_11_l, r14_11_dr, s14_11_0, s14_11_1, s14_11_2, s14_11_3, x14_38, x14_36, x14_34, x14_39, r14_12_l, s14_12_0, s14_12_1, s14_12_2, s14_12_3, s14_12_4, x14_33, x14_31, x14_29, x14_28, x14_40, r14_13_l, s14_13_0, s14_13_1, x14_27, x14_23, x14_21, hi, pcells_length, pcells_at l i s hs, sc, pcells_off l i hi, wrp_succ (show i < 1000000 by omega), hki, hki', room3 (show o.length + 1 + 1 ≤ 1000000 by omega), hlen, hno, take_icells, icells_snoc, Nat.mul_one, Nat.le_refl]
      exact ⟨_, rfl, by simp [List.length_append]; rfl⟩

def worstI (l : List Stone) (k : Nat) (side : Int) (i : Nat) : List Int := (List.range i).map (worstW l k side)
theorem worstI_succ (l : List Stone) (k : Nat) (side : Int) (i : Nat) : worstI l k side (i + 1) = worstI l k side i ++ [worstW l k side i] := by simp [worstI, List.range_succ]
theorem worstI_length (l : List Stone) (k : Nat) (side : Int) (i : Nat) : (worstI l k side i).length = i := by simp [worstI]
theorem outV_ne {id : Nat} {l : List Int} (h : 0 < l.length) : outV id l = .ref id 0 l.length l.length l.length 1 false ∧ outH id l = [(id, ⟨.row, icells l⟩)] := by
  cases l with
  | nil => simp at h
  | cons a o => exact ⟨rfl, rfl⟩

theorem worst_list_run {d : Nat} {l : List Stone} {ex : Bool} {k : Nat} {side : Int} (h0 : sidedE l k side = 0) : callA E fg 1000 (d + 5) 14 [.imm (pcells l) l.length ex, .int .i64 k, .int .i64 side] [] 0 = some (.tup [.ref 45 0 l.length l.length l.length 1 false, .int .i64 0], [(45, ⟨.row, icells (worstI l k side l.length)⟩)]) := by
  change bodyA E (callA E fg 1000 (d + 4)) fg 1000 14 _ _ _ = _
  obtain ⟨h, z0, z1, _⟩ := sided_zero h0
  have hk : k ≤ l.length := by omega
  have hle := h.le
  have hc := fun (site : Nat → Nat) seen => sided_call (d := d) (site := site) (seen := seen) (a := .imm (pcells l) l.length ex) (l := l) (.inr ⟨ex, rfl⟩) k side
  have hbc := fun site => beyond_call (d := d + 2) (site := site) (ex := ex) h hk side
  obtain ⟨e1, e2⟩ := outV_ne (id := 45) (l := worstI l k side l.length) (by rw [worstI_length]; exact h.ne)
  rw [worstI_length] at e1
  have hloop := iter_all (f := execA E (callA E fg 1000 (d + 4)) (fg 14) 0 48 [] 1000 c14_21) (hd := headA []) (fun i => ([(27, .int .i64 i), (26, .int .i64 l.length), (25, .imm (pcells l) l.length ex), (10, outV 45 (worstI l k side i)), (9, farV side (rightE l k) (leftE l k)), (1, .int .i64 k)], outH 45 (worstI l k side i))) l.length 1000 0
    ([(27, .int .i64 0), (26, .int .i64 l.length), (25, .imm (pcells l) l.length ex), (10, .nilsl), (9, farV side (rightE l k) (leftE l k)), (1, .int .i64 k)], []) (by rw [headA_nil]; rfl) (by omega) (fun i h1 h2 => by
      have := worst_round (d := d + 3) (ex := ex) h hk side i (by omega) (worstI l k side i) (worstI_length l k side i)
      rw [worstI_succ]
      exact this) (e := .exit 0) (se := ([(28, .bool false), (27, .int .i64 l.length), (26, .int .i64 l.length), (25, .imm (pcells l) l.length ex), (10, .ref 45 0 l.length l.length l.length 1 false), (9, farV side (rightE l k) (leftE l k)), (1, .int .i64 k)], [(45, ⟨.row, icells (worstI l k side l.length)⟩)])) (by
      rw [Nat.zero_add]
      simp only [seqX_normal, seqX_exit, bindR_some, regX_some, condX_bool, run_nil, run_cons, fget_cons', fput_cons', forget_nil, forget_cons', gcM, stp, just, Rd.bind, Rd.run, Rd.opt, upds, aBin, aInt, Nat.reduceEqDiff, Nat.reduceLeDiff, ↓reduceIte, decide_false, putD_some, List.elem_nil, x14_22, r14_7_l, s14_7_0, x14_25, x14_26, x14_24, x14_23, x14_21, Int.lt_irrefl, decide_false, Bool.false_eq_true, e1, e2]) (by simp)
  simp only [farV] at hloop hbc
  simp only [seqX_normal, bindR_some, regX_some, condX_bool, blockX_exit, bodyX_ret, run_nil, run_cons, fget_cons', fput_nil, fput_cons', forget_nil, forget_cons', frame0, gcM, stp, just, Rd.bind, Rd.run, Rd.opt, upds, resA, resL, aLen, aBuiltin, aBin, aInt, Nat.reduceAdd, Nat.reduceBEq, Nat.reduceEqDiff, Nat.reduceLeDiff, ↓reduceIte, reduceCtorEq, Nat.zero_add, bne_iff_ne, ne_eq, List.getElem?_toArray, not_true_eq_false, putD_some, aCall, snaps, snap, List.append_nil, Option.map_some, List.elem_cons, List.elem_nil, List.getElem?_cons_zero, T_27, x14_1, r14_0_l, s14_0_0, s14_0_1, x14_4, r14_1_l, s14_1_0, s14_1_1, s14_1_2, s14_1_3, s14_1_4, x14_6, r14_2_l, s14_2_0, s14_2_1, x14_9, r14_3_l, s14_3_0, s14_3_1, s14_3_2, x14_10, x14_8, x14_11, x14_7, x14_5, x14_3, x14_13, r14_4_l, s14_4_0, s14_4_1, s14_4_2, s14_4_3, s14_4_4, x14_15, r14_5_l, s14_5_0, x14_18, r14_6_l, s14_6_0, s14_6_1, s14_6_2, x14_20, x14_19, x14_17, x14_42, r14_14_l, s14_14_0, s14_14_1, s14_14_2, x14_43, x14_41, x14_16, x14_14, x14_12, x14_2, x14_0, b_14, hc, h0, hbc, hloop]

theorem worst_list_err {d : Nat} {a : AV} {l : List Stone} (ha : IsP a l) {z side : Int} (h0 : ¬ sidedE l z side = 0) : rsOf (callA E fg 1000 (d + 5) 14 [a, .int .i64 z, .int .i64 side] [] 0) = some (.tup [.nilsl, .int .i64 (sidedE l z side)]) := by
  change rsOf (bodyA E (callA E fg 1000 (d + 4)) fg 1000 14 _ _ _) = _
  have hc := fun (site : Nat → Nat) seen => sided_call (d := d) (site := site) (seen := seen) ha z side
  rcases ha with ⟨rfl, rfl⟩ | ⟨ex, rfl⟩ <;> simp only [seqX_normal, seqX_ret, bindR_some, regX_some, condX_bool, bodyX_ret, run_nil, run_cons, fget_cons', fput_cons', forget_nil, forget_cons', frame0, gcM, stp, just, Rd.bind, Rd.run, Rd.opt, upds, resA, resL, aBin, aInt, Nat.reduceAdd, Nat.reduceBEq, Nat.reduceEqDiff, Nat.reduceLeDiff, ↓reduceIte, reduceCtorEq, Nat.zero_add, bne_iff_ne, ne_eq, not_false_eq_true, putD_some, aCall, snaps, snap, List.append_nil, Option.map_some, List.elem_cons, List.elem_nil, x14_1, r14_0_l, s14_0_0, s14_0_1, x14_4, r14_1_l, s14_1_0, s14_1_1, s14_1_2, s14_1_3, s14_1_4, x14_6, r14_2_l, s14_2_0, s14_2_1, x14_9, r14_3_l, s14_3_0, s14_3_1, s14_3_2, x14_10, x14_8, x14_11, x14_7, x14_5, x14_3, x14_2, x14_0, b_14, hc, h0]
end Go.AM.Ytikchlfbjdfioaa
