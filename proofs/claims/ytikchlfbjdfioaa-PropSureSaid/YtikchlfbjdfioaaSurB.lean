/- Corners that PropSure's closures visit: nothing passes the worst truth (printed by gensurb.py). Own work of this project. -/
import Derived.Test.YtikchlfbjdfioaaSurA
import Derived.Test.YtikchlfbjdfioaaSyE
namespace Go.AM.Ytikchlfbjdfioaa
open Go Go.AM
set_option maxRecDepth 100000
set_option maxHeartbeats 4000000

theorem take_pc2 (l : List Stone) : List.take (l.length * 4) (pcells l) = pcells l := List.take_of_length_le (by rw [pcells_length]; exact Nat.le_refl _)
def sid (set : Nat) : Nat := if set.testBit 0 = true then 2022 else 2027
theorem sid_or (set : Nat) : sid set = 2022 ∨ sid set = 2027 := by unfold sid; split <;> simp
theorem outS_cw {l : List Stone} (h : OkP l) (set : Nat) : outV (sid set) (cwI l set l.length) = .ref (sid set) 0 l.length l.length l.length 1 false ∧ outH (sid set) (cwI l set l.length) = [(sid set, ⟨.row, icells (cwI l set l.length)⟩)] := by
  have := outV_ne (id := sid set) (l := cwI l set l.length) (by rw [cwI_length]; exact h.ne)
  rw [cwI_length] at this
  exact this
abbrev lref (l : List Stone) : AV := .ref 31 0 l.length l.length (l.length * 4) 4 false

abbrev srH (l : List Stone) (k : Nat) (M : Int) (ws wa : List Int) : AHeap := [(5, ⟨.box, [.ref 31 0 l.length l.length (l.length * 4) 4 false]⟩), (12, ⟨.box, [.int .i64 k]⟩), (21, ⟨.box, [.int .i64 M]⟩), (31, ⟨.froz, pcells l⟩), (84, ⟨.row, icells ws⟩), (100, ⟨.row, icells wa⟩)]
abbrev srC : AV := .clo 17 [.ptr 5 0 1, .ptr 12 0 1, .ptr 21 0 1]
theorem srmut (caps args : List AV) : mutV E (.clo 17 caps) args = some (17, args ++ caps) := rfl

theorem sr_round {C : Callee} {l : List Stone} (h : OkP l) (k : Nat) (M : Int) (ws wa : List Int) (set n2 : Nat) (hset : set < 32) (i : Nat) (hi : i < l.length) (out : List Int) (ho : out.length = i) :
    ∃ s', execA E C (fg 16) 1992 41 (srH l k M ws wa) 1000 c16_21 ([(16, .int .i64 i), (15, .int .i64 l.length), (14, lref l), (11, .int .i64 set), (10, .int .i64 n2), (5, outV (sid set) out), (4, .int .i64 set), (1, srC), (0, lref l)], srH l k M ws wa ++ outH (sid set) out) = some (.normal, s') ∧
      headA (srH l k M ws wa) s' = ([(16, .int .i64 (i + 1 : Nat)), (15, .int .i64 l.length), (14, lref l), (11, .int .i64 set), (10, .int .i64 n2), (5, outV (sid set) (out ++ [cw l set i])), (4, .int .i64 set), (1, srC), (0, lref l)], srH l k M ws wa ++ outH (sid set) (out ++ [cw l set i])) := by
  obtain ⟨s, hs⟩ := at_ex hi
  have hle := h.le
  have hs' : l.getD i default = s := by simp [hs]
  have hba := bit_and set hset i (by omega)
  have hbits : IntKind.i64.bits = 64 := rfl
  have hin : ¬ (i : Int) < 0 := by omega
  have e : cw l set i = if set.testBit i = true then s.most else s.least := by rw [cw, hs']
  rw [e]
  simp only [lref, srC]
  cases out with
  | nil =>
    have h0 : i = 0 := by simpa using ho.symm
    simp only [outV, outH, List.nil_append, List.append_nil]
    by_cases hb : set.testBit i = true
    · have hbi : bitI set i = 1 := by rw [bitI, if_pos hb]
      rw [hbi] at hba
      have hc : sid set = 2022 := by rw [sid, ← h0, if_pos hb]
      rw [if_pos hb, hc]
      simp only [seqX_normal, bindR_some, regX_some, condX_bool, blockX_normal, run_nil, run_cons, fget_cons', fput_cons', forget_nil, forget_cons', hget_nil', hget_cons', hset_nil', hset_cons', gcM, stp, opBox, just, Rd.bind, Rd.run, Rd.opt, upds, acells, zeroCells, tsz, elemT, rdCells, fieldOf, aFieldAddr, aLoad, aStore, opStore, fresh, aIndexAddr, aNum, aBuiltin, aBin, aInt, putC, evO, Nat.reduceAdd, Nat.reduceLT, Nat.reduceGT, Nat.reduceBEq, Nat.reduceEqDiff, Nat.reduceLeDiff, ↓reduceIte, reduceCtorEq, liveBlk_eq, Nat.zero_add, ne_eq, List.nil_append, List.getElem?_toArray, decide_true, not_true_eq_false, or_self, aBuildSlice, partsOf, fillA, repC, frz, isSliceT, aAppend, srcOf, window, putD_some, putD_none, and_true, Int.natCast_nonneg, Int.ofNat_lt, Int.toNat_natCast, snaps, snap, List.append_nil, List.elem_cons, List.elem_nil, List.length_cons, List.length_nil, List.getElem?_cons_zero, List.getElem?_cons_succ, List.drop_zero, List.take_succ_cons, List.take_nil, List.set_cons_zero, List.set_cons_succ, T_3, T_27, T_36, T_44, x16_22, r16_5_l, s16_5_0, x16_25, x16_26, x16_24, x16_30, r16_6_l, s16_6_0, s16_6_1, s16_6_2, s16_6_3, s16_6_4, s16_6_5, x16_32, r16_7_l, s16_7_0, s16_7_1, s16_7_2, s16_7_3, s16_7_4, x16_34, r16_8_l, s16_8_0, s16_8_1, s16_8_2, s16_8_3, s16_8_4, s16_8_5, x16_35, r16_9_l, s16_9_0, s16_9_1, s16_9_2, s16_9_3, s16_9_4, s16_9_5, x16_33, x16_31, x16_29, x16_28, x16_36, r16_10_l, s16_10_0, s16_10_1, x16_27, x16_23, x16_21, srH, hi, pcells_length, pcells_at l i s hs, sc, pcells_off l i hi, aShift, hbits, hba, hin, Nat.mul_one, wrp_succ (show i < 1000000 by omega), fillA, beq_self_eq_true, room3 (show 1 ≤ 1000000 by omega), List.cons_append]
      exact ⟨_, rfl, rfl⟩
    · have hbi : bitI set i = 0 := by rw [bitI, if_neg hb]
      rw [hbi] at hba
      have hc : sid set = 2027 := by rw [sid, ← h0, if_neg hb]
      rw [if_neg hb, hc]
      simp only [seqX_normal, bindR_some, regX_some, condX_bool, blockX_normal, run_nil, run_cons, fget_cons', fput_cons', forget_nil, forget_cons', hget_nil', hget_cons', hset_nil', hset_cons', gcM, stp, opBox, just, Rd.bind, Rd.run, Rd.opt, upds, acells, zeroCells, tsz, elemT, rdCells, fieldOf, aFieldAddr, aLoad, aStore, opStore, fresh, aIndexAddr, aNum, aBuiltin, aBin, aInt, putC, evO, Nat.reduceAdd, Nat.reduceLT, Nat.reduceGT, Nat.reduceBEq, Nat.reduceEqDiff, Nat.reduceLeDiff, ↓reduceIte, reduceCtorEq, liveBlk_eq, Nat.zero_add, ne_eq, List.nil_append, List.getElem?_toArray, decide_true, not_true_eq_false, or_self, aBuildSlice, partsOf, fillA, repC, frz, isSliceT, aAppend, srcOf, window, putD_some, putD_none, and_true, Int.natCast_nonneg, Int.ofNat_lt, Int.toNat_natCast, snaps, snap, List.append_nil, List.elem_cons, List.elem_nil, List.length_cons, List.length_nil, List.getElem?_cons_zero, List.getElem?_cons_succ, List.drop_zero, List.take_succ_cons, List.take_nil, List.set_cons_zero, List.set_cons_succ, T_3, T_27, T_36, T_44, x16_22, r16_5_l, s16_5_0, x16_25, x16_26, x16_24, x16_30, r16_6_l, s16_6_0, s16_6_1, s16_6_2, s16_6_3, s16_6_4, s16_6_5, x16_32, r16_7_l, s16_7_0, s16_7_1, s16_7_2, s16_7_3, s16_7_4, x16_34, r16_8_l, s16_8_0, s16_8_1, s16_8_2, s16_8_3, s16_8_4, s16_8_5, x16_35, r16_9_l, s16_9_0, s16_9_1, s16_9_2, s16_9_3, s16_9_4, s16_9_5, x16_33, x16_31, x16_29, x16_28, x16_36, r16_10_l, s16_10_0, s16_10_1, x16_27, x16_23, x16_21, srH, hi, pcells_length, pcells_at l i s hs, sc, pcells_off l i hi, aShift, hbits, hba, hin, Nat.mul_one, wrp_succ (show i < 1000000 by omega), fillA, beq_self_eq_true, Int.reduceBEq, room3 (show 1 ≤ 1000000 by omega), List.cons_append]
      exact ⟨_, rfl, rfl⟩
  | cons a o =>
    have hlen : (icells (a :: o)).length = o.length + 1 := by simp [icells]
    have hno : ¬ o.length + 1 + 1 ≤ o.length + 1 := by omega
    have ho2 : o.length + 1 = i := by simpa using ho
    have hl2 : ∀ z : Int, (o ++ [z]).length = o.length + 1 := fun z => by simp
    have hcid := sid_or set
    simp only [outV, outH, List.cons_append, hl2]
    by_cases hb : set.testBit i = true
    · have hbi : bitI set i = 1 := by rw [bitI, if_pos hb]
      rw [hbi] at hba
      rw [if_pos hb]
      rcases hcid with hc | hc <;> rw [hc]
      · simp only [seqX_normal, bindR_some, regX_some, condX_bool, blockX_normal, run_nil, run_cons, fget_cons', fput_cons', forget_nil, forget_cons', hget_nil', hget_cons', hset_nil', hset_cons', gcM, stp, opBox, just, Rd.bind, Rd.run, Rd.opt, upds, acells, zeroCells, tsz, elemT, rdCells, fieldOf, aFieldAddr, aLoad, aStore, opStore, fresh, aIndexAddr, aNum, aBuiltin, aBin, aInt, putC, evO, Nat.reduceAdd, Nat.reduceLT, Nat.reduceGT, Nat.reduceBEq, Nat.reduceEqDiff, Nat.reduceLeDiff, ↓reduceIte, reduceCtorEq, liveBlk_eq, Nat.zero_add, ne_eq, List.nil_append, List.getElem?_toArray, decide_true, not_true_eq_false, or_self, aBuildSlice, partsOf, fillA, repC, frz, isSliceT, aAppend, srcOf, window, putD_some, putD_none, and_true, Int.natCast_nonneg, Int.ofNat_lt, Int.toNat_natCast, snaps, snap, List.append_nil, List.elem_cons, List.elem_nil, List.length_cons, List.length_nil, List.getElem?_cons_zero, List.getElem?_cons_succ, List.drop_zero, List.take_succ_cons, List.take_nil, List.set_cons_zero, List.set_cons_succ, T_3, T_27, T_36, T_44, x16_22, r16_5_l, s16_5_0, x16_25, x16_26, x16_24, x16_30, r16_6_l, s16_6_0, s16_6_1, s16_6_2, s16_6_3, s16_6_4, s16_6_5, x16_32, r16_7_l, s16_7_0, s16_7_1, s16_7_2, s16_7_3, s16_7_4, x16_34, r16_8_l, s16_8_0, s16_8_1, s16_8_2, s16_8_3, s16_8_4, s16_8_5, x16_35, r16_9_l, s16_9_0, s16_9_1, s16_9_2, s16_9_3, s16_9_4, s16_9_5, x16_33, x16_31, x16_29, x16_28, x16_36, r16_10_l, s16_10_0, s16_10_1, x16_27, x16_23, x16_21, srH, hi, pcells_length, pcells_at l i s hs, sc, pcells_off l i hi, aShift, hbits, hba, hin, Nat.mul_one, wrp_succ (show i < 1000000 by omega), fillA, beq_self_eq_true, room3 (show o.length + 1 + 1 ≤ 1000000 by omega), hlen, hno, take_icells, icells_snoc, Nat.le_refl, List.cons_append]
        exact ⟨_, rfl, rfl⟩
      · simp only [seqX_normal, bindR_some, regX_some, condX_bool, blockX_normal, run_nil, run_cons, fget_cons', fput_cons', forget_nil, forget_cons', hget_nil', hget_cons', hset_cons', gcM, stp, opBox, just, Rd.bind, Rd.run, Rd.opt, upds, acells, zeroCells, tsz, elemT, rdCells, fieldOf, aFieldAddr, aLoad, aStore, opStore, fresh, aIndexAddr, aNum, aBuiltin, aBin, aInt, putC, evO, Nat.reduceAdd, Nat.reduceLT, Nat.reduceGT, Nat.reduceBEq, Nat.reduceEqDiff, Nat.reduceLeDiff, ↓reduceIte, reduceCtorEq, liveBlk_eq, Nat.zero_add, ne_eq, List.nil_append, List.getElem?_toArray, decide_true, not_true_eq_false, or_self, aBuildSlice, partsOf, fillA, repC, frz, isSliceT, aAppend, srcOf, window, putD_some, putD_none, and_true, Int.natCast_nonneg, Int.ofNat_lt, Int.toNat_natCast, snaps, snap, List.append_nil, List.elem_cons, List.elem_nil, List.length_cons, List.length_nil, List.getElem?_cons_zero, List.getElem?_cons_succ, List.drop_zero, List.take_succ_cons, List.take_nil, List.set_cons_zero, List.set_cons_succ, T_3, T_27, T_36, T_44, x16_22, r16_5_l, s16_5_0, x16_25, x16_26, x16_24, x16_30, r16_6_l, s16_6_0, s16_6_1, s16_6_2, s16_6_3, s16_6_4, s16_6_5, x16_32, r16_7_l, s16_7_0, s16_7_1, s16_7_2, s16_7_3, s16_7_4, x16_34, r16_8_l, s16_8_0, s16_8_1, s16_8_2, s16_8_3, s16_8_4, s16_8_5, x16_35, r16_9_l, s16_9_0, s16_9_1, s16_9_2, s16_9_3, s16_9_4, s16_9_5, x16_33, x16_31, x16_29, x16_28, x16_36, r16_10_l, s16_10_0, s16_10_1, x16_27, x16_23, x16_21, srH, hi, pcells_length, pcells_at l i s hs, sc, pcells_off l i hi, aShift, hbits, hba, hin, Nat.mul_one, wrp_succ (show i < 1000000 by omega), fillA, beq_self_eq_true, room3 (show o.length + 1 + 1 ≤ 1000000 by omega), hlen, hno, take_icells, icells_snoc, Nat.le_refl, List.cons_append]
        exact ⟨_, rfl, rfl⟩
    · have hbi : bitI set i = 0 := by rw [bitI, if_neg hb]
      rw [hbi] at hba
      rw [if_neg hb]
      rcases hcid with hc | hc <;> rw [hc]
      · simp only [seqX_normal, bindR_some, regX_some, condX_bool, blockX_normal, run_nil, run_cons, fget_cons', fput_cons', forget_nil, forget_cons', hget_nil', hget_cons', hset_nil', hset_cons', gcM, stp, opBox, just, Rd.bind, Rd.run, Rd.opt, upds, acells, zeroCells, tsz, elemT, rdCells, fieldOf, aFieldAddr, aLoad, aStore, opStore, fresh, aIndexAddr, aNum, aBuiltin, aBin, aInt, putC, evO, Nat.reduceAdd, Nat.reduceLT, Nat.reduceGT, Nat.reduceBEq, Nat.reduceEqDiff, Nat.reduceLeDiff, ↓reduceIte, reduceCtorEq, liveBlk_eq, Nat.zero_add, ne_eq, List.nil_append, List.getElem?_toArray, decide_true, not_true_eq_false, or_self, aBuildSlice, partsOf, fillA, repC, frz, isSliceT, aAppend, srcOf, window, putD_some, putD_none, and_true, Int.natCast_nonneg, Int.ofNat_lt, Int.toNat_natCast, snaps, snap, List.append_nil, List.elem_cons, List.elem_nil, List.length_cons, List.length_nil, List.getElem?_cons_zero, List.getElem?_cons_succ, List.drop_zero, List.take_succ_cons, List.take_nil, List.set_cons_zero, List.set_cons_succ, T_3, T_27, T_36, T_44, x16_22, r16_5_l, s16_5_0, x16_25, x16_26, x16_24, x16_30, r16_6_l, s16_6_0, s16_6_1, s16_6_2, s16_6_3, s16_6_4, s16_6_5, x16_32, r16_7_l, s16_7_0, s16_7_1, s16_7_2, s16_7_3, s16_7_4, x16_34, r16_8_l, s16_8_0, s16_8_1, s16_8_2, s16_8_3, s16_8_4, s16_8_5, x16_35, r16_9_l, s16_9_0, s16_9_1, s16_9_2, s16_9_3, s16_9_4, s16_9_5, x16_33, x16_31, x16_29, x16_28, x16_36, r16_10_l, s16_10_0, s16_10_1, x16_27, x16_23, x16_21, srH, hi, pcells_length, pcells_at l i s hs, sc, pcells_off l i hi, aShift, hbits, hba, hin, Nat.mul_one, wrp_succ (show i < 1000000 by omega), fillA, beq_self_eq_true, Int.reduceBEq, room3 (show o.length + 1 + 1 ≤ 1000000 by omega), hlen, hno, take_icells, icells_snoc, Nat.le_refl, List.cons_append]
        exact ⟨_, rfl, rfl⟩
      · simp only [seqX_normal, bindR_some, regX_some, condX_bool, blockX_normal, run_nil, run_cons, fget_cons', fput_cons', forget_nil, forget_cons', hget_nil', hget_cons', hset_cons', gcM, stp, opBox, just, Rd.bind, Rd.run, Rd.opt, upds, acells, zeroCells, tsz, elemT, rdCells, fieldOf, aFieldAddr, aLoad, aStore, opStore, fresh, aIndexAddr, aNum, aBuiltin, aBin, aInt, putC, evO, Nat.reduceAdd, Nat.reduceLT, Nat.reduceGT, Nat.reduceBEq, Nat.reduceEqDiff, Nat.reduceLeDiff, ↓reduceIte, reduceCtorEq, liveBlk_eq, Nat.zero_add, ne_eq, List.nil_append, List.getElem?_toArray, decide_true, not_true_eq_false, or_self, aBuildSlice, partsOf, fillA, repC, frz, isSliceT, aAppend, srcOf, window, putD_some, putD_none, and_true, Int.natCast_nonneg, Int.ofNat_lt, Int.toNat_natCast, snaps, snap, List.append_nil, List.elem_cons, List.elem_nil, List.length_cons, List.length_nil, List.getElem?_cons_zero, List.getElem?_cons_succ, List.drop_zero, List.take_succ_cons, List.take_nil, List.set_cons_zero, List.set_cons_succ, T_3, T_27, T_36, T_44, x16_22, r16_5_l, s16_5_0, x16_25, x16_26, x16_24, x16_30, r16_6_l, s16_6_0, s16_6_1, s16_6_2, s16_6_3, s16_6_4, s16_6_5, x16_32, r16_7_l, s16_7_0, s16_7_1, s16_7_2, s16_7_3, s16_7_4, x16_34, r16_8_l, s16_8_0, s16_8_1, s16_8_2, s16_8_3, s16_8_4, s16_8_5, x16_35, r16_9_l, s16_9_0, s16_9_1, s16_9_2, s16_9_3, s16_9_4, s16_9_5, x16_33, x16_31, x16_29, x16_28, x16_36, r16_10_l, s16_10_0, s16_10_1, x16_27, x16_23, x16_21, srH, hi, pcells_length, pcells_at l i s hs, sc, pcells_off l i hi, aShift, hbits, hba, hin, Nat.mul_one, wrp_succ (show i < 1000000 by omega), fillA, beq_self_eq_true, Int.reduceBEq, room3 (show o.length + 1 + 1 ≤ 1000000 by omega), hlen, hno, take_icells, icells_snoc, Nat.le_refl, List.cons_append]
        exact ⟨_, rfl, rfl⟩

theorem sr_visit {d : Nat} {l : List Stone} (h : OkP l) {k : Nat} (hk : k < l.length) (M : Int) (ws wa : List Int) {id : Nat} (hid : id = 2022 ∨ id = 2027) {w : List Int} (hw : weighE l w = 0) (hM : momSum l w k 1 ≤ M) :
    callA E fg 1000 (d + 2) 17 [.ref id 0 l.length l.length l.length 1 false, .ptr 5 0 1, .ptr 12 0 1, .ptr 21 0 1] (srH l k M ws wa ++ [(id, ⟨.row, icells w⟩)]) 2320 = some (.tup [], srH l k M ws wa ++ [(id, ⟨.row, icells w⟩)]) := by
  change bodyA E (callA E fg 1000 (d + 1)) fg 1000 17 _ _ _ = _
  have hlw := weigh_len hw
  have hm := fun (site : Nat → Nat) seen => moments_call (d := d) (site := site) (seen := seen) (ex := false) (ex' := false) h hw hk
  simp only [hlw] at hm
  have tw : List.take l.length (icells w) = icells w := List.take_of_length_le (by rw [icells_length, hlw]; exact Nat.le_refl _)
  have lw : (icells w).length = l.length := by rw [icells_length, hlw]
  have hg : ¬ momSum l w k 1 > M := by omega
  rcases hid with rfl | rfl <;>
  simp only [seqX_normal, bindR_some, regX_some, condX_bool, bodyX_normal, run_nil, run_cons, fget_cons', fput_cons', forget_nil, forget_cons', hget_cons', hset_cons', frame0, gcM, stp, justO, just, Rd.bind, Rd.run, Rd.opt, upds, acells, tsz, rdCells, aLoad, aStore, opStore, opExtract, resA, resL, aBin, aInt, putC, Nat.reduceAdd, Nat.reduceBEq, Nat.reduceEqDiff, Nat.reduceLeDiff, ↓reduceIte, reduceCtorEq, liveBlk_eq, Nat.zero_add, List.nil_append, Bool.and_true, decide_true, decide_false, frz, putD_some, putD_none, and_true, aCall, snaps, snap, List.append_nil, Option.map_some, List.elem_cons, List.elem_nil, List.length_cons, List.length_nil, List.getElem?_cons_zero, List.getElem?_cons_succ, List.drop_zero, List.set_cons_zero, T_3, T_27, x17_1, r17_0_l, s17_0_0, s17_0_1, s17_0_2, s17_0_3, s17_0_4, s17_0_5, s17_0_6, s17_0_7, s17_0_8, x17_3, r17_1_l, s17_1_0, s17_1_1, s17_1_2, x17_5, r17_2_l, s17_2_0, x17_6, x17_4, x17_2, x17_0, b_17, srH, hm, hg, tw, lw, take_pc2, pcells_length, Nat.mul_one, Nat.le_refl, List.cons_append, Nat.zero_add, List.set_cons_zero]

theorem sr_outer {d : Nat} {l : List Stone} (h : OkP l) {k : Nat} (hk : k < l.length) (M : Int) (ws wa : List Int) (hM : ∀ s, momSum l (cwI l s l.length) k 1 ≤ M) (n2 set : Nat) (hset : set < n2) (hn2 : n2 ≤ 32) :
    ∃ s', execA E (callA E fg 1000 (d + 2)) (fg 16) 1992 41 (srH l k M ws wa) 1000 c16_4 ([(11, .int .i64 set), (10, .int .i64 n2), (1, srC), (0, lref l)], srH l k M ws wa) = some (.normal, s') ∧
      headA (srH l k M ws wa) s' = ([(11, .int .i64 (set + 1 : Nat)), (10, .int .i64 n2), (1, srC), (0, lref l)], srH l k M ws wa) := by
  have hle := h.le
  obtain ⟨e1, e2⟩ := outS_cw h set
  have hcid := sid_or set
  have hvis := sr_visit (d := d) h hk M ws wa hcid (cw_weigh h set) (hM set)
  have hloop := iter_all (f := execA E (callA E fg 1000 (d + 2)) (fg 16) 1992 41 (srH l k M ws wa) 1000 c16_21) (hd := headA (srH l k M ws wa)) (fun i => ([(16, .int .i64 i), (15, .int .i64 l.length), (14, lref l), (11, .int .i64 set), (10, .int .i64 n2), (5, outV (sid set) (cwI l set i)), (4, .int .i64 set), (1, srC), (0, lref l)], srH l k M ws wa ++ outH (sid set) (cwI l set i))) l.length 1000 0
    ([(16, .int .i64 0), (15, .int .i64 l.length), (14, lref l), (11, .int .i64 set), (10, .int .i64 n2), (5, .nilsl), (4, .int .i64 set), (1, srC), (0, lref l)], srH l k M ws wa) (by rfl) (by omega) (fun i h1 h2 => by
      have := sr_round (C := callA E fg 1000 (d + 2)) h k M ws wa set n2 (by omega) i (by omega) (cwI l set i) (cwI_length l set i)
      rw [cwI_succ]
      exact this) (e := .exit 2) (se := ([(17, .bool false), (16, .int .i64 l.length), (15, .int .i64 l.length), (14, lref l), (11, .int .i64 set), (10, .int .i64 n2), (5, .ref (sid set) 0 l.length l.length l.length 1 false), (4, .int .i64 set), (1, srC), (0, lref l)], srH l k M ws wa ++ [(sid set, ⟨.row, icells (cwI l set l.length)⟩)])) (by
      rw [Nat.zero_add]
      simp only [e1, e2]
      simp only [seqX_normal, seqX_exit, bindR_some, regX_some, condX_bool, run_nil, run_cons, fget_cons', fput_cons', forget_nil, forget_cons', gcM, stp, just, Rd.bind, Rd.run, Rd.opt, upds, aBin, aInt, Nat.reduceEqDiff, Nat.reduceLeDiff, ↓reduceIte, decide_false, putD_some, List.elem_nil, x16_22, r16_5_l, s16_5_0, x16_25, x16_26, x16_24, x16_23, x16_21, srH, Int.lt_irrefl, decide_false, Bool.false_eq_true]) (by simp)
  rcases hcid with hc | hc <;> rw [hc] at hvis hloop <;> simp only [srH, srC, lref, List.cons_append, List.nil_append] at hvis hloop ⊢
  · simp only [seqX_normal, bindR_some, regX_some, condX_bool, blockX_exit, blockX_normal, run_nil, run_cons, fget_cons', fput_cons', forget_nil, forget_cons', hget_cons', gcM, stp, just, Rd.bind, Rd.run, Rd.opt, upds, aLen, aBuiltin, aBin, aInt, Nat.reduceAdd, Nat.reduceMul, Nat.reduceBEq, Nat.reduceEqDiff, Nat.reduceLeDiff, ↓reduceIte, reduceCtorEq, liveBlk_eq, List.nil_append, List.getElem?_toArray, decide_true, putD_some, Int.ofNat_lt, mutX, List.elem_cons, List.elem_nil, List.getElem?_cons_zero, T_27, x16_5, r16_1_l, s16_1_0, x16_8, x16_9, x16_7, x16_13, r16_2_l, s16_2_0, s16_2_1, x16_15, r16_3_l, s16_3_0, x16_18, r16_4_l, s16_4_0, s16_4_1, s16_4_2, x16_20, x16_19, x16_17, x16_37, r16_11_l, s16_11_0, s16_11_1, s16_11_2, x16_16, x16_14, x16_12, x16_11, x16_38, r16_12_l, s16_12_0, s16_12_1, x16_10, x16_6, x16_4, hset, hloop, pcells_length, callV_mut (srmut _ _), List.cons_append, List.nil_append, hvis, wrp_succ (show set < 1000000 by omega)]
    exact ⟨_, rfl, rfl⟩
  · simp only [seqX_normal, bindR_some, regX_some, condX_bool, blockX_exit, blockX_normal, run_nil, run_cons, fget_cons', fput_cons', forget_nil, forget_cons', hget_cons', gcM, stp, just, Rd.bind, Rd.run, Rd.opt, upds, aLen, aBuiltin, aBin, aInt, Nat.reduceAdd, Nat.reduceMul, Nat.reduceBEq, Nat.reduceEqDiff, Nat.reduceLeDiff, ↓reduceIte, reduceCtorEq, liveBlk_eq, List.nil_append, List.getElem?_toArray, decide_true, putD_some, Int.ofNat_lt, mutX, List.elem_cons, List.elem_nil, List.getElem?_cons_zero, T_27, x16_5, r16_1_l, s16_1_0, x16_8, x16_9, x16_7, x16_13, r16_2_l, s16_2_0, s16_2_1, x16_15, r16_3_l, s16_3_0, x16_18, r16_4_l, s16_4_0, s16_4_1, s16_4_2, x16_20, x16_19, x16_17, x16_37, r16_11_l, s16_11_0, s16_11_1, s16_11_2, x16_16, x16_14, x16_12, x16_11, x16_38, r16_12_l, s16_12_0, s16_12_1, x16_10, x16_6, x16_4, hset, hloop, pcells_length, callV_mut (srmut _ _), List.cons_append, List.nil_append, hvis, wrp_succ (show set < 1000000 by omega)]
    exact ⟨_, rfl, rfl⟩

theorem sr_corners {d : Nat} {l : List Stone} (h : OkP l) {k : Nat} (hk : k < l.length) (M : Int) (ws wa : List Int) (hM : ∀ s, momSum l (cwI l s l.length) k 1 ≤ M) :
    callA E fg 1000 (d + 3) 16 [lref l, srC] (srH l k M ws wa) 1992 = some (.tup [], srH l k M ws wa) := by
  change bodyA E (callA E fg 1000 (d + 2)) fg 1000 16 _ _ _ = _
  have hle := h.le
  have h32 : 2 ^ l.length ≤ 32 := by
    have : 2 ^ l.length ≤ 2 ^ 5 := Nat.pow_le_pow_right (by omega) hle
    simpa using this
  have hsh : wrp .i64 (1 * pw2 (min l.length 64)) = ((2 ^ l.length : Nat) : Int) := by
    rw [show min l.length 64 = l.length by omega, pw2, Int.one_mul]
    generalize 2 ^ l.length = N at h32 ⊢
    exact wrp64 (by omega)
  have hbits : IntKind.i64.bits = 64 := rfl
  have hln : ¬ (l.length : Int) < 0 := by omega
  have hloop := iter_all (f := execA E (callA E fg 1000 (d + 2)) (fg 16) 1992 41 (srH l k M ws wa) 1000 c16_4) (hd := headA (srH l k M ws wa)) (fun s => ([(11, .int .i64 s), (10, .int .i64 (2 ^ l.length : Nat)), (1, srC), (0, lref l)], srH l k M ws wa)) (2 ^ l.length) 1000 0
    ([(11, .int .i64 0), (10, .int .i64 (2 ^ l.length : Nat)), (1, srC), (0, lref l)], srH l k M ws wa) (by rfl) (by omega) (fun s h1 h2 => by
      exact sr_outer (d := d) h hk M ws wa hM (2 ^ l.length) s (by omega) h32) (e := .exit 0) (se := ([(12, .bool false), (11, .int .i64 (2 ^ l.length : Nat)), (10, .int .i64 (2 ^ l.length : Nat)), (1, srC), (0, lref l)], srH l k M ws wa)) (by
      rw [Nat.zero_add]
      simp only [seqX_normal, seqX_exit, bindR_some, regX_some, condX_bool, run_nil, run_cons, fget_cons', fput_cons', forget_nil, forget_cons', gcM, stp, just, Rd.bind, Rd.run, Rd.opt, upds, aBin, aInt, Nat.reduceEqDiff, Nat.reduceLeDiff, ↓reduceIte, decide_false, putD_some, List.elem_nil, x16_5, r16_1_l, s16_1_0, x16_8, x16_9, x16_7, x16_6, x16_4, Int.lt_irrefl, decide_false, Bool.false_eq_true]) (by simp)
  simp only [srH, lref, srC] at hloop ⊢
  simp only [seqX_normal, bindR_some, regX_some, blockX_exit, bodyX_normal, run_nil, run_cons, fget_cons', fput_cons', forget_nil, forget_cons', hget_cons', frame0, gcM, stp, just, Rd.bind, Rd.run, Rd.opt, upds, resA, resL, aLen, aBuiltin, aBin, Nat.reduceBEq, Nat.reduceEqDiff, Nat.reduceLeDiff, ↓reduceIte, reduceCtorEq, liveBlk_eq, Nat.zero_add, List.getElem?_toArray, putD_some, Int.toNat_natCast, Option.map_some, List.elem_cons, List.elem_nil, List.getElem?_cons_zero, T_27, x16_1, r16_0_l, s16_0_0, s16_0_1, s16_0_2, s16_0_3, x16_3, x16_2, x16_0, b_16, aShift, hbits, hln, hsh, hloop, pcells_length]

abbrev slH (l : List Stone) (k : Nat) (M : Int) (M1 : Int) (ws wa wb : List Int) : AHeap := [(5, ⟨.box, [.ref 31 0 l.length l.length (l.length * 4) 4 false]⟩), (12, ⟨.box, [.int .i64 k]⟩), (21, ⟨.box, [.int .i64 M1]⟩), (28, ⟨.box, [.int .i64 M]⟩), (31, ⟨.froz, pcells l⟩), (84, ⟨.row, icells ws⟩), (100, ⟨.row, icells wa⟩), (190, ⟨.row, icells wb⟩)]
abbrev slC : AV := .clo 18 [.ptr 5 0 1, .ptr 12 0 1, .ptr 28 0 1]
theorem slmut (caps args : List AV) : mutV E (.clo 18 caps) args = some (18, args ++ caps) := rfl

theorem sl_round {C : Callee} {l : List Stone} (h : OkP l) (k : Nat) (M : Int) (M1 : Int) (ws wa wb : List Int) (set n2 : Nat) (hset : set < 32) (i : Nat) (hi : i < l.length) (out : List Int) (ho : out.length = i) :
    ∃ s', execA E C (fg 16) 1992 41 (slH l k M M1 ws wa wb) 1000 c16_21 ([(16, .int .i64 i), (15, .int .i64 l.length), (14, lref l), (11, .int .i64 set), (10, .int .i64 n2), (5, outV (sid set) out), (4, .int .i64 set), (1, slC), (0, lref l)], slH l k M M1 ws wa wb ++ outH (sid set) out) = some (.normal, s') ∧
      headA (slH l k M M1 ws wa wb) s' = ([(16, .int .i64 (i + 1 : Nat)), (15, .int .i64 l.length), (14, lref l), (11, .int .i64 set), (10, .int .i64 n2), (5, outV (sid set) (out ++ [cw l set i])), (4, .int .i64 set), (1, slC), (0, lref l)], slH l k M M1 ws wa wb ++ outH (sid set) (out ++ [cw l set i])) := by
  obtain ⟨s, hs⟩ := at_ex hi
  have hle := h.le
  have hs' : l.getD i default = s := by simp [hs]
  have hba := bit_and set hset i (by omega)
  have hbits : IntKind.i64.bits = 64 := rfl
  have hin : ¬ (i : Int) < 0 := by omega
  have e : cw l set i = if set.testBit i = true then s.most else s.least := by rw [cw, hs']
  rw [e]
  simp only [lref, slC]
  cases out with
  | nil =>
    have h0 : i = 0 := by simpa using ho.symm
    simp only [outV, outH, List.nil_append, List.append_nil]
    by_cases hb : set.testBit i = true
    · have hbi : bitI set i = 1 := by rw [bitI, if_pos hb]
      rw [hbi] at hba
      have hc : sid set = 2022 := by rw [sid, ← h0, if_pos hb]
      rw [if_pos hb, hc]
      simp only [seqX_normal, bindR_some, regX_some, condX_bool, blockX_normal, run_nil, run_cons, fget_cons', fput_cons', forget_nil, forget_cons', hget_nil', hget_cons', hset_nil', hset_cons', gcM, stp, opBox, just, Rd.bind, Rd.run, Rd.opt, upds, acells, zeroCells, tsz, elemT, rdCells, fieldOf, aFieldAddr, aLoad, aStore, opStore, fresh, aIndexAddr, aNum, aBuiltin, aBin, aInt, putC, evO, Nat.reduceAdd, Nat.reduceLT, Nat.reduceGT, Nat.reduceBEq, Nat.reduceEqDiff, Nat.reduceLeDiff, ↓reduceIte, reduceCtorEq, liveBlk_eq, Nat.zero_add, ne_eq, List.nil_append, List.getElem?_toArray, decide_true, not_true_eq_false, or_self, aBuildSlice, partsOf, fillA, repC, frz, isSliceT, aAppend, srcOf, window, putD_some, putD_none, and_true, Int.natCast_nonneg, Int.ofNat_lt, Int.toNat_natCast, snaps, snap, List.append_nil, List.elem_cons, List.elem_nil, List.length_cons, List.length_nil, List.getElem?_cons_zero, List.getElem?_cons_succ, List.drop_zero, List.take_succ_cons, List.take_nil, List.set_cons_zero, List.set_cons_succ, T_3, T_27, T_36, T_44, x16_22, r16_5_l, s16_5_0, x16_25, x16_26, x16_24, x16_30, r16_6_l, s16_6_0, s16_6_1, s16_6_2, s16_6_3, s16_6_4, s16_6_5, x16_32, r16_7_l, s16_7_0, s16_7_1, s16_7_2, s16_7_3, s16_7_4, x16_34, r16_8_l, s16_8_0, s16_8_1, s16_8_2, s16_8_3, s16_8_4, s16_8_5, x16_35, r16_9_l, s16_9_0, s16_9_1, s16_9_2, s16_9_3, s16_9_4, s16_9_5, x16_33, x16_31, x16_29, x16_28, x16_36, r16_10_l, s16_10_0, s16_10_1, x16_27, x16_23, x16_21, slH, hi, pcells_length, pcells_at l i s hs, sc, pcells_off l i hi, aShift, hbits, hba, hin, Nat.mul_one, wrp_succ (show i < 1000000 by omega), fillA, beq_self_eq_true, room3 (show 1 ≤ 1000000 by omega), List.cons_append]
      exact ⟨_, rfl, rfl⟩
    · have hbi : bitI set i = 0 := by rw [bitI, if_neg hb]
      rw [hbi] at hba
      have hc : sid set = 2027 := by rw [sid, ← h0, if_neg hb]
      rw [if_neg hb, hc]
      simp only [seqX_normal, bindR_some, regX_some, condX_bool, blockX_normal, run_nil, run_cons, fget_cons', fput_cons', forget_nil, forget_cons', hget_nil', hget_cons', hset_nil', hset_cons', gcM, stp, opBox, just, Rd.bind, Rd.run, Rd.opt, upds, acells, zeroCells, tsz, elemT, rdCells, fieldOf, aFieldAddr, aLoad, aStore, opStore, fresh, aIndexAddr, aNum, aBuiltin, aBin, aInt, putC, evO, Nat.reduceAdd, Nat.reduceLT, Nat.reduceGT, Nat.reduceBEq, Nat.reduceEqDiff, Nat.reduceLeDiff, ↓reduceIte, reduceCtorEq, liveBlk_eq, Nat.zero_add, ne_eq, List.nil_append, List.getElem?_toArray, decide_true, not_true_eq_false, or_self, aBuildSlice, partsOf, fillA, repC, frz, isSliceT, aAppend, srcOf, window, putD_some, putD_none, and_true, Int.natCast_nonneg, Int.ofNat_lt, Int.toNat_natCast, snaps, snap, List.append_nil, List.elem_cons, List.elem_nil, List.length_cons, List.length_nil, List.getElem?_cons_zero, List.getElem?_cons_succ, List.drop_zero, List.take_succ_cons, List.take_nil, List.set_cons_zero, List.set_cons_succ, T_3, T_27, T_36, T_44, x16_22, r16_5_l, s16_5_0, x16_25, x16_26, x16_24, x16_30, r16_6_l, s16_6_0, s16_6_1, s16_6_2, s16_6_3, s16_6_4, s16_6_5, x16_32, r16_7_l, s16_7_0, s16_7_1, s16_7_2, s16_7_3, s16_7_4, x16_34, r16_8_l, s16_8_0, s16_8_1, s16_8_2, s16_8_3, s16_8_4, s16_8_5, x16_35, r16_9_l, s16_9_0, s16_9_1, s16_9_2, s16_9_3, s16_9_4, s16_9_5, x16_33, x16_31, x16_29, x16_28, x16_36, r16_10_l, s16_10_0, s16_10_1, x16_27, x16_23, x16_21, slH, hi, pcells_length, pcells_at l i s hs, sc, pcells_off l i hi, aShift, hbits, hba, hin, Nat.mul_one, wrp_succ (show i < 1000000 by omega), fillA, beq_self_eq_true, Int.reduceBEq, room3 (show 1 ≤ 1000000 by omega), List.cons_append]
      exact ⟨_, rfl, rfl⟩
  | cons a o =>
    have hlen : (icells (a :: o)).length = o.length + 1 := by simp [icells]
    have hno : ¬ o.length + 1 + 1 ≤ o.length + 1 := by omega
    have ho2 : o.length + 1 = i := by simpa using ho
    have hl2 : ∀ z : Int, (o ++ [z]).length = o.length + 1 := fun z => by simp
    have hcid := sid_or set
    simp only [outV, outH, List.cons_append, hl2]
    by_cases hb : set.testBit i = true
    · have hbi : bitI set i = 1 := by rw [bitI, if_pos hb]
      rw [hbi] at hba
      rw [if_pos hb]
      rcases hcid with hc | hc <;> rw [hc]
      · simp only [seqX_normal, bindR_some, regX_some, condX_bool, blockX_normal, run_nil, run_cons, fget_cons', fput_cons', forget_nil, forget_cons', hget_nil', hget_cons', hset_nil', hset_cons', gcM, stp, opBox, just, Rd.bind, Rd.run, Rd.opt, upds, acells, zeroCells, tsz, elemT, rdCells, fieldOf, aFieldAddr, aLoad, aStore, opStore, fresh, aIndexAddr, aNum, aBuiltin, aBin, aInt, putC, evO, Nat.reduceAdd, Nat.reduceLT, Nat.reduceGT, Nat.reduceBEq, Nat.reduceEqDiff, Nat.reduceLeDiff, ↓reduceIte, reduceCtorEq, liveBlk_eq, Nat.zero_add, ne_eq, List.nil_append, List.getElem?_toArray, decide_true, not_true_eq_false, or_self, aBuildSlice, partsOf, fillA, repC, frz, isSliceT, aAppend, srcOf, window, putD_some, putD_none, and_true, Int.natCast_nonneg, Int.ofNat_lt, Int.toNat_natCast, snaps, snap, List.append_nil, List.elem_cons, List.elem_nil, List.length_cons, List.length_nil, List.getElem?_cons_zero, List.getElem?_cons_succ, List.drop_zero, List.take_succ_cons, List.take_nil, List.set_cons_zero, List.set_cons_succ, T_3, T_27, T_36, T_44, x16_22, r16_5_l, s16_5_0, x16_25, x16_26, x16_24, x16_30, r16_6_l, s16_6_0, s16_6_1, s16_6_2, s16_6_3, s16_6_4, s16_6_5, x16_32, r16_7_l, s16_7_0, s16_7_1, s16_7_2, s16_7_3, s16_7_4, x16_34, r16_8_l, s16_8_0, s16_8_1, s16_8_2, s16_8_3, s16_8_4, s16_8_5, x16_35, r16_9_l, s16_9_0, s16_9_1, s16_9_2, s16_9_3, s16_9_4, s16_9_5, x16_33, x16_31, x16_29, x16_28, x16_36, r16_10_l, s16_10_0, s16_10_1, x16_27, x16_23, x16_21, slH, hi, pcells_length, pcells_at l i s hs, sc, pcells_off l i hi, aShift, hbits, hba, hin, Nat.mul_one, wrp_succ (show i < 1000000 by omega), fillA, beq_self_eq_true, room3 (show o.length + 1 + 1 ≤ 1000000 by omega), hlen, hno, take_icells, icells_snoc, Nat.le_refl, List.cons_append]
        exact ⟨_, rfl, rfl⟩
      · simp only [seqX_normal, bindR_some, regX_some, condX_bool, blockX_normal, run_nil, run_cons, fget_cons', fput_cons', forget_nil, forget_cons', hget_nil', hget_cons', hset_cons', gcM, stp, opBox, just, Rd.bind, Rd.run, Rd.opt, upds, acells, zeroCells, tsz, elemT, rdCells, fieldOf, aFieldAddr, aLoad, aStore, opStore, fresh, aIndexAddr, aNum, aBuiltin, aBin, aInt, putC, evO, Nat.reduceAdd, Nat.reduceLT, Nat.reduceGT, Nat.reduceBEq, Nat.reduceEqDiff, Nat.reduceLeDiff, ↓reduceIte, reduceCtorEq, liveBlk_eq, Nat.zero_add, ne_eq, List.nil_append, List.getElem?_toArray, decide_true, not_true_eq_false, or_self, aBuildSlice, partsOf, fillA, repC, frz, isSliceT, aAppend, srcOf, window, putD_some, putD_none, and_true, Int.natCast_nonneg, Int.ofNat_lt, Int.toNat_natCast, snaps, snap, List.append_nil, List.elem_cons, List.elem_nil, List.length_cons, List.length_nil, List.getElem?_cons_zero, List.getElem?_cons_succ, List.drop_zero, List.take_succ_cons, List.take_nil, List.set_cons_zero, List.set_cons_succ, T_3, T_27, T_36, T_44, x16_22, r16_5_l, s16_5_0, x16_25, x16_26, x16_24, x16_30, r16_6_l, s16_6_0, s16_6_1, s16_6_2, s16_6_3, s16_6_4, s16_6_5, x16_32, r16_7_l, s16_7_0, s16_7_1, s16_7_2, s16_7_3, s16_7_4, x16_34, r16_8_l, s16_8_0, s16_8_1, s16_8_2, s16_8_3, s16_8_4, s16_8_5, x16_35, r16_9_l, s16_9_0, s16_9_1, s16_9_2, s16_9_3, s16_9_4, s16_9_5, x16_33, x16_31, x16_29, x16_28, x16_36, r16_10_l, s16_10_0, s16_10_1, x16_27, x16_23, x16_21, slH, hi, pcells_length, pcells_at l i s hs, sc, pcells_off l i hi, aShift, hbits, hba, hin, Nat.mul_one, wrp_succ (show i < 1000000 by omega), fillA, beq_self_eq_true, room3 (show o.length + 1 + 1 ≤ 1000000 by omega), hlen, hno, take_icells, icells_snoc, Nat.le_refl, List.cons_append]
        exact ⟨_, rfl, rfl⟩
    · have hbi : bitI set i = 0 := by rw [bitI, if_neg hb]
      rw [hbi] at hba
      rw [if_neg hb]
      rcases hcid with hc | hc <;> rw [hc]
      · simp only [seqX_normal, bindR_some, regX_some, condX_bool, blockX_normal, run_nil, run_cons, fget_cons', fput_cons', forget_nil, forget_cons', hget_nil', hget_cons', hset_nil', hset_cons', gcM, stp, opBox, just, Rd.bind, Rd.run, Rd.opt, upds, acells, zeroCells, tsz, elemT, rdCells, fieldOf, aFieldAddr, aLoad, aStore, opStore, fresh, aIndexAddr, aNum, aBuiltin, aBin, aInt, putC, evO, Nat.reduceAdd, Nat.reduceLT, Nat.reduceGT, Nat.reduceBEq, Nat.reduceEqDiff, Nat.reduceLeDiff, ↓reduceIte, reduceCtorEq, liveBlk_eq, Nat.zero_add, ne_eq, List.nil_append, List.getElem?_toArray, decide_true, not_true_eq_false, or_self, aBuildSlice, partsOf, fillA, repC, frz, isSliceT, aAppend, srcOf, window, putD_some, putD_none, and_true, Int.natCast_nonneg, Int.ofNat_lt, Int.toNat_natCast, snaps, snap, List.append_nil, List.elem_cons, List.elem_nil, List.length_cons, List.length_nil, List.getElem?_cons_zero, List.getElem?_cons_succ, List.drop_zero, List.take_succ_cons, List.take_nil, List.set_cons_zero, List.set_cons_succ, T_3, T_27, T_36, T_44, x16_22, r16_5_l, s16_5_0, x16_25, x16_26, x16_24, x16_30, r16_6_l, s16_6_0, s16_6_1, s16_6_2, s16_6_3, s16_6_4, s16_6_5, x16_32, r16_7_l, s16_7_0, s16_7_1, s16_7_2, s16_7_3, s16_7_4, x16_34, r16_8_l, s16_8_0, s16_8_1, s16_8_2, s16_8_3, s16_8_4, s16_8_5, x16_35, r16_9_l, s16_9_0, s16_9_1, s16_9_2, s16_9_3, s16_9_4, s16_9_5, x16_33, x16_31, x16_29, x16_28, x16_36, r16_10_l, s16_10_0, s16_10_1, x16_27, x16_23, x16_21, slH, hi, pcells_length, pcells_at l i s hs, sc, pcells_off l i hi, aShift, hbits, hba, hin, Nat.mul_one, wrp_succ (show i < 1000000 by omega), fillA, beq_self_eq_true, Int.reduceBEq, room3 (show o.length + 1 + 1 ≤ 1000000 by omega), hlen, hno, take_icells, icells_snoc, Nat.le_refl, List.cons_append]
        exact ⟨_, rfl, rfl⟩
      · simp only [seqX_normal, bindR_some, regX_some, condX_bool, blockX_normal, run_nil, run_cons, fget_cons', fput_cons', forget_nil, forget_cons', hget_nil', hget_cons', hset_cons', gcM, stp, opBox, just, Rd.bind, Rd.run, Rd.opt, upds, acells, zeroCells, tsz, elemT, rdCells, fieldOf, aFieldAddr, aLoad, aStore, opStore, fresh, aIndexAddr, aNum, aBuiltin, aBin, aInt, putC, evO, Nat.reduceAdd, Nat.reduceLT, Nat.reduceGT, Nat.reduceBEq, Nat.reduceEqDiff, Nat.reduceLeDiff, ↓reduceIte, reduceCtorEq, liveBlk_eq, Nat.zero_add, ne_eq, List.nil_append, List.getElem?_toArray, decide_true, not_true_eq_false, or_self, aBuildSlice, partsOf, fillA, repC, frz, isSliceT, aAppend, srcOf, window, putD_some, putD_none, and_true, Int.natCast_nonneg, Int.ofNat_lt, Int.toNat_natCast, snaps, snap, List.append_nil, List.elem_cons, List.elem_nil, List.length_cons, List.length_nil, List.getElem?_cons_zero, List.getElem?_cons_succ, List.drop_zero, List.take_succ_cons, List.take_nil, List.set_cons_zero, List.set_cons_succ, T_3, T_27, T_36, T_44, x16_22, r16_5_l, s16_5_0, x16_25, x16_26, x16_24, x16_30, r16_6_l, s16_6_0, s16_6_1, s16_6_2, s16_6_3, s16_6_4, s16_6_5, x16_32, r16_7_l, s16_7_0, s16_7_1, s16_7_2, s16_7_3, s16_7_4, x16_34, r16_8_l, s16_8_0, s16_8_1, s16_8_2, s16_8_3, s16_8_4, s16_8_5, x16_35, r16_9_l, s16_9_0, s16_9_1, s16_9_2, s16_9_3, s16_9_4, s16_9_5, x16_33, x16_31, x16_29, x16_28, x16_36, r16_10_l, s16_10_0, s16_10_1, x16_27, x16_23, x16_21, slH, hi, pcells_length, pcells_at l i s hs, sc, pcells_off l i hi, aShift, hbits, hba, hin, Nat.mul_one, wrp_succ (show i < 1000000 by omega), fillA, beq_self_eq_true, Int.reduceBEq, room3 (show o.length + 1 + 1 ≤ 1000000 by omega), hlen, hno, take_icells, icells_snoc, Nat.le_refl, List.cons_append]
        exact ⟨_, rfl, rfl⟩

theorem sl_visit {d : Nat} {l : List Stone} (h : OkP l) {k : Nat} (hk : k < l.length) (M : Int) (M1 : Int) (ws wa wb : List Int) {id : Nat} (hid : id = 2022 ∨ id = 2027) {w : List Int} (hw : weighE l w = 0) (hM : leftM l w k ≤ M) :
    callA E fg 1000 (d + 2) 18 [.ref id 0 l.length l.length l.length 1 false, .ptr 5 0 1, .ptr 12 0 1, .ptr 28 0 1] (slH l k M M1 ws wa wb ++ [(id, ⟨.row, icells w⟩)]) 2320 = some (.tup [], slH l k M M1 ws wa wb ++ [(id, ⟨.row, icells w⟩)]) := by
  change bodyA E (callA E fg 1000 (d + 1)) fg 1000 18 _ _ _ = _
  have hlw := weigh_len hw
  have hm := fun (site : Nat → Nat) seen => moments_call (d := d) (site := site) (seen := seen) (ex := false) (ex' := false) h hw hk
  simp only [hlw] at hm
  have tw : List.take l.length (icells w) = icells w := List.take_of_length_le (by rw [icells_length, hlw]; exact Nat.le_refl _)
  have lw : (icells w).length = l.length := by rw [icells_length, hlw]
  have hg : ¬ leftM l w k > M := by omega
  rcases hid with rfl | rfl <;>
  simp only [seqX_normal, bindR_some, regX_some, condX_bool, bodyX_normal, run_nil, run_cons, fget_cons', fput_cons', forget_nil, forget_cons', hget_cons', hset_cons', frame0, gcM, stp, justO, just, Rd.bind, Rd.run, Rd.opt, upds, acells, tsz, rdCells, aLoad, aStore, opStore, opExtract, resA, resL, aBin, aInt, putC, Nat.reduceAdd, Nat.reduceBEq, Nat.reduceEqDiff, Nat.reduceLeDiff, ↓reduceIte, reduceCtorEq, liveBlk_eq, Nat.zero_add, List.nil_append, Bool.and_true, decide_true, decide_false, frz, putD_some, putD_none, and_true, aCall, snaps, snap, List.append_nil, Option.map_some, List.elem_cons, List.elem_nil, List.length_cons, List.length_nil, List.getElem?_cons_zero, List.getElem?_cons_succ, List.drop_zero, List.set_cons_zero, T_3, T_27, x18_1, r18_0_l, s18_0_0, s18_0_1, s18_0_2, s18_0_3, s18_0_4, s18_0_5, s18_0_6, s18_0_7, s18_0_8, x18_3, r18_1_l, s18_1_0, s18_1_1, s18_1_2, x18_5, r18_2_l, s18_2_0, x18_6, x18_4, x18_2, x18_0, b_18, slH, hm, hg, tw, lw, take_pc2, pcells_length, Nat.mul_one, Nat.le_refl, List.cons_append, Nat.zero_add, List.set_cons_zero]

theorem sl_outer {d : Nat} {l : List Stone} (h : OkP l) {k : Nat} (hk : k < l.length) (M : Int) (M1 : Int) (ws wa wb : List Int) (hM : ∀ s, leftM l (cwI l s l.length) k ≤ M) (n2 set : Nat) (hset : set < n2) (hn2 : n2 ≤ 32) :
    ∃ s', execA E (callA E fg 1000 (d + 2)) (fg 16) 1992 41 (slH l k M M1 ws wa wb) 1000 c16_4 ([(11, .int .i64 set), (10, .int .i64 n2), (1, slC), (0, lref l)], slH l k M M1 ws wa wb) = some (.normal, s') ∧
      headA (slH l k M M1 ws wa wb) s' = ([(11, .int .i64 (set + 1 : Nat)), (10, .int .i64 n2), (1, slC), (0, lref l)], slH l k M M1 ws wa wb) := by
  have hle := h.le
  obtain ⟨e1, e2⟩ := outS_cw h set
  have hcid := sid_or set
  have hvis := sl_visit (d := d) h hk M M1 ws wa wb hcid (cw_weigh h set) (hM set)
  have hloop := iter_all (f := execA E (callA E fg 1000 (d + 2)) (fg 16) 1992 41 (slH l k M M1 ws wa wb) 1000 c16_21) (hd := headA (slH l k M M1 ws wa wb)) (fun i => ([(16, .int .i64 i), (15, .int .i64 l.length), (14, lref l), (11, .int .i64 set), (10, .int .i64 n2), (5, outV (sid set) (cwI l set i)), (4, .int .i64 set), (1, slC), (0, lref l)], slH l k M M1 ws wa wb ++ outH (sid set) (cwI l set i))) l.length 1000 0
    ([(16, .int .i64 0), (15, .int .i64 l.length), (14, lref l), (11, .int .i64 set), (10, .int .i64 n2), (5, .nilsl), (4, .int .i64 set), (1, slC), (0, lref l)], slH l k M M1 ws wa wb) (by rfl) (by omega) (fun i h1 h2 => by
      have := sl_round (C := callA E fg 1000 (d + 2)) h k M M1 ws wa wb set n2 (by omega) i (by omega) (cwI l set i) (cwI_length l set i)
      rw [cwI_succ]
      exact this) (e := .exit 2) (se := ([(17, .bool false), (16, .int .i64 l.length), (15, .int .i64 l.length), (14, lref l), (11, .int .i64 set), (10, .int .i64 n2), (5, .ref (sid set) 0 l.length l.length l.length 1 false), (4, .int .i64 set), (1, slC), (0, lref l)], slH l k M M1 ws wa wb ++ [(sid set, ⟨.row, icells (cwI l set l.length)⟩)])) (by
      rw [Nat.zero_add]
      simp only [e1, e2]
      simp only [seqX_normal, seqX_exit, bindR_some, regX_some, condX_bool, run_nil, run_cons, fget_cons', fput_cons', forget_nil, forget_cons', gcM, stp, just, Rd.bind, Rd.run, Rd.opt, upds, aBin, aInt, Nat.reduceEqDiff, Nat.reduceLeDiff, ↓reduceIte, decide_false, putD_some, List.elem_nil, x16_22, r16_5_l, s16_5_0, x16_25, x16_26, x16_24, x16_23, x16_21, slH, Int.lt_irrefl, decide_false, Bool.false_eq_true]) (by simp)
  rcases hcid with hc | hc <;> rw [hc] at hvis hloop <;> simp only [slH, slC, lref, List.cons_append, List.nil_append] at hvis hloop ⊢
  · simp only [seqX_normal, bindR_some, regX_some, condX_bool, blockX_exit, blockX_normal, run_nil, run_cons, fget_cons', fput_cons', forget_nil, forget_cons', hget_cons', gcM, stp, just, Rd.bind, Rd.run, Rd.opt, upds, aLen, aBuiltin, aBin, aInt, Nat.reduceAdd, Nat.reduceMul, Nat.reduceBEq, Nat.reduceEqDiff, Nat.reduceLeDiff, ↓reduceIte, reduceCtorEq, liveBlk_eq, List.nil_append, List.getElem?_toArray, decide_true, putD_some, Int.ofNat_lt, mutX, List.elem_cons, List.elem_nil, List.getElem?_cons_zero, T_27, x16_5, r16_1_l, s16_1_0, x16_8, x16_9, x16_7, x16_13, r16_2_l, s16_2_0, s16_2_1, x16_15, r16_3_l, s16_3_0, x16_18, r16_4_l, s16_4_0, s16_4_1, s16_4_2, x16_20, x16_19, x16_17, x16_37, r16_11_l, s16_11_0, s16_11_1, s16_11_2, x16_16, x16_14, x16_12, x16_11, x16_38, r16_12_l, s16_12_0, s16_12_1, x16_10, x16_6, x16_4, hset, hloop, pcells_length, callV_mut (slmut _ _), List.cons_append, List.nil_append, hvis, wrp_succ (show set < 1000000 by omega)]
    exact ⟨_, rfl, rfl⟩
  · simp only [seqX_normal, bindR_some, regX_some, condX_bool, blockX_exit, blockX_normal, run_nil, run_cons, fget_cons', fput_cons', forget_nil, forget_cons', hget_cons', gcM, stp, just, Rd.bind, Rd.run, Rd.opt, upds, aLen, aBuiltin, aBin, aInt, Nat.reduceAdd, Nat.reduceMul, Nat.reduceBEq, Nat.reduceEqDiff, Nat.reduceLeDiff, ↓reduceIte, reduceCtorEq, liveBlk_eq, List.nil_append, List.getElem?_toArray, decide_true, putD_some, Int.ofNat_lt, mutX, List.elem_cons, List.elem_nil, List.getElem?_cons_zero, T_27, x16_5, r16_1_l, s16_1_0, x16_8, x16_9, x16_7, x16_13, r16_2_l, s16_2_0, s16_2_1, x16_15, r16_3_l, s16_3_0, x16_18, r16_4_l, s16_4_0, s16_4_1, s16_4_2, x16_20, x16_19, x16_17, x16_37, r16_11_l, s16_11_0, s16_11_1, s16_11_2, x16_16, x16_14, x16_12, x16_11, x16_38, r16_12_l, s16_12_0, s16_12_1, x16_10, x16_6, x16_4, hset, hloop, pcells_length, callV_mut (slmut _ _), List.cons_append, List.nil_append, hvis, wrp_succ (show set < 1000000 by omega)]
    exact ⟨_, rfl, rfl⟩

theorem sl_corners {d : Nat} {l : List Stone} (h : OkP l) {k : Nat} (hk : k < l.length) (M : Int) (M1 : Int) (ws wa wb : List Int) (hM : ∀ s, leftM l (cwI l s l.length) k ≤ M) :
    callA E fg 1000 (d + 3) 16 [lref l, slC] (slH l k M M1 ws wa wb) 1992 = some (.tup [], slH l k M M1 ws wa wb) := by
  change bodyA E (callA E fg 1000 (d + 2)) fg 1000 16 _ _ _ = _
  have hle := h.le
  have h32 : 2 ^ l.length ≤ 32 := by
    have : 2 ^ l.length ≤ 2 ^ 5 := Nat.pow_le_pow_right (by omega) hle
    simpa using this
  have hsh : wrp .i64 (1 * pw2 (min l.length 64)) = ((2 ^ l.length : Nat) : Int) := by
    rw [show min l.length 64 = l.length by omega, pw2, Int.one_mul]
    generalize 2 ^ l.length = N at h32 ⊢
    exact wrp64 (by omega)
  have hbits : IntKind.i64.bits = 64 := rfl
  have hln : ¬ (l.length : Int) < 0 := by omega
  have hloop := iter_all (f := execA E (callA E fg 1000 (d + 2)) (fg 16) 1992 41 (slH l k M M1 ws wa wb) 1000 c16_4) (hd := headA (slH l k M M1 ws wa wb)) (fun s => ([(11, .int .i64 s), (10, .int .i64 (2 ^ l.length : Nat)), (1, slC), (0, lref l)], slH l k M M1 ws wa wb)) (2 ^ l.length) 1000 0
    ([(11, .int .i64 0), (10, .int .i64 (2 ^ l.length : Nat)), (1, slC), (0, lref l)], slH l k M M1 ws wa wb) (by rfl) (by omega) (fun s h1 h2 => by
      exact sl_outer (d := d) h hk M M1 ws wa wb hM (2 ^ l.length) s (by omega) h32) (e := .exit 0) (se := ([(12, .bool false), (11, .int .i64 (2 ^ l.length : Nat)), (10, .int .i64 (2 ^ l.length : Nat)), (1, slC), (0, lref l)], slH l k M M1 ws wa wb)) (by
      rw [Nat.zero_add]
      simp only [seqX_normal, seqX_exit, bindR_some, regX_some, condX_bool, run_nil, run_cons, fget_cons', fput_cons', forget_nil, forget_cons', gcM, stp, just, Rd.bind, Rd.run, Rd.opt, upds, aBin, aInt, Nat.reduceEqDiff, Nat.reduceLeDiff, ↓reduceIte, decide_false, putD_some, List.elem_nil, x16_5, r16_1_l, s16_1_0, x16_8, x16_9, x16_7, x16_6, x16_4, Int.lt_irrefl, decide_false, Bool.false_eq_true]) (by simp)
  simp only [slH, lref, slC] at hloop ⊢
  simp only [seqX_normal, bindR_some, regX_some, blockX_exit, bodyX_normal, run_nil, run_cons, fget_cons', fput_cons', forget_nil, forget_cons', hget_cons', frame0, gcM, stp, just, Rd.bind, Rd.run, Rd.opt, upds, resA, resL, aLen, aBuiltin, aBin, Nat.reduceBEq, Nat.reduceEqDiff, Nat.reduceLeDiff, ↓reduceIte, reduceCtorEq, liveBlk_eq, Nat.zero_add, List.getElem?_toArray, putD_some, Int.toNat_natCast, Option.map_some, List.elem_cons, List.elem_nil, List.getElem?_cons_zero, T_27, x16_1, r16_0_l, s16_0_0, s16_0_1, s16_0_2, s16_0_3, x16_3, x16_2, x16_0, b_16, aShift, hbits, hln, hsh, hloop, pcells_length]
end Go.AM.Ytikchlfbjdfioaa
