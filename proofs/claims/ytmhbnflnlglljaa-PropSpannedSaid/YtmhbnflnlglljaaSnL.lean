/- A part of the proof of propSpanned_holds: SpnB, SpnC, NarB, SpnD, SpnE, SpnG, PWorks, SpnF. Own work of this project; texts printed by own programs among it. -/
import Derived.KernelRfl
import Derived.Test.YtmhbnflnlglljaaSnK
section
namespace Go.AM.Ytmhbnflnlglljaa
open Go Go.AM
set_option maxRecDepth 100000
set_option maxHeartbeats 8000000
def cid2 (set : Nat) : Nat := if set.testBit 0 = true then 1278 else 1283
abbrev spV : AV := .clo 38 [.ptr 13 0 1, .ptr 14 0 2, .ptr 15 0 2]
abbrev rf22 (l : List Stone) : AV := .ref 22 0 l.length l.length (l.length * 4) 4 false
abbrev ciF (l : List Stone) (set n2 i : Nat) (v : AV) : AFr := [(16, .int .i64 i), (15, .int .i64 l.length), (14, rf22 l), (11, .int .i64 set), (10, .int .i64 n2), (5, v), (4, .int .i64 set), (1, spV), (0, rf22 l)]
theorem ci_round {C : Callee} {b0 b1 b2 b3 b4 : Int} {l : List Stone} {k : Nat} {f1 f2 lo hi lo0 hi0 : Fr} {ws0 : List Int} (ok : OkP l) (set n2 : Nat) (hset : set < 32) (i : Nat) (hi' : i < l.length) (out : List Int) (ho : out.length = i) :
    ∃ s', execA E C (fg 37) 1248 41 (spX b0 b1 b2 b3 b4 l k f1 f2 lo0 hi0 ws0) 1000 c37_21 (ciF l set n2 i (outV (cid2 set) out), spX b0 b1 b2 b3 b4 l k f1 f2 lo hi ws0 ++ outH (cid2 set) out) = some (.normal, s') ∧
      headA (spX b0 b1 b2 b3 b4 l k f1 f2 lo0 hi0 ws0) s' = (ciF l set n2 (i + 1) (outV (cid2 set) (out ++ [cw l set i])), spX b0 b1 b2 b3 b4 l k f1 f2 lo hi ws0 ++ outH (cid2 set) (out ++ [cw l set i])) := by
  obtain ⟨s, hs⟩ := at_ex hi'
  have hle := ok.le
  have hs' : l.getD i default = s := by simp [hs]
  have hba := bit_and set hset i (by omega)
  have hbits : IntKind.i64.bits = 64 := rfl
  have hin : ¬ (i : Int) < 0 := by omega
  have e : cw l set i = if set.testBit i = true then s.most else s.least := by rw [cw, hs']
  have f0 := pcells_at l i s hs
  have f1' := pcells_off l i hi'
  simp only [sc] at f0
  rw [e]
  cases out with
  | nil =>
    have h0 : i = 0 := by simpa using ho.symm
    simp only [outV, outH, List.nil_append, List.append_nil]
    by_cases hb : set.testBit i = true
    · have hbi : bitI set i = 1 := by rw [bitI, if_pos hb]
      rw [hbi] at hba
      have hc : cid2 set = 1278 := by rw [cid2, ← h0, if_pos hb]
      rw [if_pos hb, hc]
      simp only [condX_bool, blockX_normal, run_nil, run_cons, fget_cons', fput_cons', forget_nil, forget_cons', hget_nil', hget_cons', hset_nil', hset_cons', gcM_n, gcM_c, stp, opBox, just, Rd.bind, Rd.run, Rd.opt, upds, acells, zeroCells, tsz, elemT, rdCells, fieldOf, aFieldAddr, aLoad, aStore, opStore, fresh, aIndexAddr, aNum, aBuiltin, aBin, aInt, putC, evO, Nat.reduceAdd, Nat.reduceLT, Nat.reduceBEq, Nat.reduceEqDiff, Nat.reduceLeDiff, ↓reduceIte, reduceCtorEq, liveBlk_eq, Nat.zero_add, ne_eq, List.nil_append, List.getElem?_toArray, decide_true, not_true_eq_false, or_self, aBuildSlice, partsOf, fillA, repC, isSliceT, aAppend, srcOf, window, putD_some, putD_none, and_true, Int.natCast_nonneg, Int.ofNat_lt, Int.toNat_natCast, snaps, List.append_nil, List.elem_cons, List.elem_nil, List.length_cons, List.length_nil, List.getElem?_cons_zero, List.getElem?_cons_succ, List.drop_zero, List.take_succ_cons, List.take_nil, List.set_cons_zero, List.set_cons_succ, frz_nil, seqN, bindN, regN, snap_int, List.cons_append, Nat.le_refl, Nat.mul_one, List.not_mem_nil, beq_self_eq_true, Nat.lt_irrefl, Bool.false_eq_true, T_3, T_22, T_45, T_47, x37_22, r37_5_l, s37_5_0, x37_25, x37_26, x37_24, x37_30, r37_6_l, s37_6_0, s37_6_1, s37_6_2, s37_6_3, s37_6_4, s37_6_5, x37_32, r37_7_l, s37_7_0, s37_7_1, s37_7_2, s37_7_3, s37_7_4, x37_34, r37_8_l, s37_8_0, s37_8_1, s37_8_2, s37_8_3, s37_8_4, s37_8_5, x37_35, r37_9_l, s37_9_0, s37_9_1, s37_9_2, s37_9_3, s37_9_4, s37_9_5, x37_33, x37_31, x37_29, x37_28, x37_36, r37_10_l, s37_10_0, s37_10_1, x37_27, x37_23, x37_21, beq_self_eq_true, spX, hi', pcells_length, f0, f1', aShift, hbits, hba, hin, wrp_succ (show i < 1000000 by omega), room3 (show 1 ≤ 1000000 by omega), List.nil_append]
      exact ⟨_, rfl, rfl⟩
    · have hbi : bitI set i = 0 := by rw [bitI, if_neg hb]
      rw [hbi] at hba
      have hc : cid2 set = 1283 := by rw [cid2, ← h0, if_neg hb]
      rw [if_neg hb, hc]
      simp only [condX_bool, blockX_normal, run_nil, run_cons, fget_cons', fput_cons', forget_nil, forget_cons', hget_nil', hget_cons', hset_nil', hset_cons', gcM_n, gcM_c, stp, opBox, just, Rd.bind, Rd.run, Rd.opt, upds, acells, zeroCells, tsz, elemT, rdCells, fieldOf, aFieldAddr, aLoad, aStore, opStore, fresh, aIndexAddr, aNum, aBuiltin, aBin, aInt, putC, evO, Nat.reduceAdd, Nat.reduceLT, Nat.reduceBEq, Nat.reduceEqDiff, Nat.reduceLeDiff, ↓reduceIte, reduceCtorEq, liveBlk_eq, Nat.zero_add, ne_eq, beq_iff_eq, List.nil_append, List.getElem?_toArray, decide_true, not_true_eq_false, or_self, aBuildSlice, partsOf, fillA, repC, isSliceT, aAppend, srcOf, window, putD_some, putD_none, and_true, Int.natCast_nonneg, Int.ofNat_lt, Int.toNat_natCast, snaps, List.append_nil, List.elem_cons, List.elem_nil, List.length_cons, List.length_nil, List.getElem?_cons_zero, List.getElem?_cons_succ, List.drop_zero, List.take_succ_cons, List.take_nil, List.set_cons_zero, List.set_cons_succ, frz_nil, seqN, bindN, regN, snap_int, List.cons_append, Nat.le_refl, Int.reduceEq, Nat.mul_one, List.not_mem_nil, beq_self_eq_true, Nat.lt_irrefl, Bool.false_eq_true, T_3, T_22, T_45, T_47, x37_22, r37_5_l, s37_5_0, x37_25, x37_26, x37_24, x37_30, r37_6_l, s37_6_0, s37_6_1, s37_6_2, s37_6_3, s37_6_4, s37_6_5, x37_32, r37_7_l, s37_7_0, s37_7_1, s37_7_2, s37_7_3, s37_7_4, x37_34, r37_8_l, s37_8_0, s37_8_1, s37_8_2, s37_8_3, s37_8_4, s37_8_5, x37_35, r37_9_l, s37_9_0, s37_9_1, s37_9_2, s37_9_3, s37_9_4, s37_9_5, x37_33, x37_31, x37_29, x37_28, x37_36, r37_10_l, s37_10_0, s37_10_1, x37_27, x37_23, x37_21, beq_self_eq_true, spX, hi', pcells_length, f0, f1', aShift, hbits, hba, hin, wrp_succ (show i < 1000000 by omega), room3 (show 1 ≤ 1000000 by omega), List.nil_append]
      exact ⟨_, rfl, rfl⟩
  | cons a o =>
    have hlen : (icells (a :: o)).length = o.length + 1 := by simp [icells]
    have hno : ¬ o.length + 1 + 1 ≤ o.length + 1 := by omega
    have ho2 : o.length + 1 = i := by simpa using ho
    have hl2 : ∀ z : Int, (o ++ [z]).length = o.length + 1 := fun z => by simp
    have hcid : cid2 set = 1278 ∨ cid2 set = 1283 := by unfold cid2; split <;> simp
    simp only [outV, outH, List.cons_append, hl2]
    by_cases hb : set.testBit i = true
    · have hbi : bitI set i = 1 := by rw [bitI, if_pos hb]
      rw [hbi] at hba
      rw [if_pos hb]
      rcases hcid with hc | hc <;> rw [hc]
      · simp only [condX_bool, blockX_normal, run_nil, run_cons, fget_cons', fput_cons', forget_nil, forget_cons', hget_nil', hget_cons', hset_nil', hset_cons', gcM_n, gcM_c, stp, opBox, just, Rd.bind, Rd.run, Rd.opt, upds, acells, zeroCells, tsz, elemT, rdCells, fieldOf, aFieldAddr, aLoad, aStore, opStore, fresh, aIndexAddr, aNum, aBuiltin, aBin, aInt, putC, evO, Nat.reduceAdd, Nat.reduceLT, Nat.reduceBEq, Nat.reduceEqDiff, Nat.reduceLeDiff, ↓reduceIte, reduceCtorEq, liveBlk_eq, Nat.zero_add, ne_eq, List.nil_append, List.getElem?_toArray, decide_true, not_true_eq_false, or_self, aBuildSlice, partsOf, fillA, repC, isSliceT, aAppend, srcOf, window, putD_some, putD_none, and_true, Int.natCast_nonneg, Int.ofNat_lt, Int.toNat_natCast, snaps, List.append_nil, List.elem_cons, List.elem_nil, List.length_cons, List.length_nil, List.getElem?_cons_zero, List.getElem?_cons_succ, List.drop_zero, List.take_succ_cons, List.take_nil, List.set_cons_zero, List.set_cons_succ, frz_nil, seqN, bindN, regN, snap_int, List.cons_append, Nat.le_refl, Nat.mul_one, List.not_mem_nil, beq_self_eq_true, Nat.lt_irrefl, Bool.false_eq_true, T_3, T_22, T_45, T_47, x37_22, r37_5_l, s37_5_0, x37_25, x37_26, x37_24, x37_30, r37_6_l, s37_6_0, s37_6_1, s37_6_2, s37_6_3, s37_6_4, s37_6_5, x37_32, r37_7_l, s37_7_0, s37_7_1, s37_7_2, s37_7_3, s37_7_4, x37_34, r37_8_l, s37_8_0, s37_8_1, s37_8_2, s37_8_3, s37_8_4, s37_8_5, x37_35, r37_9_l, s37_9_0, s37_9_1, s37_9_2, s37_9_3, s37_9_4, s37_9_5, x37_33, x37_31, x37_29, x37_28, x37_36, r37_10_l, s37_10_0, s37_10_1, x37_27, x37_23, x37_21, beq_self_eq_true, spX, hi', pcells_length, f0, f1', aShift, hbits, hba, hin, wrp_succ (show i < 1000000 by omega), room3 (show o.length + 1 + 1 ≤ 1000000 by omega), hlen, hno, take_icells, icells_snoc, List.nil_append]
        exact ⟨_, rfl, rfl⟩
      · simp only [condX_bool, blockX_normal, run_nil, run_cons, fget_cons', fput_cons', forget_nil, forget_cons', hget_nil', hget_cons', hset_cons', gcM_n, gcM_c, stp, opBox, just, Rd.bind, Rd.run, Rd.opt, upds, acells, zeroCells, tsz, elemT, rdCells, fieldOf, aFieldAddr, aLoad, aStore, opStore, fresh, aIndexAddr, aNum, aBuiltin, aBin, aInt, putC, evO, Nat.reduceAdd, Nat.reduceLT, Nat.reduceBEq, Nat.reduceEqDiff, Nat.reduceLeDiff, ↓reduceIte, reduceCtorEq, liveBlk_eq, Nat.zero_add, ne_eq, List.nil_append, List.getElem?_toArray, decide_true, not_true_eq_false, or_self, aBuildSlice, partsOf, fillA, repC, isSliceT, aAppend, srcOf, window, putD_some, putD_none, and_true, Int.natCast_nonneg, Int.ofNat_lt, Int.toNat_natCast, snaps, List.append_nil, List.elem_cons, List.elem_nil, List.length_cons, List.length_nil, List.getElem?_cons_zero, List.getElem?_cons_succ, List.drop_zero, List.take_succ_cons, List.take_nil, List.set_cons_zero, List.set_cons_succ, frz_nil, seqN, bindN, regN, snap_int, List.cons_append, Nat.le_refl, Nat.mul_one, List.not_mem_nil, beq_self_eq_true, Nat.lt_irrefl, Bool.false_eq_true, T_3, T_22, T_45, T_47, x37_22, r37_5_l, s37_5_0, x37_25, x37_26, x37_24, x37_30, r37_6_l, s37_6_0, s37_6_1, s37_6_2, s37_6_3, s37_6_4, s37_6_5, x37_32, r37_7_l, s37_7_0, s37_7_1, s37_7_2, s37_7_3, s37_7_4, x37_34, r37_8_l, s37_8_0, s37_8_1, s37_8_2, s37_8_3, s37_8_4, s37_8_5, x37_35, r37_9_l, s37_9_0, s37_9_1, s37_9_2, s37_9_3, s37_9_4, s37_9_5, x37_33, x37_31, x37_29, x37_28, x37_36, r37_10_l, s37_10_0, s37_10_1, x37_27, x37_23, x37_21, beq_self_eq_true, spX, hi', pcells_length, f0, f1', aShift, hbits, hba, hin, wrp_succ (show i < 1000000 by omega), room3 (show o.length + 1 + 1 ≤ 1000000 by omega), hlen, hno, take_icells, icells_snoc, List.nil_append]
        exact ⟨_, rfl, rfl⟩
    · have hbi : bitI set i = 0 := by rw [bitI, if_neg hb]
      rw [hbi] at hba
      rw [if_neg hb]
      rcases hcid with hc | hc <;> rw [hc]
      · simp only [condX_bool, blockX_normal, run_nil, run_cons, fget_cons', fput_cons', forget_nil, forget_cons', hget_nil', hget_cons', hset_nil', hset_cons', gcM_n, gcM_c, stp, opBox, just, Rd.bind, Rd.run, Rd.opt, upds, acells, zeroCells, tsz, elemT, rdCells, fieldOf, aFieldAddr, aLoad, aStore, opStore, fresh, aIndexAddr, aNum, aBuiltin, aBin, aInt, putC, evO, Nat.reduceAdd, Nat.reduceLT, Nat.reduceBEq, Nat.reduceEqDiff, Nat.reduceLeDiff, ↓reduceIte, reduceCtorEq, liveBlk_eq, Nat.zero_add, ne_eq, beq_iff_eq, List.nil_append, List.getElem?_toArray, decide_true, not_true_eq_false, or_self, aBuildSlice, partsOf, fillA, repC, isSliceT, aAppend, srcOf, window, putD_some, putD_none, and_true, Int.natCast_nonneg, Int.ofNat_lt, Int.toNat_natCast, snaps, List.append_nil, List.elem_cons, List.elem_nil, List.length_cons, List.length_nil, List.getElem?_cons_zero, List.getElem?_cons_succ, List.drop_zero, List.take_succ_cons, List.take_nil, List.set_cons_zero, List.set_cons_succ, frz_nil, seqN, bindN, regN, snap_int, List.cons_append, Nat.le_refl, Int.reduceEq, Nat.mul_one, List.not_mem_nil, beq_self_eq_true, Nat.lt_irrefl, Bool.false_eq_true, T_3, T_22, T_45, T_47, x37_22, r37_5_l, s37_5_0, x37_25, x37_26, x37_24, x37_30, r37_6_l, s37_6_0, s37_6_1, s37_6_2, s37_6_3, s37_6_4, s37_6_5, x37_32, r37_7_l, s37_7_0, s37_7_1, s37_7_2, s37_7_3, s37_7_4, x37_34, r37_8_l, s37_8_0, s37_8_1, s37_8_2, s37_8_3, s37_8_4, s37_8_5, x37_35, r37_9_l, s37_9_0, s37_9_1, s37_9_2, s37_9_3, s37_9_4, s37_9_5, x37_33, x37_31, x37_29, x37_28, x37_36, r37_10_l, s37_10_0, s37_10_1, x37_27, x37_23, x37_21, beq_self_eq_true, spX, hi', pcells_length, f0, f1', aShift, hbits, hba, hin, wrp_succ (show i < 1000000 by omega), room3 (show o.length + 1 + 1 ≤ 1000000 by omega), hlen, hno, take_icells, icells_snoc, List.nil_append]
        exact ⟨_, rfl, rfl⟩
      · simp only [condX_bool, blockX_normal, run_nil, run_cons, fget_cons', fput_cons', forget_nil, forget_cons', hget_nil', hget_cons', hset_cons', gcM_n, gcM_c, stp, opBox, just, Rd.bind, Rd.run, Rd.opt, upds, acells, zeroCells, tsz, elemT, rdCells, fieldOf, aFieldAddr, aLoad, aStore, opStore, fresh, aIndexAddr, aNum, aBuiltin, aBin, aInt, putC, evO, Nat.reduceAdd, Nat.reduceLT, Nat.reduceBEq, Nat.reduceEqDiff, Nat.reduceLeDiff, ↓reduceIte, reduceCtorEq, liveBlk_eq, Nat.zero_add, ne_eq, beq_iff_eq, List.nil_append, List.getElem?_toArray, decide_true, not_true_eq_false, or_self, aBuildSlice, partsOf, fillA, repC, isSliceT, aAppend, srcOf, window, putD_some, putD_none, and_true, Int.natCast_nonneg, Int.ofNat_lt, Int.toNat_natCast, snaps, List.append_nil, List.elem_cons, List.elem_nil, List.length_cons, List.length_nil, List.getElem?_cons_zero, List.getElem?_cons_succ, List.drop_zero, List.take_succ_cons, List.take_nil, List.set_cons_zero, List.set_cons_succ, frz_nil, seqN, bindN, regN, snap_int, List.cons_append, Nat.le_refl, Int.reduceEq, Nat.mul_one, List.not_mem_nil, beq_self_eq_true, Nat.lt_irrefl, Bool.false_eq_true, T_3, T_22, T_45, T_47, x37_22, r37_5_l, s37_5_0, x37_25, x37_26, x37_24, x37_30, r37_6_l, s37_6_0, s37_6_1, s37_6_2, s37_6_3, s37_6_4, s37_6_5, x37_32, r37_7_l, s37_7_0, s37_7_1, s37_7_2, s37_7_3, s37_7_4, x37_34, r37_8_l, s37_8_0, s37_8_1, s37_8_2, s37_8_3, s37_8_4, s37_8_5, x37_35, r37_9_l, s37_9_0, s37_9_1, s37_9_2, s37_9_3, s37_9_4, s37_9_5, x37_33, x37_31, x37_29, x37_28, x37_36, r37_10_l, s37_10_0, s37_10_1, x37_27, x37_23, x37_21, beq_self_eq_true, spX, hi', pcells_length, f0, f1', aShift, hbits, hba, hin, wrp_succ (show i < 1000000 by omega), room3 (show o.length + 1 + 1 ≤ 1000000 by omega), hlen, hno, take_icells, icells_snoc, List.nil_append]
        exact ⟨_, rfl, rfl⟩
theorem spmut (caps args : List AV) : mutV E (.clo 38 caps) args = some (38, args ++ caps) := rfl
theorem outV_cw2 {l : List Stone} (h : OkP l) (set : Nat) : outV (cid2 set) (cwI l set l.length) = .ref (cid2 set) 0 l.length l.length l.length 1 false ∧ outH (cid2 set) (cwI l set l.length) = [(cid2 set, ⟨.row, icells (cwI l set l.length)⟩)] := by
  have := outV_ne (id := cid2 set) (l := cwI l set l.length) (by rw [cwI_length]; exact h.ne)
  rw [cwI_length] at this
  exact this
/-- The smallest and the greatest centre so far. -/
def accLo (l : List Stone) (i : Nat) (lo : Fr) : Nat → Fr
  | 0 => lo
  | s + 1 => if blw (ctrF l i (cwI l s l.length)) (accLo l i lo s) then ctrF l i (cwI l s l.length) else accLo l i lo s
def accHi (l : List Stone) (i : Nat) (hi : Fr) : Nat → Fr
  | 0 => hi
  | s + 1 => if blw (accHi l i hi s) (ctrF l i (cwI l s l.length)) then ctrF l i (cwI l s l.length) else accHi l i hi s
theorem acc_fair {l : List Stone} {i : Nat} {lo hi : Fr} (ok : OkP l) (hil : i < l.length) (h1 : Fair lo) (h2 : Fair hi) : ∀ s, Fair (accLo l i lo s) ∧ Fair (accHi l i hi s)
  | 0 => ⟨h1, h2⟩
  | s + 1 => by
    obtain ⟨a, b⟩ := acc_fair ok hil h1 h2 s
    have c := ctr_fair ok (cw_weigh ok s) hil
    simp only [accLo, accHi]
    constructor <;> split <;> assumption
abbrev coF (l : List Stone) (set n2 : Nat) : AFr := [(11, .int .i64 set), (10, .int .i64 n2), (1, spV), (0, rf22 l)]
theorem co_outer {d : Nat} {b0 b1 b2 b3 b4 : Int} {l : List Stone} {k : Nat} {f1 f2 lo hi lo0 hi0 : Fr} {ws0 : List Int} (ok : OkP l) (hk : k < l.length) (flo : Fair lo) (fhi : Fair hi) (n2 set : Nat) (hset : set < n2) (hn2 : n2 ≤ 32) :
    ∃ s', execA E (callA E fg 1000 (d + 4)) (fg 37) 1248 41 (spX b0 b1 b2 b3 b4 l k f1 f2 lo0 hi0 ws0) 1000 c37_4 (coF l set n2, spX b0 b1 b2 b3 b4 l k f1 f2 lo hi ws0) = some (.normal, s') ∧
      headA (spX b0 b1 b2 b3 b4 l k f1 f2 lo0 hi0 ws0) s' = (coF l (set + 1) n2, spX b0 b1 b2 b3 b4 l k f1 f2 (if blw (ctrF l k (cwI l set l.length)) lo then ctrF l k (cwI l set l.length) else lo) (if blw hi (ctrF l k (cwI l set l.length)) then ctrF l k (cwI l set l.length) else hi) ws0) := by
  have hle := ok.le
  obtain ⟨e1, e2⟩ := outV_cw2 ok set
  have hcid : cid2 set = 1278 ∨ cid2 set = 1283 := by unfold cid2; split <;> simp
  have hvis := visit_run (d := d) (b0 := b0) (b1 := b1) (b2 := b2) (b3 := b3) (b4 := b4) (f1 := f1) (f2 := f2) (ws0 := ws0) ok (cw_weigh ok set) hk flo fhi hcid
  generalize (if blw (ctrF l k (cwI l set l.length)) lo then ctrF l k (cwI l set l.length) else lo) = lo1 at hvis ⊢
  generalize (if blw hi (ctrF l k (cwI l set l.length)) then ctrF l k (cwI l set l.length) else hi) = hi1 at hvis ⊢
  have hloop := iter_all (f := execA E (callA E fg 1000 (d + 4)) (fg 37) 1248 41 (spX b0 b1 b2 b3 b4 l k f1 f2 lo0 hi0 ws0) 1000 c37_21) (hd := headA (spX b0 b1 b2 b3 b4 l k f1 f2 lo0 hi0 ws0)) (fun i => (ciF l set n2 i (outV (cid2 set) (cwI l set i)), spX b0 b1 b2 b3 b4 l k f1 f2 lo hi ws0 ++ outH (cid2 set) (cwI l set i))) l.length 1000 0
    (ciF l set n2 0 .nilsl, spX b0 b1 b2 b3 b4 l k f1 f2 lo hi ws0) (by rfl) (by omega) (fun i h1 h2 => by
      have := ci_round (C := callA E fg 1000 (d + 4)) (b0 := b0) (b1 := b1) (b2 := b2) (b3 := b3) (b4 := b4) (k := k) (f1 := f1) (f2 := f2) (lo := lo) (hi := hi) (lo0 := lo0) (hi0 := hi0) (ws0 := ws0) ok set n2 (by omega) i (by omega) (cwI l set i) (cwI_length l set i)
      rw [cwI_succ]
      exact this) (e := .exit 2) (se := ((17, .bool false) :: ciF l set n2 l.length (.ref (cid2 set) 0 l.length l.length l.length 1 false), spX b0 b1 b2 b3 b4 l k f1 f2 lo hi ws0 ++ [(cid2 set, ⟨.row, icells (cwI l set l.length)⟩)])) (by
      rw [Nat.zero_add]
      simp only [e1, e2]
      simp only [seqX_exit, condX_bool, run_nil, run_cons, fget_cons', fput_cons', forget_nil, forget_cons', gcM_n, stp, just, Rd.bind, Rd.run, Rd.opt, upds, aBin, aInt, Nat.reduceEqDiff, Nat.reduceLeDiff, ↓reduceIte, List.nil_append, decide_false, putD_some, List.elem_nil, seqN, bindN, regN, List.cons_append, Int.lt_irrefl, Bool.false_eq_true, x37_22, r37_5_l, s37_5_0, x37_25, x37_26, x37_24, x37_23, x37_21, spX, Int.lt_irrefl, decide_false, Bool.false_eq_true]) (by simp)
  rcases hcid with hc | hc <;> rw [hc] at hvis hloop <;> simp only [spX, ciF, coF, List.cons_append, List.nil_append, cl0, frc] at hvis hloop ⊢
  · simp only [condX_bool, blockX_exit, blockX_normal, run_nil, run_cons, fget_cons', fput_cons', forget_nil, forget_cons', hget_cons', gcM_n, gcM_c, stp, just, Rd.bind, Rd.run, Rd.opt, upds, aLen, aBuiltin, aBin, aInt, Nat.reduceAdd, Nat.reduceMul, Nat.reduceBEq, Nat.reduceEqDiff, Nat.reduceLeDiff, ↓reduceIte, reduceCtorEq, liveBlk_eq, List.nil_append, List.getElem?_toArray, decide_true, putD_some, Int.ofNat_lt, mutX, List.elem_cons, List.elem_nil, List.getElem?_cons_zero, seqN, bindN, regN, List.cons_append, beq_self_eq_true, Bool.false_eq_true, T_22, x37_5, r37_1_l, s37_1_0, x37_8, x37_9, x37_7, x37_13, r37_2_l, s37_2_0, s37_2_1, x37_15, r37_3_l, s37_3_0, x37_18, r37_4_l, s37_4_0, s37_4_1, s37_4_2, x37_20, x37_19, x37_17, x37_37, r37_11_l, s37_11_0, s37_11_1, s37_11_2, x37_16, x37_14, x37_12, x37_11, x37_38, r37_12_l, s37_12_0, s37_12_1, x37_10, x37_6, x37_4, pcells_length, hset, hloop, callV_mut (spmut _ _), List.nil_append, hvis, wrp_succ (show set < 1000000 by omega)]
    exact ⟨_, rfl, rfl⟩
  · simp only [condX_bool, blockX_exit, blockX_normal, run_nil, run_cons, fget_cons', fput_cons', forget_nil, forget_cons', hget_cons', gcM_n, gcM_c, stp, just, Rd.bind, Rd.run, Rd.opt, upds, aLen, aBuiltin, aBin, aInt, Nat.reduceAdd, Nat.reduceMul, Nat.reduceBEq, Nat.reduceEqDiff, Nat.reduceLeDiff, ↓reduceIte, reduceCtorEq, liveBlk_eq, List.nil_append, List.getElem?_toArray, decide_true, putD_some, Int.ofNat_lt, mutX, List.elem_cons, List.elem_nil, List.getElem?_cons_zero, seqN, bindN, regN, List.cons_append, beq_self_eq_true, Bool.false_eq_true, T_22, x37_5, r37_1_l, s37_1_0, x37_8, x37_9, x37_7, x37_13, r37_2_l, s37_2_0, s37_2_1, x37_15, r37_3_l, s37_3_0, x37_18, r37_4_l, s37_4_0, s37_4_1, s37_4_2, x37_20, x37_19, x37_17, x37_37, r37_11_l, s37_11_0, s37_11_1, s37_11_2, x37_16, x37_14, x37_12, x37_11, x37_38, r37_12_l, s37_12_0, s37_12_1, x37_10, x37_6, x37_4, pcells_length, hset, hloop, callV_mut (spmut _ _), List.nil_append, hvis, wrp_succ (show set < 1000000 by omega)]
    exact ⟨_, rfl, rfl⟩
theorem co_run {d : Nat} {b0 b1 b2 b3 b4 : Int} {l : List Stone} {k : Nat} {f1 f2 lo hi : Fr} {ws0 : List Int} (ok : OkP l) (hk : k < l.length) (flo : Fair lo) (fhi : Fair hi) :
    callA E fg 1000 (d + 5) 37 [rf22 l, spV] (spX b0 b1 b2 b3 b4 l k f1 f2 lo hi ws0) 1248 = some (.tup [], spX b0 b1 b2 b3 b4 l k f1 f2 (accLo l k lo (2 ^ l.length)) (accHi l k hi (2 ^ l.length)) ws0) := by
  change bodyA E (callA E fg 1000 (d + 4)) fg 1000 37 _ _ _ = _
  have hle := ok.le
  have h32 : 2 ^ l.length ≤ 32 := by
    have : 2 ^ l.length ≤ 2 ^ 5 := Nat.pow_le_pow_right (by omega) hle
    simpa using this
  have hsh : wrp .i64 (1 * pw2 (min l.length 64)) = ((2 ^ l.length : Nat) : Int) := by
    rw [show min l.length 64 = l.length by omega, pw2, Int.one_mul]
    generalize 2 ^ l.length = N at h32 ⊢
    exact wrp64 (by omega)
  have hbits : IntKind.i64.bits = 64 := rfl
  have hln : ¬ (l.length : Int) < 0 := by omega
  have hloop := iter_all (f := execA E (callA E fg 1000 (d + 4)) (fg 37) 1248 41 (spX b0 b1 b2 b3 b4 l k f1 f2 lo hi ws0) 1000 c37_4) (hd := headA (spX b0 b1 b2 b3 b4 l k f1 f2 lo hi ws0)) (fun s => (coF l s (2 ^ l.length), spX b0 b1 b2 b3 b4 l k f1 f2 (accLo l k lo s) (accHi l k hi s) ws0)) (2 ^ l.length) 1000 0
    (coF l 0 (2 ^ l.length), spX b0 b1 b2 b3 b4 l k f1 f2 lo hi ws0) (by rfl) (by omega) (fun s h1 h2 => by
      obtain ⟨a, b⟩ := acc_fair (lo := lo) (hi := hi) ok hk flo fhi s
      exact co_outer (d := d) ok hk a b (2 ^ l.length) s (by omega) h32) (e := .exit 0) (se := ((12, .bool false) :: coF l (2 ^ l.length) (2 ^ l.length), spX b0 b1 b2 b3 b4 l k f1 f2 (accLo l k lo (2 ^ l.length)) (accHi l k hi (2 ^ l.length)) ws0)) (by
      rw [Nat.zero_add]
      simp only [seqX_exit, condX_bool, run_nil, run_cons, fget_cons', fput_cons', forget_nil, forget_cons', gcM_n, stp, just, Rd.bind, Rd.run, Rd.opt, upds, aBin, aInt, Nat.reduceEqDiff, Nat.reduceLeDiff, ↓reduceIte, decide_false, putD_some, List.elem_nil, seqN, bindN, regN, Int.lt_irrefl, Bool.false_eq_true, x37_5, r37_1_l, s37_1_0, x37_8, x37_9, x37_7, x37_6, x37_4, Int.lt_irrefl, decide_false, Bool.false_eq_true]) (by simp)
  simp only [coF, spX, cl0] at hloop
  simp only [blockX_exit, bodyX_normal, run_nil, run_cons, fget_cons', fput_cons', forget_nil, forget_cons', hget_cons', frame0, gcM_c, stp, just, Rd.bind, Rd.run, Rd.opt, upds, resA, resL, aLen, aBuiltin, aBin, Nat.reduceBEq, Nat.reduceEqDiff, Nat.reduceLeDiff, ↓reduceIte, reduceCtorEq, liveBlk_eq, Nat.zero_add, List.getElem?_toArray, putD_some, Int.toNat_natCast, Option.map_some, List.elem_cons, List.elem_nil, List.getElem?_cons_zero, seqN, bindN, regN, beq_self_eq_true, Bool.false_eq_true, T_22, x37_1, r37_0_l, s37_0_0, s37_0_1, s37_0_2, s37_0_3, x37_3, x37_2, x37_0, b_37, aShift, hbits, hln, hsh, hloop, pcells_length, spX]
end Go.AM.Ytmhbnflnlglljaa
end

section
namespace Go.AM.Ytmhbnflnlglljaa
open Go Go.AM
set_option maxRecDepth 100000
def lef (f g : Fr) : Prop := f.num * g.den ≤ g.num * f.den
theorem lef_refl (f : Fr) : lef f f := Int.le_refl _
theorem lef_trans {f g h : Fr} (fg : 0 < g.den) (ff : 0 < f.den) (fh : 0 < h.den) (h1 : lef f g) (h2 : lef g h) : lef f h := by
  unfold lef at *
  refine Int.le_of_mul_le_mul_right (a := g.den) ?_ fg
  calc f.num * h.den * g.den = (f.num * g.den) * h.den := by ac_rfl
    _ ≤ (g.num * f.den) * h.den := Int.mul_le_mul_of_nonneg_right h1 (by omega)
    _ = (g.num * h.den) * f.den := by ac_rfl
    _ ≤ (h.num * g.den) * f.den := Int.mul_le_mul_of_nonneg_right h2 (by omega)
    _ = h.num * f.den * g.den := by ac_rfl
theorem lef_anti {f g : Fr} (hf : Fair f) (hg : Fair g) (h1 : lef f g) (h2 : lef g f) : f = g := by
  unfold lef at *
  obtain ⟨a, b⟩ := co_eq hf.d0 hg.d0 hf.co hg.co (by omega)
  cases f; cases g; simp_all
theorem not_blw {f g : Fr} : ¬ blw f g ↔ lef g f := by unfold blw lef; omega
theorem accLo_le {l : List Stone} {i : Nat} {lo hi : Fr} (ok : OkP l) (hil : i < l.length) (flo : Fair lo) (fhi : Fair hi) : ∀ s, lef (accLo l i lo s) lo ∧ lef hi (accHi l i hi s) ∧ ∀ t, t < s → lef (accLo l i lo s) (ctrF l i (cwI l t l.length)) ∧ lef (ctrF l i (cwI l t l.length)) (accHi l i hi s)
  | 0 => ⟨lef_refl _, lef_refl _, fun t h => by omega⟩
  | s + 1 => by
    obtain ⟨a, b, c⟩ := accLo_le ok hil flo fhi s
    obtain ⟨f1, f2⟩ := acc_fair ok hil flo fhi s
    obtain ⟨g1, g2⟩ := acc_fair ok hil flo fhi (s + 1)
    have fc := ctr_fair ok (cw_weigh ok s) hil
    have k1 : lef (accLo l i lo (s + 1)) (accLo l i lo s) ∧ lef (accLo l i lo (s + 1)) (ctrF l i (cwI l s l.length)) := by
      simp only [accLo]
      split
      · rename_i h; exact ⟨by unfold blw at h; unfold lef; omega, lef_refl _⟩
      · rename_i h; exact ⟨lef_refl _, not_blw.1 h⟩
    have k2 : lef (accHi l i hi s) (accHi l i hi (s + 1)) ∧ lef (ctrF l i (cwI l s l.length)) (accHi l i hi (s + 1)) := by
      simp only [accHi]
      split
      · rename_i h; exact ⟨by unfold blw at h; unfold lef; omega, lef_refl _⟩
      · rename_i h; exact ⟨lef_refl _, not_blw.1 h⟩
    refine ⟨lef_trans f1.d0 g1.d0 flo.d0 k1.1 a, lef_trans f2.d0 fhi.d0 g2.d0 b k2.1, fun t ht => ?_⟩
    by_cases e : t = s
    · subst e; exact ⟨k1.2, k2.2⟩
    · have ft := ctr_fair ok (cw_weigh ok t) hil
      obtain ⟨c1, c2⟩ := c t (by omega)
      exact ⟨lef_trans f1.d0 g1.d0 ft.d0 k1.1 c1, lef_trans f2.d0 ft.d0 g2.d0 c2 k2.1⟩
theorem acc_mem (l : List Stone) (i : Nat) (lo hi : Fr) : ∀ s, (accLo l i lo s = lo ∨ ∃ t, accLo l i lo s = ctrF l i (cwI l t l.length)) ∧ (accHi l i hi s = hi ∨ ∃ t, accHi l i hi s = ctrF l i (cwI l t l.length))
  | 0 => ⟨.inl rfl, .inl rfl⟩
  | s + 1 => by
    obtain ⟨a, b⟩ := acc_mem l i lo hi s
    simp only [accLo, accHi]
    constructor
    · split
      · exact .inr ⟨s, rfl⟩
      · exact a
    · split
      · exact .inr ⟨s, rfl⟩
      · exact b
theorem dot_drop {l : List Stone} {ws : List Int} (h : ws.length = l.length) : ∀ (m i : Nat), i + m = l.length → ctrS l i ws m = dotS (l.drop i) (ws.drop i) ∧ ctrW i ws m = totS (l.drop i) (ws.drop i)
  | 0, i, hi => by
    rw [List.drop_eq_nil_of_le (by omega), List.drop_eq_nil_of_le (by omega)]
    exact ⟨rfl, rfl⟩
  | m + 1, i, hi => by
    obtain ⟨s, hs⟩ := at_ex (l := l) (k := i) (by omega)
    obtain ⟨w, hw⟩ := at_ex (l := ws) (k := i) (by omega)
    obtain ⟨a, b⟩ := dot_drop h m (i + 1) (by omega)
    have e1 : l.drop i = s :: l.drop (i + 1) := by
      obtain ⟨h1, h2⟩ := List.getElem?_eq_some_iff.1 hs
      rw [List.drop_eq_getElem_cons h1, h2]
    have e2 : ws.drop i = w :: ws.drop (i + 1) := by
      obtain ⟨h1, h2⟩ := List.getElem?_eq_some_iff.1 hw
      rw [List.drop_eq_getElem_cons h1, h2]
    have hd : ∀ (F : Nat → Int) (k m : Nat), sumF F k (m + 1) = F k + sumF F (k + 1) m := fun F k m => by
      induction m with
      | zero => simp [sumF]
      | succ m ih => rw [sumF, ih, sumF, show k + (m + 1) = k + 1 + m by omega]; omega
    rw [e1, e2]
    simp only [dotS, totS, ctrS, ctrW] at *
    rw [hd, hd, a, b]
    simp [hs, hw]
theorem inB_drop {l : List Stone} {ws : List Int} (h : weighE l ws = 0) : ∀ (m i : Nat), i + m = l.length → InB (l.drop i) (ws.drop i)
  | 0, i, hi => by
    have := weigh_len h
    rw [List.drop_eq_nil_of_le (by omega), List.drop_eq_nil_of_le (by omega)]
    trivial
  | m + 1, i, hi => by
    have hl := weigh_len h
    obtain ⟨s, hs⟩ := at_ex (l := l) (k := i) (by omega)
    obtain ⟨w, hw⟩ := at_ex (l := ws) (k := i) (by omega)
    have e1 : l.drop i = s :: l.drop (i + 1) := by
      obtain ⟨h1, h2⟩ := List.getElem?_eq_some_iff.1 hs
      rw [List.drop_eq_getElem_cons h1, h2]
    have e2 : ws.drop i = w :: ws.drop (i + 1) := by
      obtain ⟨h1, h2⟩ := List.getElem?_eq_some_iff.1 hw
      rw [List.drop_eq_getElem_cons h1, h2]
    rw [e1, e2]
    exact ⟨weighE_at h hs hw, inB_drop h m (i + 1) (by omega)⟩
/-- No truth's centre lies beyond a span. -/
theorem ctr_in {l : List Stone} {ws : List Int} (ok : OkP l) (h : weighE l ws = 0) {i : Nat} (hi : i < l.length) : lef (spF (-1) l i) (ctrF l i ws) ∧ lef (ctrF l i ws) (spF 1 l i) := by
  have h5 := ok.le
  have hq : (l.drop i).length = l.length - i := List.length_drop
  have fd := fits_drop ok.fits i
  obtain ⟨a1, a2⟩ := okl_mem fd
  have ib := inB_drop h (l.length - i) i (by omega)
  obtain ⟨d1, d2⟩ := dot_drop (weigh_len h) (l.length - i) i (by omega)
  obtain ⟨g1, p1⟩ := sp_fix (sg := -1) (.inr rfl) (by omega) a1 a2
  obtain ⟨g2, p2⟩ := sp_fix (sg := 1) (.inl rfl) (by omega) a1 a2
  have x1 := fix_ext g1 ib a2
  have x2 := fix_ext g2 ib a2
  have tp := totS_pos ib a1
  rw [spF_at ok hi, spF_at ok hi, ctrF, d1, d2]
  exact ⟨frac_le (by omega) p1 (by omega), frac_le p2 (by omega) (by omega)⟩
/-- A span's ends are the centres of corners. -/
theorem ctr_corner {l : List Stone} (ok : OkP l) {i : Nat} (hi : i < l.length) {sg : Int} (hsg : sg = 1 ∨ sg = -1) : ∃ set, set < 2 ^ l.length ∧ ctrF l i (cwI l set l.length) = spF sg l i := by
  have h5 := ok.le
  have hq : (l.drop i).length = l.length - i := List.length_drop
  have fd := fits_drop ok.fits i
  obtain ⟨a1, a2⟩ := okl_mem fd
  obtain ⟨g1, p1⟩ := sp_fix hsg (by omega) a1 a2
  refine ⟨bitsOf (fun j => decide (sg * ((l.getD j default).pos * spW sg (l.drop i) - spS sg (l.drop i)) > 0)) l.length, bitsOf_lt _ _, ?_⟩
  have e : (cwI l (bitsOf (fun j => decide (sg * ((l.getD j default).pos * spW sg (l.drop i) - spS sg (l.drop i)) > 0)) l.length) l.length).drop i = wsF sg (spS sg (l.drop i)) (spW sg (l.drop i)) (l.drop i) := by
    apply List.ext_getElem?
    intro j
    rw [List.getElem?_drop, wsF, List.getElem?_map, List.getElem?_drop]
    by_cases hj : i + j < l.length
    · obtain ⟨s, hs⟩ := at_ex hj
      rw [cwI_at hj, hs, cw, bitsOf_bit _ _ _ hj]
      simp only [List.getD_eq_getElem?_getD, hs, Option.getD_some, Option.map_some, wS, decide_eq_true_eq]
    · rw [List.getElem?_eq_none (by rw [cwI_length]; omega), List.getElem?_eq_none (by omega)]; rfl
  obtain ⟨d1, d2⟩ := dot_drop (l := l) (ws := cwI l (bitsOf (fun j => decide (sg * ((l.getD j default).pos * spW sg (l.drop i) - spS sg (l.drop i)) > 0)) l.length) l.length) (cwI_length ..) (l.length - i) i (by omega)
  obtain ⟨t1, t2⟩ := fix_truth g1
  rw [ctrF, d1, d2, e, t1, t2, spF_at ok hi]
theorem acc_span {l : List Stone} {ws : List Int} (ok : OkP l) (h : weighE l ws = 0) {i : Nat} (hi : i < l.length) : accLo l i (ctrF l i ws) (2 ^ l.length) = spF (-1) l i ∧ accHi l i (ctrF l i ws) (2 ^ l.length) = spF 1 l i := by
  have f0 := ctr_fair ok h hi
  obtain ⟨f1, f2⟩ := acc_fair ok hi f0 f0 (2 ^ l.length)
  obtain ⟨_, _, c⟩ := accLo_le ok hi f0 f0 (2 ^ l.length)
  obtain ⟨m1, m2⟩ := acc_mem l i (ctrF l i ws) (ctrF l i ws) (2 ^ l.length)
  obtain ⟨s1, b1, e1⟩ := ctr_corner ok hi (sg := -1) (.inr rfl)
  obtain ⟨s2, b2, e2⟩ := ctr_corner ok hi (sg := 1) (.inl rfl)
  constructor
  · refine lef_anti f1 (spF_fair ok hi) (by rw [← e1]; exact (c s1 b1).1) ?_
    rcases m1 with e | ⟨t, e⟩ <;> rw [e]
    · exact (ctr_in ok h hi).1
    · exact (ctr_in ok (cw_weigh ok t) hi).1
  · refine lef_anti f2 (spF_fair ok hi) ?_ (by rw [← e2]; exact (c s2 b2).2)
    rcases m2 with e | ⟨t, e⟩ <;> rw [e]
    · exact (ctr_in ok h hi).2
    · exact (ctr_in ok (cw_weigh ok t) hi).2
theorem sumF_drop {l : List Stone} (g : Stone → Int) : ∀ (m i : Nat), i + m = l.length → sumF (fun j => g (l.getD j default)) i m = sumS g (l.drop i)
  | 0, i, hi => by rw [List.drop_eq_nil_of_le (by omega)]; rfl
  | m + 1, i, hi => by
    obtain ⟨s, hs⟩ := at_ex (l := l) (k := i) (by omega)
    have e1 : l.drop i = s :: l.drop (i + 1) := by
      obtain ⟨h1, h2⟩ := List.getElem?_eq_some_iff.1 hs
      rw [List.drop_eq_getElem_cons h1, h2]
    have hd : ∀ (F : Nat → Int) (k m : Nat), sumF F k (m + 1) = F k + sumF F (k + 1) m := fun F k m => by
      induction m with
      | zero => simp [sumF]
      | succ m ih => rw [sumF, ih, sumF, show k + (m + 1) = k + 1 + m by omega]; omega
    rw [e1, hd, sumF_drop g m (i + 1) (by omega)]
    simp [sumS, hs]
theorem edge_sum (e : Int) (f : Stone → Int) : ∀ q : List Stone, sumS (fun s => f s * (s.pos - e)) q = sumS (fun s => f s * s.pos) q - e * sumS f q
  | [] => by simp [sumS]
  | s :: q => by
    simp only [sumS, edge_sum e f q]
    rw [Int.mul_sub, Int.mul_add, Int.mul_comm e (f s)]
    omega
theorem sg_sum (sg : Int) (f : Stone → Int) : ∀ q : List Stone, sumS (fun s => sg * f s) q = sg * sumS f q
  | [] => by simp [sumS]
  | s :: q => by simp only [sumS, sg_sum sg f q]; rw [Int.mul_add]
theorem sumS_mono {f g : Stone → Int} : ∀ {q : List Stone}, (∀ s ∈ q, f s ≤ g s) → sumS f q ≤ sumS g q
  | [], _ => by simp [sumS]
  | s :: q, h => by
    have := sumS_mono (q := q) fun t ht => h t (by simp [ht])
    have := h s (by simp)
    simp only [sumS]; omega
theorem edge_iff {sg e : Int} (hsg : sg = 1 ∨ sg = -1) {q : List Stone} (fd : FitsL q) (h0 : 0 < q.length) {S W : Int} (g : Fix sg q S W) (hW : 0 < W) :
    sumS (fun s => wt s (sg * (s.pos - e)) * (sg * (s.pos - e))) q ≤ 0 ↔ sg * (S - e * W) ≤ 0 := by
  obtain ⟨a1, a2⟩ := okl_mem fd
  have key : sumS (fun s => wS sg S W s * (sg * (s.pos - e))) q = sg * (S - e * W) := by
    have : sumS (fun s => wS sg S W s * (sg * (s.pos - e))) q = sumS (fun s => sg * (wS sg S W s * (s.pos - e))) q := sumS_congr fun s _ => by ac_rfl
    rw [this, sg_sum, edge_sum, ← g.s, ← g.w]
  constructor
  · intro h
    rw [← key]
    refine Int.le_trans (sumS_mono fun s hs => ?_) h
    have := a2 s hs
    unfold wS wt
    generalize sg * (s.pos - e) = x
    split <;> split
    · exact Int.le_refl _
    · rename_i h; have := Int.mul_le_mul_of_nonneg_right (a2 s hs) (show 0 ≤ -x by omega); rw [Int.mul_neg, Int.mul_neg] at this; omega
    · rename_i h; exact Int.mul_le_mul_of_nonneg_right (a2 s hs) (by omega)
    · exact Int.le_refl _
  · intro h
    have hin : InB q (q.map fun s => wt s (sg * (s.pos - e))) := by
      clear h key g h0 fd
      induction q with
      | nil => trivial
      | cons s q ih =>
        have := a2 s (by simp)
        refine ⟨by simp only [wt]; split <;> omega, ih (fun t ht => a1 t (by simp [ht])) (fun t ht => a2 t (by simp [ht]))⟩
    have hdt : ∀ (f : Stone → Int) (q : List Stone), dotS q (q.map f) = sumS (fun s => f s * s.pos) q ∧ totS q (q.map f) = sumS f q := by
      intro f q
      induction q with
      | nil => exact ⟨rfl, rfl⟩
      | cons s q ih => simp only [List.map_cons, dotS, totS, sumS, ih, and_self]
    obtain ⟨d1, d2⟩ := hdt (fun s => wt s (sg * (s.pos - e))) q
    have x := fix_ext g hin a2
    have tp := totS_pos hin a1
    rw [d1, d2] at x
    rw [d2] at tp
    have e1 : sumS (fun s => wt s (sg * (s.pos - e)) * (sg * (s.pos - e))) q = sg * (sumS (fun s => wt s (sg * (s.pos - e)) * s.pos) q - e * sumS (fun s => wt s (sg * (s.pos - e))) q) := by
      rw [← edge_sum, ← sg_sum]
      exact sumS_congr fun s _ => by ac_rfl
    rw [e1]
    generalize sumS (fun s => wt s (sg * (s.pos - e)) * s.pos) q = D at *
    generalize sumS (fun s => wt s (sg * (s.pos - e))) q = T at *
    have y : sg * (S - e * W) * T ≤ 0 := Int.mul_nonpos_of_nonpos_of_nonneg h (by omega)
    have z : (sg * (D - e * T)) * W ≤ 0 := by
      have : (sg * (D - e * T)) * W = sg * (D * W - S * T) + sg * (S - e * W) * T := by
        rw [Int.mul_assoc, Int.mul_assoc, ← Int.mul_add, Int.sub_mul, Int.sub_mul, Int.mul_assoc e T W, Int.mul_assoc e W T, Int.mul_comm T W]
        congr 1
        omega
      omega
    rcases Int.lt_or_le 0 (sg * (D - e * T)) with h1 | h1
    · have := Int.mul_pos h1 hW; omega
    · exact h1
theorem blw_edge {S W e : Int} (hW : 0 < W) : (blw ⟨e, 1⟩ (rd S W) ↔ e * W < S) ∧ (blw (rd S W) ⟨e, 1⟩ ↔ S < e * W) := by
  have c := rd_cross (num := S) (den := W)
  obtain ⟨p, _⟩ := rd_den (num := S) hW
  generalize rd S W = f at *
  unfold blw
  simp only [Int.mul_one]
  have k : (e * f.den) * W = (e * W) * f.den := by ac_rfl
  constructor
  · constructor
    · intro h
      have := Int.mul_lt_mul_of_pos_right h hW
      rw [c, k] at this
      exact Int.lt_of_mul_lt_mul_right this (by omega)
    · intro h
      have := Int.mul_lt_mul_of_pos_right h p
      rw [← k, ← c] at this
      exact Int.lt_of_mul_lt_mul_right this (by omega)
  · constructor
    · intro h
      have := Int.mul_lt_mul_of_pos_right h hW
      rw [c, k] at this
      exact Int.lt_of_mul_lt_mul_right this (by omega)
    · intro h
      have := Int.mul_lt_mul_of_pos_right h p
      rw [← k, ← c] at this
      exact Int.lt_of_mul_lt_mul_right this (by omega)
theorem worst_span {l : List Stone} (ok : OkP l) {i : Nat} (hi : i < l.length) : (worstSum l i 1 ≤ 0 ↔ ¬ blw ⟨rightE l i, 1⟩ (spF 1 l i)) ∧ (worstSum l i (-1) ≤ 0 ↔ ¬ blw (spF (-1) l i) ⟨leftE l i, 1⟩) := by
  have hq : (l.drop i).length = l.length - i := List.length_drop
  have fd := fits_drop ok.fits i
  obtain ⟨a1, a2⟩ := okl_mem fd
  obtain ⟨g1, p1⟩ := sp_fix (sg := 1) (.inl rfl) (l := l.drop i) (by omega) a1 a2
  obtain ⟨g2, p2⟩ := sp_fix (sg := -1) (.inr rfl) (l := l.drop i) (by omega) a1 a2
  have e1 : worstSum l i 1 = sumS (fun s => wt s (1 * (s.pos - rightE l i)) * (1 * (s.pos - rightE l i))) (l.drop i) := by
    rw [worstSum, sumF_drop _ _ _ (by omega)]
    exact sumS_congr fun s _ => by simp [term, far]
  have e2 : worstSum l i (-1) = sumS (fun s => wt s (-1 * (s.pos - leftE l i)) * (-1 * (s.pos - leftE l i))) (l.drop i) := by
    rw [worstSum, sumF_drop _ _ _ (by omega)]
    refine sumS_congr fun s _ => ?_
    have : far (-1) (rightE l i) (leftE l i) s = -1 * (s.pos - leftE l i) := by simp [far]; omega
    rw [term, this]
  rw [e1, e2, edge_iff (.inl rfl) fd (by omega) g1 p1, edge_iff (.inr rfl) fd (by omega) g2 p2, spF_at ok hi, spF_at ok hi, (blw_edge p1).1, (blw_edge p2).2]
  constructor <;> constructor <;> intro h <;> omega
/-- Do spans lie between edges, up to some level? -/
def stU (l : List Stone) : Nat → Bool
  | 0 => true
  | i + 1 => (if i = 0 then stU l i else stU l i && !decide (blw (spF (-1) l i) ⟨leftE l i, 1⟩)) && !decide (blw ⟨rightE l i, 1⟩ (spF 1 l i))
theorem stU_iff {l : List Stone} (ok : OkP l) : ∀ i, i ≤ l.length → (stU l i = true ↔ ∀ j, j < i → worstSum l j 1 ≤ 0 ∧ worstSum l j (-1) ≤ 0)
  | 0, _ => by simp [stU]
  | i + 1, hi => by
    have ih := stU_iff ok i (by omega)
    obtain ⟨w1, w2⟩ := worst_span ok (i := i) (by omega)
    have key : stU l (i + 1) = true ↔ stU l i = true ∧ worstSum l i 1 ≤ 0 ∧ worstSum l i (-1) ≤ 0 := by
      rw [w1]
      by_cases h0 : i = 0
      · subst h0
        have := worst_left0 ok
        simp only [stU, if_true, Bool.and_eq_true, Bool.not_eq_true', decide_eq_false_iff_not]
        constructor
        · intro h; exact ⟨h.1, h.2, this⟩
        · intro h; exact ⟨h.1, h.2.1⟩
      · rw [w2]
        simp only [stU, if_neg h0, Bool.and_eq_true, Bool.not_eq_true', decide_eq_false_iff_not]
        constructor
        · intro h; exact ⟨h.1.1, h.2, h.1.2⟩
        · intro h; exact ⟨⟨h.1, h.2.2⟩, h.2.1⟩
    rw [key, ih]
    constructor
    · intro h j hj
      by_cases e : j = i
      · subst e; exact h.2
      · exact h.1 j (by omega)
    · intro h
      exact ⟨fun j hj => h j (by omega), h i (by omega)⟩
theorem stU_stands {l : List Stone} (ok : OkP l) : stU l l.length = standsB l := by
  have h := stU_iff ok l.length (Nat.le_refl _)
  rw [← weakL_iff] at h
  unfold standsB
  rw [if_pos (check_zero.2 ok)]
  rw [Bool.eq_iff_iff, h, decide_eq_true_eq]
end Go.AM.Ytmhbnflnlglljaa
end

section
namespace Go.AM.Ytmhbnflnlglljaa
open Go Go.AM
set_option maxRecDepth 100000
set_option maxHeartbeats 4000000
theorem qcells_int : ∀ (l : List Q), ∀ a ∈ qcells l, ∃ k z, a = AV.int k z
  | [], a, h => by simp [qcells] at h
  | q :: l, a, h => by
    simp only [qcells, qc, List.cons_append, List.nil_append, List.mem_cons] at h
    rcases h with rfl | rfl | rfl | rfl | h
    · exact ⟨_, _, rfl⟩
    · exact ⟨_, _, rfl⟩
    · exact ⟨_, _, rfl⟩
    · exact ⟨_, _, rfl⟩
    · exact qcells_int l a h
/-- What a small pile is asked for: the first calls of a law over a pile by numbers. -/
structure MadeC (C : Callee) (hc : List AV) (l : List Stone) : Prop where
  h21 : List.take 21 hc = hc
  l21 : hc.length = 21
  sn : snaps 198 hc = .pure (hc, [])
  made : ∀ (site : Nat → Nat) seen, aBack site true seen (thaw C 31 [.agg hc, .int .i64 5] [] 0) = back1 (site 0) seen (fun j => .ref j 0 l.length l.length (l.length * 4) 4 false) ⟨.row, pcells l⟩
theorem len_known : LenOk (callA E fg 1000 37) := by
  have h : ([1, 2, 3, 4, 5].all fun n => match callA E fg 1000 37 95 [.int .u64 n] [] 0 with | some (.int .i64 _, _) => true | _ => false) = true := by kernel_rfl
  intro n h1 h2
  have hmem : (n : Int) ∈ [(1 : Int), 2, 3, 4, 5] := by
    have : n = 1 ∨ n = 2 ∨ n = 3 ∨ n = 4 ∨ n = 5 := by omega
    rcases this with rfl | rfl | rfl | rfl | rfl <;> simp
  have := List.all_eq_true.1 h _ hmem
  split at this
  · rename_i m H e; exact ⟨m, fun site seen => aBack_int ⟨H, e⟩⟩
  · exact absurd this (by simp)
theorem made_hyp {m : Int} {qs : List Q} (h : HOk m qs) (d : Nat) : MadeC (callA E fg 1000 (d + 1)) (hcells m qs) (madeL m qs) := by
  have hl : (madeL m qs).length = nOf m := madeI_length _ _
  have h21 : (hcells m qs).length = 21 := hcells_length h.l
  refine ⟨List.take_of_length_le (by omega), h21, snaps_flat _ _ ?_ (by omega), fun site seen => by rw [hl]; exact made_call (d := d) h⟩
  intro a ha
  rcases List.mem_cons.1 ha with rfl | ha
  · exact ⟨_, _, rfl⟩
  · exact qcells_int _ a ha
end Go.AM.Ytmhbnflnlglljaa
end

section
namespace Go.AM.Ytmhbnflnlglljaa
open Go Go.AM
set_option maxRecDepth 100000
set_option maxHeartbeats 8000000
theorem eqF {a b : Int} : eqArr E.T 27 [.int .i64 a, .int .i64 b] [.int .i64 a, .int .i64 b] = some true := by
  rw [eq56]; simp
abbrev spFr (l : List Stone) (i : Nat) (st b : Bool) : AFr := [(30, .int .i64 i), (29, .int .i64 l.length), (8, .bool st), (7, .int .i64 0), (6, .bool b), (5, .ptr 5 0 1), (3, .ptr 3 0 5)]
abbrev spSt (b0 b1 b2 b3 b4 : Int) (l : List Stone) (i : Nat) (st b : Bool) (bs : BS) : St := (spFr l i st b, [(3, ⟨.box, [.int .u8 b0, .int .u8 b1, .int .u8 b2, .int .u8 b3, .int .u8 b4]⟩), (5, ⟨.box, [.ref 22 0 l.length l.length (l.length * 4) 4 false]⟩), (22, ⟨bs, pcells l⟩)])
/-- What a round asks. -/
structure SpC (C : Callee) (b0 b1 b2 b3 b4 : Int) (l : List Stone) (i : Nat) (lo hi c c0 : Fr) (ws0 ws : List Int) : Prop where
  l0 : (icells ws0).length = l.length
  l1 : (icells ws).length = l.length
  span : ∀ (site : Nat → Nat) seen ex, aBack site true seen (thaw C 12 [.imm (pcells l) l.length ex, .int .i64 i] [] 0) = .pure (.tup [.agg [.int .i64 lo.num, .int .i64 lo.den], .agg [.int .i64 hi.num, .int .i64 hi.den], .int .i64 0], [])
  fair1 : ∀ (site : Nat → Nat) seen, aBack site true seen (thaw C 33 [.agg [.int .i64 lo.num, .int .i64 lo.den]] [] 0) = .pure (.bool true, [])
  fair2 : ∀ (site : Nat → Nat) seen, aBack site true seen (thaw C 33 [.agg [.int .i64 hi.num, .int .i64 hi.den]] [] 0) = .pure (.bool true, [])
  tr0 : ∀ (site : Nat → Nat) seen ex, aBack site true seen (thaw C 36 [.imm (pcells l) l.length ex, .agg [.int .u8 0, .int .u8 0, .int .u8 0, .int .u8 0, .int .u8 0]] [] 0) = back1 (site 0) seen (fun k => .ref k 0 l.length l.length l.length 1 false) ⟨.row, icells ws0⟩
  tr1 : ∀ (site : Nat → Nat) seen ex, aBack site true seen (thaw C 36 [.imm (pcells l) l.length ex, .agg [.int .u8 b0, .int .u8 b1, .int .u8 b2, .int .u8 b3, .int .u8 b4]] [] 0) = back1 (site 0) seen (fun k => .ref k 0 l.length l.length l.length 1 false) ⟨.row, icells ws⟩
  ce0 : ∀ (site : Nat → Nat) seen ex ex', aBack site true seen (thaw C 34 [.imm (icells ws0) l.length ex', .iptr [.int .i64 i] 0, .iptr [.imm (pcells l) l.length ex] 0] [] 0) = .pure (.agg [.int .i64 c0.num, .int .i64 c0.den], [])
  ce1 : ∀ (site : Nat → Nat) seen ex ex', aBack site true seen (thaw C 34 [.imm (icells ws) l.length ex', .iptr [.int .i64 i] 0, .iptr [.imm (pcells l) l.length ex] 0] [] 0) = .pure (.agg [.int .i64 c.num, .int .i64 c.den], [])
  co : C 37 [rf22 l, spV] (spX b0 b1 b2 b3 b4 l i lo hi c0 c0 ws0) 1248 = some (.tup [], spX b0 b1 b2 b3 b4 l i lo hi lo hi ws0)
  b1 : ∀ (site : Nat → Nat) seen, aBack site true seen (thaw C 39 [.agg [.int .i64 c.num, .int .i64 c.den], .agg [.int .i64 lo.num, .int .i64 lo.den]] [] 0) = .pure (.bool false, [])
  b2 : ∀ (site : Nat → Nat) seen, aBack site true seen (thaw C 39 [.agg [.int .i64 hi.num, .int .i64 hi.den], .agg [.int .i64 c.num, .int .i64 c.den]] [] 0) = .pure (.bool false, [])
  fr : ∀ (site : Nat → Nat) seen a b, aBack site true seen (thaw C 40 [.int .i64 a, .int .i64 b] [] 0) = .pure (.agg [.int .i64 a, .int .i64 b], [])
  b3 : ∀ (site : Nat → Nat) seen, aBack site true seen (thaw C 39 [.agg [.int .i64 (rightE l i), .int .i64 1], .agg [.int .i64 hi.num, .int .i64 hi.den]] [] 0) = .pure (.bool (decide (blw ⟨rightE l i, 1⟩ hi)), [])
  b4 : 0 < i → ∀ (site : Nat → Nat) seen, aBack site true seen (thaw C 39 [.agg [.int .i64 lo.num, .int .i64 lo.den], .agg [.int .i64 (leftE l i), .int .i64 1]] [] 0) = .pure (.bool (decide (blw lo ⟨leftE l i, 1⟩)), [])
theorem sp_round {C : Callee} {b0 b1 b2 b3 b4 : Int} {l : List Stone} {i : Nat} {lo hi c c0 : Fr} {ws0 ws : List Int} (ok : OkP l) (hi' : i < l.length) (k : SpC C b0 b1 b2 b3 b4 l i lo hi c c0 ws0 ws) (st b : Bool) (bs : BS) (hbs : bs = .row ∨ bs = .froz) :
    ∃ s', execA E C (fg 5) 0 156 [] 1000 c5_13 (spSt b0 b1 b2 b3 b4 l i st b bs) = some (.normal, s') ∧
      headA [] s' = spSt b0 b1 b2 b3 b4 l (i + 1) ((if i = 0 then st else st && !decide (blw lo ⟨leftE l i, 1⟩)) && !decide (blw ⟨rightE l i, 1⟩ hi)) b .froz := by
  obtain ⟨l0, l1, span, fair1, fair2, tr0, tr1, ce0, ce1, co, k1, k2, fr, k3, k4⟩ := k
  have h5 := ok.le
  have tp := take_pcs l
  have t0 : List.take l.length (icells ws0) = icells ws0 := List.take_of_length_le (by omega)
  have t1 : List.take l.length (icells ws) = icells ws := List.take_of_length_le (by omega)
  simp only [spX, rf22, spV] at co
  cases i with
  | zero =>
    have z0 : ¬ (0 : Int) > 0 := by omega
    simp only [rightE, cl0] at k3 co span ce0 ce1
    simp only [if_true, rightE]
    generalize decide (blw ⟨0, 1⟩ hi) = q at *
    cases st <;> rcases hbs with rfl | rfl <;>
    (simp (disch := omega) only [condX_bool, blockX_normal, ↓gd, fset_cons, Bool.not_true, Bool.not_false, run_nil, run_cons, fget_cons', fput_cons', forget_nil, forget_cons', hget_nil', hget_cons', hset_nil', hset_cons', gcM_n, gcM_c, stp, opPick, opBox, justO, just, Rd.bind, Rd.run, Rd.opt, upds, acells, zeroCells, tsz, rdCells, aLoad, aStore, opStore, opExtract, fresh, aIndexAddr, aNum, aBin, aInt, putC, Nat.reduceAdd, Nat.reduceMul, Nat.reduceLT, Nat.reduceBEq, Nat.reduceEqDiff, Nat.reduceLeDiff, ↓reduceIte, liveBlk_eq, decide_eq_true_eq, Nat.zero_add, List.nil_append, rtX_some, addT_some, drX_some, runT_nil, runT_cons, neat_eq, descF_nil', descF_cons', ascH_nil', ascH_cons', stpT, Rd.foot, writing, touching, Tr.empty, dynPairs, apartT, disj, List.isEmpty_nil, List.isEmpty_cons, List.map_nil, List.map_cons, Bool.not_false, Bool.not_true, Bool.true_or, Bool.or_true, Bool.or_false, Bool.and_true, Bool.true_and, Bool.and_self, decide_true, decide_false, partsOf, fillA, aUn, putD_some, putD_none, and_true, mutX, aCall, snaps, List.append_nil, Option.map_some, List.elem_cons, List.elem_nil, List.length_cons, List.length_nil, List.getElem?_cons_zero, List.getElem?_cons_succ, List.drop_zero, List.take_succ_cons, List.take_nil, List.set_cons_zero, List.set_cons_succ, frz_nil, frz_eq, frzB_row, frzB_froz, seqN, bindN, regN, snap_int, snap_ref, snap_ptr', snap_agg, snap_clo, aBuild, List.all_cons, List.all_nil, back1_r, back1_f, opCallV, List.cons_append, Nat.le_refl, Nat.mul_one, Nat.zero_mul, List.not_mem_nil, beq_self_eq_true, bne_self_eq_false, Bool.false_eq_true, T_3, T_22, T_45, T_5, T_71, T_27, T_77, x5_14, r5_5_l, s5_5_0, x5_17, x5_18, x5_16, x5_22, r5_6_l, s5_6_0, s5_6_1, s5_6_2, x5_24, r5_7_l, s5_7_0, s5_7_1, s5_7_2, s5_7_3, s5_7_4, s5_7_5, s5_7_6, s5_7_7, s5_7_8, s5_7_9, s5_7_10, s5_7_11, x5_27, r5_8_l, s5_8_0, s5_8_1, s5_8_2, s5_8_3, s5_8_4, s5_8_5, s5_8_6, s5_8_7, s5_8_8, s5_8_9, s5_8_10, s5_8_11, x5_30, r5_9_l, s5_9_0, x5_31, x5_29, x5_32, x5_28, x5_26, x5_34, r5_10_l, s5_10_0, s5_10_1, s5_10_2, x5_36, r5_11_l, r5_11_dr, r5_11_an, s5_11_0, s5_11_1, s5_11_2, s5_11_3, s5_11_4, s5_11_5, s5_11_6, s5_11_7, s5_11_8, s5_11_9, s5_11_10, s5_11_11, s5_11_12, s5_11_13, x5_38, r5_12_l, s5_12_0, s5_12_1, s5_12_2, x5_40, r5_13_l, r5_13_dr, r5_13_an, s5_13_0, s5_13_1, s5_13_2, s5_13_3, s5_13_4, s5_13_5, s5_13_6, x5_43, r5_14_l, s5_14_0, s5_14_1, s5_14_2, s5_14_3, s5_14_4, s5_14_5, s5_14_6, s5_14_7, s5_14_8, s5_14_9, s5_14_10, s5_14_11, s5_14_12, s5_14_13, s5_14_14, s5_14_15, s5_14_16, s5_14_17, x5_46, r5_15_l, s5_15_0, x5_47, x5_45, x5_48, x5_44, x5_42, x5_50, r5_16_l, s5_16_0, s5_16_1, s5_16_2, x5_53, r5_17_l, s5_17_0, s5_17_1, x5_56, r5_18_l, r5_18_dr, s5_18_0, s5_18_1, s5_18_2, s5_18_3, x5_55, x5_58, x5_54, x5_52, x5_59, r5_20_l, s5_20_0, s5_20_1, s5_20_2, s5_20_3, s5_20_4, s5_20_5, s5_20_6, s5_20_7, x5_51, x5_49, x5_41, x5_39, x5_37, x5_35, x5_33, x5_25, x5_23, x5_21, x5_20, x5_60, r5_21_l, s5_21_0, s5_21_1, x5_19, x5_15, x5_13, List.all_cons, List.all_nil, List.getD_cons_zero, List.getD_cons_succ, beq_self_eq_true, spSt, spFr, l0, l1, span, fair1, fair2, tr0, tr1, ce0, ce1, co, k1, k2, fr, k3, tp, t0, t1, pcells_length, z0, eqF, callVT_eq (centre_pure _ _), fi_34, putC, cl0, if_pos]
     exact ⟨_, rfl, rfl⟩)
  | succ j =>
    have z0 : ((j + 1 : Nat) : Int) > 0 := by omega
    have hjl : j < l.length := by omega
    obtain ⟨s, hs⟩ := at_ex hjl
    obtain ⟨h1, h2, p1, p2, l1', lm, m9⟩ := ok.fits j s hs
    have g0 : (pcells l)[j * 4]? = some (.int .i64 s.half) := pcells_field l j s 0 hs (by omega)
    have g1 : (pcells l)[j * 4 + 1]? = some (.int .i64 s.pos) := pcells_field l j s 1 hs (by omega)
    have k4' := k4 (by omega)
    have eR : rightE l (j + 1) = s.pos + s.half := by simp [rightE, hs]
    have eL : leftE l (j + 1) = s.pos - s.half := by simp [leftE, hs]
    have w1 : wrp .i64 (((j + 1 : Nat) : Int) - 1) = (j : Int) := by rw [wrp64 (by omega)]; omega
    have w2 : wrp .i64 (s.pos + s.half) = s.pos + s.half := wrp64 (by omega)
    have w3 : wrp .i64 (s.pos - s.half) = s.pos - s.half := wrp64 (by omega)
    rw [eR] at k3 ⊢
    rw [eL] at k4' ⊢
    rw [if_neg (by omega)]
    generalize decide (blw ⟨s.pos + s.half, 1⟩ hi) = q at *
    generalize decide (blw lo ⟨s.pos - s.half, 1⟩) = r at *
    cases st <;> cases r <;> rcases hbs with rfl | rfl <;>
    (simp (disch := omega) only [condX_bool, blockX_normal, ↓gd, fset_cons, Bool.not_true, Bool.not_false, run_nil, run_cons, fget_cons', fput_cons', forget_nil, forget_cons', hget_nil', hget_cons', hset_nil', hset_cons', gcM_n, gcM_c, stp, opPick, opBox, justO, just, Rd.bind, Rd.run, Rd.opt, upds, acells, zeroCells, tsz, rdCells, fieldOf, aFieldAddr, aLoad, aStore, opStore, opExtract, fresh, aIndexAddr, aNum, aBin, aInt, putC, Nat.reduceAdd, Nat.reduceMul, Nat.reduceLT, Nat.reduceBEq, Nat.reduceEqDiff, Nat.reduceLeDiff, ↓reduceIte, liveBlk_eq, Nat.zero_add, Nat.add_zero, List.nil_append, rtX_some, addT_some, drX_some, runT_nil, runT_cons, neat_eq, descF_nil', descF_cons', ascH_nil', ascH_cons', stpT, ↓gdT, Rd.foot, writing, touching, Tr.empty, dynPairs, apartT, disj, List.isEmpty_nil, List.isEmpty_cons, List.map_nil, List.map_cons, Bool.not_false, Bool.not_true, Bool.true_or, Bool.or_true, Bool.or_false, Bool.and_true, Bool.true_and, Bool.and_self, decide_true, partsOf, fillA, aUn, putD_some, putD_none, and_true, Int.natCast_nonneg, Int.ofNat_lt, Int.toNat_natCast, mutX, aCall, snaps, List.append_nil, Option.map_some, List.elem_cons, List.elem_nil, List.length_cons, List.length_nil, List.getElem?_cons_zero, List.getElem?_cons_succ, List.drop_zero, List.take_succ_cons, List.take_nil, List.set_cons_zero, List.set_cons_succ, frz_nil, frz_eq, frzB_row, frzB_froz, seqN, bindN, regN, snap_int, snap_ref, snap_ptr', snap_agg, snap_clo, aBuild, List.all_cons, List.all_nil, back1_r, back1_f, opCallV, List.cons_append, Nat.le_refl, Nat.mul_one, Nat.zero_mul, List.not_mem_nil, beq_self_eq_true, bne_self_eq_false, Bool.false_eq_true, T_3, T_22, T_45, T_5, T_71, T_27, T_77, x5_14, r5_5_l, s5_5_0, x5_17, x5_18, x5_16, x5_22, r5_6_l, s5_6_0, s5_6_1, s5_6_2, x5_24, r5_7_l, s5_7_0, s5_7_1, s5_7_2, s5_7_3, s5_7_4, s5_7_5, s5_7_6, s5_7_7, s5_7_8, s5_7_9, s5_7_10, s5_7_11, x5_27, r5_8_l, s5_8_0, s5_8_1, s5_8_2, s5_8_3, s5_8_4, s5_8_5, s5_8_6, s5_8_7, s5_8_8, s5_8_9, s5_8_10, s5_8_11, x5_30, r5_9_l, s5_9_0, x5_31, x5_29, x5_32, x5_28, x5_26, x5_34, r5_10_l, s5_10_0, s5_10_1, s5_10_2, x5_36, r5_11_l, r5_11_dr, r5_11_an, s5_11_0, s5_11_1, s5_11_2, s5_11_3, s5_11_4, s5_11_5, s5_11_6, s5_11_7, s5_11_8, s5_11_9, s5_11_10, s5_11_11, s5_11_12, s5_11_13, x5_38, r5_12_l, s5_12_0, s5_12_1, s5_12_2, x5_40, r5_13_l, r5_13_dr, r5_13_an, s5_13_0, s5_13_1, s5_13_2, s5_13_3, s5_13_4, s5_13_5, s5_13_6, x5_43, r5_14_l, s5_14_0, s5_14_1, s5_14_2, s5_14_3, s5_14_4, s5_14_5, s5_14_6, s5_14_7, s5_14_8, s5_14_9, s5_14_10, s5_14_11, s5_14_12, s5_14_13, s5_14_14, s5_14_15, s5_14_16, s5_14_17, x5_46, r5_15_l, s5_15_0, x5_47, x5_45, x5_48, x5_44, x5_42, x5_50, r5_16_l, s5_16_0, s5_16_1, s5_16_2, x5_53, r5_17_l, s5_17_0, s5_17_1, x5_56, r5_18_l, r5_18_dr, r5_18_an, s5_18_0, s5_18_1, s5_18_2, s5_18_3, s5_18_4, s5_18_5, s5_18_6, s5_18_7, s5_18_8, s5_18_9, s5_18_10, s5_18_11, s5_18_12, s5_18_13, s5_18_14, x5_57, r5_19_l, r5_19_dr, r5_19_an, s5_19_0, s5_19_1, s5_19_2, s5_19_3, s5_19_4, s5_19_5, s5_19_6, s5_19_7, s5_19_8, s5_19_9, s5_19_10, s5_19_11, s5_19_12, s5_19_13, s5_19_14, s5_19_15, s5_19_16, s5_19_17, s5_19_18, s5_19_19, s5_19_20, x5_55, x5_58, x5_54, x5_52, x5_59, r5_20_l, s5_20_0, s5_20_1, s5_20_2, s5_20_3, s5_20_4, s5_20_5, s5_20_6, s5_20_7, x5_51, x5_49, x5_41, x5_39, x5_37, x5_35, x5_33, x5_25, x5_23, x5_21, x5_20, x5_60, r5_21_l, s5_21_0, s5_21_1, x5_19, x5_15, x5_13, List.all_cons, List.all_nil, List.getD_cons_zero, List.getD_cons_succ, beq_self_eq_true, spSt, spFr, hi', hjl, l0, l1, span, fair1, fair2, tr0, tr1, ce0, ce1, co, k1, k2, fr, k3, k4', tp, t0, t1, pcells_length, z0, g0, g1, w1, w2, w3, eqF, callVT_eq (centre_pure _ _), fi_34, putC, wrp_succ (show j + 1 < 1000000 by omega)]
     exact ⟨_, rfl, rfl⟩)
end Go.AM.Ytmhbnflnlglljaa
end

section
namespace Go.AM.Ytmhbnflnlglljaa
open Go Go.AM
set_option maxRecDepth 100000
set_option maxHeartbeats 8000000
theorem spn_run {C : Callee} {hc : List AV} {b0 b1 b2 b3 b4 : Int} {l : List Stone} {b : Bool} (hm : MadeC C hc l) (ok : OkP l)
    (cs : ∀ (site : Nat → Nat) seen ex, aBack site true seen (thaw C 32 [.imm (pcells l) l.length ex] [] 0) = .pure (.tup [.bool b, .int .i64 0], []))
    (hst : stU l l.length = b)
    (hround : ∀ i, i < l.length → ∀ st bs, bs = BS.row ∨ bs = BS.froz → ∃ s', execA E C (fg 5) 0 156 [] 1000 c5_13 (spSt b0 b1 b2 b3 b4 l i st b bs) = some (.normal, s') ∧
      headA [] s' = spSt b0 b1 b2 b3 b4 l (i + 1) ((if i = 0 then st else st && !decide (blw (spF (-1) l i) ⟨leftE l i, 1⟩)) && !decide (blw ⟨rightE l i, 1⟩ (spF 1 l i))) b .froz)
    {g1 g2 : Fr} (cn : ∀ (site : Nat → Nat) seen ex, aBack site true seen (thaw C 12 [.imm (pcells l) l.length ex, .int .i64 l.length] [] 0) = .pure (.tup [.agg [.int .i64 g1.num, .int .i64 g1.den], .agg [.int .i64 g2.num, .int .i64 g2.den], .int .i64 2], []))
    (cw : ∀ (site : Nat → Nat) seen, aBack site true seen (thaw C 10 [] [] 0) = .pure (.bool true, [])) :
    rsOf (bodyA E C fg 1000 5 [.agg hc, .agg [.int .u8 b0, .int .u8 b1, .int .u8 b2, .int .u8 b3, .int .u8 b4]] [] 0) = some (.bool true) := by
  obtain ⟨h21, l21, sn, made⟩ := hm
  have h5 := ok.le
  have h0 := ok.ne
  have tp := take_pcs l
  have hne : ¬ l.length = 0 := by omega
  have hloop := iter_all (f := execA E C (fg 5) 0 156 [] 1000 c5_13) (hd := headA []) (fun i => spSt b0 b1 b2 b3 b4 l i (stU l i) b (if i = 0 then .row else .froz)) l.length 1000 0
    (spFr l 0 true b, [(2, ⟨.box, hc⟩), (3, ⟨.box, [.int .u8 b0, .int .u8 b1, .int .u8 b2, .int .u8 b3, .int .u8 b4]⟩), (5, ⟨.box, [.ref 22 0 l.length l.length (l.length * 4) 4 false]⟩), (22, ⟨.row, pcells l⟩)]) (by rfl) (by omega) (fun i _ hi => by
      have := hround i (by omega) (stU l i) (if i = 0 then .row else .froz) (by split <;> simp)
      rw [if_neg (show ¬ i + 1 = 0 by omega)]
      exact this) (e := .exit 0) (se := ((31, .bool false) :: spFr l l.length (stU l l.length) b, (spSt b0 b1 b2 b3 b4 l l.length true b .froz).2)) (by
      rw [Nat.zero_add, if_neg hne]
      simp only [seqX_exit, condX_bool, run_nil, run_cons, fget_cons', fput_cons', forget_nil, forget_cons', gcM_n, stp, just, Rd.bind, Rd.run, Rd.opt, upds, aBin, aInt, Nat.reduceEqDiff, Nat.reduceLeDiff, ↓reduceIte, decide_false, putD_some, List.elem_nil, seqN, bindN, regN, Int.lt_irrefl, Bool.false_eq_true, x5_14, r5_5_l, s5_5_0, x5_17, x5_18, x5_16, x5_15, x5_13, spSt, spFr, Int.lt_irrefl, decide_false, Bool.false_eq_true]) (by simp)
  simp only [spFr, cl0, hst] at hloop
  cases b <;>
  simp (disch := omega) only [blockX_exit, ↓gd, fset_cons, bodyX_ret, run_nil, run_cons, fget_cons', fput_nil, fput_cons', forget_nil, forget_cons', hget_nil', hget_cons', hset_nil', hset_cons', frame0, gcM_n, gcM_c, stp, opPick, opBox, justO, just, Rd.bind, Rd.run, Rd.opt, upds, acells, zeroCells, tsz, rdCells, aLoad, aStore, opStore, opExtract, resA, resL, fresh, aLen, aBuiltin, aBin, aInt, putC, Nat.reduceAdd, Nat.reduceBEq, Nat.reduceEqDiff, Nat.reduceLeDiff, ↓reduceIte, reduceCtorEq, liveBlk_eq, Nat.zero_add, List.nil_append, List.getElem?_toArray, Bool.and_true, decide_true, putD_some, putD_none, and_true, aCall, snaps, List.append_nil, Option.map_some, List.elem_cons, List.elem_nil, List.length_cons, List.length_nil, List.getElem?_cons_zero, List.getElem?_cons_succ, List.drop_zero, List.set_cons_zero, List.set_cons_succ, frz_nil, seqN, bindN, regN, snap_int, snap_ref, snap_agg, back1_r, Nat.le_refl, Nat.zero_mul, List.not_mem_nil, beq_self_eq_true, Bool.false_eq_true, isBoolT, T_22, T_70, T_4, T_27, x5_1, r5_0_l, s5_0_0, s5_0_1, s5_0_2, x5_3, r5_1_l, s5_1_0, s5_1_1, s5_1_2, s5_1_3, x5_5, r5_2_l, s5_2_0, s5_2_1, s5_2_2, s5_2_3, s5_2_4, s5_2_5, s5_2_6, x5_7, r5_3_l, s5_3_0, x5_10, r5_4_l, s5_4_0, s5_4_1, s5_4_2, x5_12, x5_11, x5_9, x5_62, r5_22_l, s5_22_0, s5_22_1, s5_22_2, s5_22_3, s5_22_4, s5_22_5, s5_22_6, s5_22_7, s5_22_8, s5_22_9, s5_22_10, s5_22_11, s5_22_12, x5_64, r5_23_l, s5_23_0, s5_23_1, s5_23_2, s5_23_3, s5_23_4, s5_23_5, s5_23_6, s5_23_7, s5_23_8, s5_23_9, s5_23_10, s5_23_11, s5_23_12, s5_23_13, s5_23_14, x5_65, x5_63, x5_61, x5_8, x5_6, x5_4, x5_2, x5_0, b_5, beq_self_eq_true, h21, l21, sn, made, tp, pcells_length, cs, hloop, cn, cw, putC]
end Go.AM.Ytmhbnflnlglljaa
end

section
namespace Go.AM.Ytmhbnflnlglljaa
open Go Go.AM
set_option maxRecDepth 100000
set_option maxHeartbeats 1000000
theorem spanned_true {m : Int} {qs : List Q} {bs : List Int} (h : HOk m qs) (hbs : bs.length = 5 ∧ ∀ (i : Nat) (z : Int), bs[i]? = some z → 0 ≤ z ∧ z ≤ 255) (hw : ∃ H', callA E fg 1000 40 10 [] [] 0 = some (.bool true, H')) :
    rsOf (bodyA E (callA E fg 1000 40) fg 1000 5 [.agg (hcells m qs), .agg (bs.map (AV.int .u8))] [] 0) = some (.bool true) := by
  have cw := fun (site : Nat → Nat) seen => aBack_bool (site := site) (seen := seen) hw
  have ok := made_okP h
  have hm := made_hyp h 39
  generalize madeL m qs = l at *
  have hb1 : BOk bs := ⟨hbs.1, hbs.2⟩
  have hb0 : BOk [0, 0, 0, 0, 0] := ⟨rfl, fun i b hb => by
    match i, hb with
    | 0, hb => simp at hb; omega
    | 1, hb => simp at hb; omega
    | 2, hb => simp at hb; omega
    | 3, hb => simp at hb; omega
    | 4, hb => simp at hb; omega
    | i + 5, hb => simp at hb⟩
  have h5 := ok.le
  have h0 := ok.ne
  have e1 := check_zero.2 ok
  have zn : foundE l l.length = 2 := by unfold foundE; rw [if_pos e1, if_neg (by omega), if_pos (by omega)]
  match bs, hbs.1, hb1 with
  | [b0, b1, b2, b3, b4], _, hb1 =>
    refine spn_run hm ok (b := standsB l) (fun site seen ex => ?_) (stU_stands ok) (fun i hi st bst hbst => ?_) (g1 := spF (-1) l l.length) (g2 := spF 1 l l.length) (fun site seen ex => ?_) cw
    · have := stands_call (d := 34) (site := site) (seen := seen) (a := .imm (pcells l) l.length ex) (.inr ⟨ex, rfl⟩)
      rwa [e1] at this
    · have z1 : foundE l i = 0 := found_zero.2 ⟨ok, by omega, by omega⟩
      have w0 := tru_weigh ok hb0
      have w1 := tru_weigh ok hb1
      have f0 := ctr_fair ok w0 hi
      obtain ⟨a1, a2⟩ := acc_span ok w0 hi
      obtain ⟨i1, i2⟩ := ctr_in ok w1 hi
      have fl := spF_fair (sg := -1) ok hi
      have fh := spF_fair (sg := 1) ok hi
      have fc := ctr_fair ok w1 hi
      have fe : ∀ k : Int, -1000000000 ≤ k ∧ k ≤ 1000000000 → Fair ⟨k, 1⟩ := fun k hk => ⟨by show (0 : Int) < 1; decide, by show (1 : Int) < 33554432; decide, by show -68719476736 < k; omega, by show k < 68719476736; omega, by simp [gcdI]⟩
      have eb := edge_bounds ok (k := i) (by omega)
      refine sp_round ok hi (c0 := ctrF l i (truI l [0, 0, 0, 0, 0] l.length)) (c := ctrF l i (truI l [b0, b1, b2, b3, b4] l.length)) (ws0 := truI l [0, 0, 0, 0, 0] l.length) (ws := truI l [b0, b1, b2, b3, b4] l.length) ⟨?_, ?_, ?_, ?_, ?_, ?_, ?_, ?_, ?_, ?_, ?_, ?_, ?_, ?_, ?_⟩ st (standsB l) bst hbst
      · rw [icells_length, truI_length]
      · rw [icells_length, truI_length]
      · intro site seen ex
        have := span_call (d := 34) (site := site) (seen := seen) (a := .imm (pcells l) l.length ex) (.inr ⟨ex, rfl⟩) i len_known
        simp only [z1, frc] at this
        exact this
      · intro site seen
        have := fair_call (d := 38) (site := site) (seen := seen) fl
        exact this
      · intro site seen
        have := fair_call (d := 38) (site := site) (seen := seen) fh
        exact this
      · intro site seen ex
        have := truth_call (d := 39) (site := site) (seen := seen) (ex := ex) ok hb0
        simp only [bcells, List.map_cons, List.map_nil] at this
        exact this
      · intro site seen ex
        have := truth_call (d := 39) (site := site) (seen := seen) (ex := ex) ok hb1
        simp only [bcells, List.map_cons, List.map_nil] at this
        exact this
      · intro site seen ex ex'
        have := centre_call (d := 37) (site := site) (seen := seen) (ex := ex) (ex' := ex') ok w0 hi
        simp only [frc] at this
        exact this
      · intro site seen ex ex'
        have := centre_call (d := 37) (site := site) (seen := seen) (ex := ex) (ex' := ex') ok w1 hi
        simp only [frc] at this
        exact this
      · have := co_run (d := 35) (b0 := b0) (b1 := b1) (b2 := b2) (b3 := b3) (b4 := b4) (f1 := spF (-1) l i) (f2 := spF 1 l i) (ws0 := truI l [0, 0, 0, 0, 0] l.length) ok hi f0 f0
        rw [a1, a2] at this
        exact this
      · intro site seen
        have := below_call (d := 39) (site := site) (seen := seen) fc fl
        rwa [show decide (_ < _) = false by rw [decide_eq_false_iff_not]; exact not_blw.2 i1] at this
      · intro site seen
        have := below_call (d := 39) (site := site) (seen := seen) fh fc
        rwa [show decide (_ < _) = false by rw [decide_eq_false_iff_not]; exact not_blw.2 i2] at this
      · intro site seen a b; exact lfrac_call (d := 39)
      · intro site seen
        have := below_call (d := 39) (site := site) (seen := seen) (f := ⟨rightE l i, 1⟩) (fe _ (by omega)) fh
        exact this
      · intro hp site seen
        have := below_call (d := 39) (site := site) (seen := seen) (g := ⟨leftE l i, 1⟩) fl (fe _ (by omega))
        exact this
    · have := span_call (d := 34) (site := site) (seen := seen) (a := .imm (pcells l) l.length ex) (.inr ⟨ex, rfl⟩) l.length len_known
      simp only [zn, frc] at this
      exact this
end Go.AM.Ytmhbnflnlglljaa
end

section
namespace Go.AM.Ytmhbnflnlglljaa
open Go Go.AM
set_option maxRecDepth 1000000
theorem works_run : isTrue (callA E fg 1000 40 10 [] [] 0) = true := by kernel_rfl
end Go.AM.Ytmhbnflnlglljaa
end

section
namespace Go.AM.Ytmhbnflnlglljaa
open Go Go.AM Go.RowKit Go.Proofs Go.Proofs.Ytmhbnflnlglljaa Go.ChangeShapes Go.WideShapes Go.ChangeAt
set_option maxRecDepth 1000000
theorem laidOut : laidOutB Try.prog = true := by kernel_rfl
theorem readable_0 : Try.prog.readableRec 70 = true := by kernel_rfl
theorem types_lt_0 : 70 < Try.prog.types.size := of_decide_eq_true (by kernel_rfl)
theorem cellsOf_0 : Try.prog.cellsOf 70 = 21 := by kernel_rfl
theorem cellTypes_0 : Try.prog.cellTypes Try.prog.depth 70 = some (List.replicate 21 5) := by kernel_rfl
theorem readable_1 : Try.prog.readableRec 71 = true := by kernel_rfl
theorem types_lt_1 : 71 < Try.prog.types.size := of_decide_eq_true (by kernel_rfl)
theorem cellsOf_1 : Try.prog.cellsOf 71 = 5 := by kernel_rfl
theorem cellTypes_1 : Try.prog.cellTypes Try.prog.depth 71 = some (List.replicate 5 5) := by kernel_rfl
theorem quads_of : ∀ (n : Nat) (zs : List Int), zs.length = n * 4 → (∀ (i : Nat) (z : Int), zs[i]? = some z → 0 ≤ z ∧ z ≤ 255) → ∃ l : List Q, l.length = n ∧ qcells l = zs.map (AV.int .u8) ∧ ∀ (i : Nat) (q : Q), l[i]? = some q → QOk q
  | 0, zs, h, _ => by
    have : zs = [] := List.length_eq_zero_iff.1 (by omega)
    subst this
    exact ⟨[], rfl, rfl, fun i q hi => by simp at hi⟩
  | n + 1, a :: b :: c :: d :: zs, h, hb => by
    simp only [List.length_cons] at h
    obtain ⟨l, h1, h2, h3⟩ := quads_of n zs (by omega) (fun i z hi => hb (i + 4) z (by simpa using hi))
    refine ⟨⟨a, b, c, d⟩ :: l, by simp [h1], by simp [qcells, qc, h2], fun i q hi => ?_⟩
    cases i with
    | zero => simp at hi; subst hi; exact ⟨hb 0 a rfl, hb 1 b rfl, hb 2 c rfl, hb 3 d rfl⟩
    | succ i => exact h3 i q (by simpa using hi)
  | n + 1, [], h, _ => by simp at h
  | n + 1, [_], h, _ => by simp at h; omega
  | n + 1, [_, _], h, _ => by simp at h; omega
  | n + 1, [_, _, _], h, _ => by simp at h; omega
theorem hand_heap {W : World} {v : Value} {b0 : Nat} {r : Reach} (hv : Value.okWide Try.prog W r b0 70 v) : ∃ m qs, HOk m qs ∧ (start (fun k => k < W.heap.size) W).R (.agg (hcells m qs)) v := by
  obtain ⟨zs, cs, rfl, h1, h2, h3⟩ := hand_struct Try.underlying70 Try.underlying5 cellTypes_0 cellsOf_0 (by omega) hv
  match zs, h2 with
  | z :: zs, h2 =>
    obtain ⟨qs, a, b, c⟩ := quads_of 5 zs (by simpa using h2) (fun i y hi => h3 (i + 1) y (by simpa using hi))
    refine ⟨z, qs, ⟨h3 0 z rfl, a, c⟩, ?_⟩
    rw [show hcells z qs = (z :: zs).map (AV.int .u8) by simp [hcells, b]]
    exact vr_u8 _ h1
theorem propSpanned_walk {W : World} {m0 : Int} {qs0 : List Q} {v0 : Value} {zs1 : List Int} {v1 : Value} (h0 : HOk m0 qs0) (r0 : (start (fun k => k < W.heap.size) W).R (.agg (hcells m0 qs0)) v0) (h1 : zs1.length = 5 ∧ ∀ (i : Nat) (z : Int), zs1[i]? = some z → 0 ≤ z ∧ z ≤ 255) (r1 : (start (fun k => k < W.heap.size) W).R (.agg (zs1.map (AV.int .u8))) v1) :
    Calls Try.prog 5 #[v0, v1] W fun e w' => e = .returned (.bool true) ∧ Below W.heap.size W w' := by
  obtain ⟨H0, hw⟩ := isTrue_ok works_run
  obtain ⟨H1, hr⟩ := rs_ex (spanned_true h0 h1 ⟨H0, hw⟩)
  have hC : CS Try.prog E (bodyA E (callA E fg 1000 40) fg 1000) := body_ok envOk mixed fg 1000 (sound 40)
  refine law_run hC hr (fun k h => h) (vs := [v0, v1]) ?_
  simp only [Gh.Rs, VRs]
  exact ⟨v0, _, rfl, r0, v1, _, rfl, r1, rfl⟩
theorem propSpanned_lifted (os : Os) (started : os.Started) (H : Type) (enc : TypeId × Value → H) :
    ReturnsInHanded {} Try.checked os 5 .any (Rows.propSpannedSpec.pre6 enc Try.prog Try.f5 Rows.propSpannedRow.domain false)
      (Rows.propSpannedSpec.post enc Try.prog Try.f5 false true false false) := by
  refine returnsInHanded_of_change own started (by kernel_rfl) Try.func5 (ChangeSpec.witness6 (enc := enc) (C := Try.checked) false ⟨#[], #[.agg (Array.replicate 21 (.int .u8 0)), .agg (Array.replicate 5 (.int .u8 0))], []⟩ 8 (by kernel_rfl) (by kernel_rfl) (by kernel_rfl) (by kernel_rfl)) ?_
  intro W base args ds gs before hval0 hW _ _
  have hW' := hW
  obtain ⟨p, q, hA0, hV, rfl, hfz, hnd⟩ := hW
  have hA : DataW.TrodAll enc Try.prog W 0 (fun _ => true) true Try.f5.params.toList args.toList ds p := hA0
  rw [Try.params5] at hA
  obtain ⟨w0, vs0, d0, ds0, p0, q0, ha, rfl, rfl, t0, hr0⟩ := trodAll_cons hA
  obtain ⟨w1, vs1, d1, ds1, p1, q1, rfl, rfl, rfl, t1, hr1⟩ := trodAll_cons hr0
  obtain ⟨rfl, rfl, rfl⟩ := trodAll_nil hr1
  obtain rfl : args = #[w0, w1] := by cases args; simp_all
  obtain ⟨rfl, rfl⟩ := trodVars_none hV
  have hval : ∀ (j : Nat) t v, (#[70, 71] : Array TypeId)[j]? = some t → (#[w0, w1] : Array Value)[j]? = some v → Value.okWide Try.prog W .any base t v := by
    intro j t v; have := hval0 j t v; rw [Try.params5] at this; exact this
  obtain ⟨m0, qs0, h0, r0⟩ := hand_heap (hval 0 70 w0 rfl rfl)
  obtain ⟨zs1, cs1, rfl, e1, l1, b1⟩ := hand_array Try.underlying71 Try.underlying5 cellTypes_1 cellsOf_1 (by omega) (hval 1 71 w1 rfl rfl)
  have h1 : zs1.length = 5 ∧ ∀ (i : Nat) (z : Int), zs1[i]? = some z → 0 ≤ z ∧ z ≤ 255 := ⟨l1, b1⟩
  have r1 : (start (fun k => k < W.heap.size) W).R (.agg (zs1.map (AV.int .u8))) (.agg cs1) := vr_u8 _ e1
  refine (propSpanned_walk h0 r0 h1 r1).mono fun e W' ⟨he, bel⟩ => ?_
  subst he
  exact ⟨_, rfl, _, _, _, [], _, [], hW', trodAll_mk1 (shut_bool Try.underlying4 _),
    trodAll_mk2 (bel.trod' laidOut readable_0 types_lt_0 t0) (bel.trod' laidOut readable_1 types_lt_1 t1), rfl, bel.frame _, fun h => by cases h⟩
theorem propSpanned_holds : Rows.PropSpannedSaid :=
  OpenClaim.holds_of_wide 5 Try.f5 rfl rfl rfl rfl rfl rfl rfl ⟨rfl, rfl, rfl, rfl, rfl⟩ rfl rfl rfl rfl rfl (by kernel_rfl) Try.func5 (by kernel_rfl)
    (of_decide_eq_true (by kernel_rfl)) (by unfold Func.isWrapper; first | (rw [if_pos (by decide +kernel)]; kernel_rfl) | (rw [if_neg (by decide +kernel)]; exact ⟨rfl, rfl⟩))
    (fun os started H enc _ => propSpanned_lifted os started H enc)
end Go.AM.Ytmhbnflnlglljaa
namespace Go.Proofs.Ytmhbnflnlglljaa
/-- PropSpanned: the law answers true for every input, and the input reads as it did. No condition. -/
theorem propSpanned_holds : Rows.PropSpannedSaid := Go.AM.Ytmhbnflnlglljaa.propSpanned_holds
end Go.Proofs.Ytmhbnflnlglljaa
end
#print axioms Go.Proofs.Ytmhbnflnlglljaa.propSpanned_holds
