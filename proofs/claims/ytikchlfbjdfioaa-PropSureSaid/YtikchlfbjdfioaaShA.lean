/- PropShown: up to what is wanted. Own work of this project. -/
import Derived.Test.YtikchlfbjdfioaaMadeA
namespace Go.AM.Ytikchlfbjdfioaa
open Go Go.AM
set_option maxRecDepth 100000
set_option maxHeartbeats 4000000

structure BOk (bs : List Int) : Prop where
  l : bs.length = 5
  b : ∀ (i : Nat) (b : Int), bs[i]? = some b → 0 ≤ b ∧ b ≤ 255
def bcells (bs : List Int) : List AV := bs.map (AV.int .u8)
theorem bcells_length (bs : List Int) : (bcells bs).length = bs.length := by simp [bcells]
theorem bcells_at {bs : List Int} {k : Nat} {z : Int} (h : bs[k]? = some z) : (bcells bs)[k]? = some (.int .u8 z) := by simp [bcells, h]

/-- A weight by a number. -/
def xF (s : Stone) (b : Int) : Int := if b > 250 then b - 250 + (4 * b).tmod 8 else s.least + b.tmod (s.most - s.least + 1)
def xN (l : List Stone) (bs : List Int) (i : Nat) : Int := xF (l.getD i default) (bs.getD i 0)
def wsI (l : List Stone) (bs : List Int) (i : Nat) : List Int := (List.range i).map (xN l bs)
theorem wsI_length (l bs i) : (wsI l bs i).length = i := by simp [wsI]
theorem wsI_succ (l bs i) : wsI l bs (i + 1) = wsI l bs i ++ [xN l bs i] := by simp [wsI, List.range_succ]
/-- What is wanted: the error of the first weight out of its bounds. -/
def wantN (l : List Stone) (bs : List Int) : Nat → Int
  | 0 => 0
  | i + 1 => if wantN l bs i = 0 then (if xN l bs i < (l.getD i default).least then 1 else if xN l bs i > (l.getD i default).most then 1 else 0) else wantN l bs i

theorem sh_round {C : Callee} {l : List Stone} {bs : List Int} (h : OkP l) (hbs : BOk bs) (i : Nat) (hi : i < l.length) (out : List Int) (ho : out.length = i) (want : Int) (lo sd lv : Int) :
    ∃ s', execA E C (fg 5) 0 249 [] 1000 c5_13 ([(35, .int .i64 i), (34, .int .i64 l.length), (33, .ref 32 0 l.length l.length (l.length * 4) 4 false), (13, .int .i64 want), (12, outV 87 out), (11, .ref 32 0 l.length l.length (l.length * 4) 4 false), (6, .ptr 6 0 5), (4, .int .u8 lo), (3, .int .u8 sd), (2, .int .u8 lv)], (6, ⟨.box, bcells bs⟩) :: (32, ⟨.row, pcells l⟩) :: outH 87 out) = some (.normal, s') ∧
      headA [] s' = ([(35, .int .i64 (i + 1 : Nat)), (34, .int .i64 l.length), (33, .ref 32 0 l.length l.length (l.length * 4) 4 false), (13, .int .i64 (if want = 0 then (if xN l bs i < (l.getD i default).least then 1 else if xN l bs i > (l.getD i default).most then 1 else 0) else want)), (12, outV 87 (out ++ [xN l bs i])), (11, .ref 32 0 l.length l.length (l.length * 4) 4 false), (6, .ptr 6 0 5), (4, .int .u8 lo), (3, .int .u8 sd), (2, .int .u8 lv)], (6, ⟨.box, bcells bs⟩) :: (32, ⟨.row, pcells l⟩) :: outH 87 (out ++ [xN l bs i])) := by
  obtain ⟨s, hs⟩ := at_ex hi
  have hle := h.le
  have hi5 : i < 5 := by omega
  obtain ⟨b, hb⟩ := at_ex (l := bs) (k := i) (by have := hbs.l; omega)
  have hs' : l.getD i default = s := by simp [hs]
  have hb' : bs.getD i 0 = b := by simp [hb]
  obtain ⟨_, _, _, _, l1, lm, m9⟩ := h.fits i s hs
  obtain ⟨b0, b1⟩ := hbs.b i b hb
  obtain ⟨t1, t2⟩ := tmod_b b0 (s.most - s.least + 1) (by omega)
  obtain ⟨u1, u2⟩ := tmod_b (x := 4 * b) (by omega) 8 (by omega)
  have w1 : wrp .i64 b = b := wrp64 (by omega)
  have w2 : wrp .i64 (s.most - s.least) = s.most - s.least := wrp64 (by omega)
  have w3 : wrp .i64 (s.most - s.least + 1) = s.most - s.least + 1 := wrp64 (by omega)
  have w4 : wrp .i64 (s.least + b.tmod (s.most - s.least + 1)) = s.least + b.tmod (s.most - s.least + 1) := wrp64 (by omega)
  have w5 : wrp .i64 (b - 250) = b - 250 := wrp64 (by omega)
  have w6 : wrp .i64 (4 * b) = 4 * b := wrp64 (by omega)
  have w7 : wrp .i64 (b - 250 + (4 * b).tmod 8) = b - 250 + (4 * b).tmod 8 := wrp64 (by omega)
  have n1 : ¬ (s.most - s.least + 1 = 0) := by omega
  have hbl : (bcells bs).length = 5 := by rw [bcells_length, hbs.l]
  have hbi : (i : Int) < 5 := by omega
  have hx : xN l bs i = xF s b := by rw [xN, hs', hb']
  rw [hx, hs']
  cases out with
  | nil =>
    simp only [outV, outH, List.nil_append]
    by_cases h250 : b > 250
    · have e : xF s b = b - 250 + (4 * b).tmod 8 := by rw [xF, if_pos h250]
      rw [e]
      simp only [seqX_normal, seqX_ite, bindR_some, bindR_ite, regX_some, regX_ite, condX_bool, blockX_normal, blockX_ite, ↓gd, fset_cons, Bool.not_true, Bool.not_false, run_nil, run_cons, fget_cons', fput_cons', forget_nil, forget_cons', hget_nil', hget_cons', hset_nil', hset_cons', gcM, stp, opPick, opBox, justO, just, Rd.bind, Rd.run, Rd.opt, upds, acells, zeroCells, tsz, elemT, rdCells, fieldOf, aFieldAddr, aLoad, aStore, opStore, fresh, aIndexAddr, aNum, aBuiltin, aBin, aInt, putC, evO, Nat.reduceAdd, Nat.reduceLT, Nat.reduceGT, Nat.reduceBEq, Nat.reduceEqDiff, Nat.reduceLeDiff, ↓reduceIte, reduceCtorEq, liveBlk_eq, decide_eq_true_eq, decide_eq_false_iff_not, Nat.zero_add, ne_eq, beq_iff_eq, ite_not, List.nil_append, List.getElem?_toArray, rtX_some, addT_some, drX_some, runT_nil, runT_cons, neat_eq, descF_nil', descF_cons', ascH_nil', ascH_cons', stpT, Rd.foot, writing, touching, Tr.empty, dynPairs, apartT, disj, List.isEmpty_nil, List.isEmpty_cons, List.map_nil, Bool.not_false, Bool.not_true, Bool.true_or, Bool.or_true, Bool.or_false, Bool.and_true, Bool.true_and, Bool.and_self, decide_true, not_true_eq_false, or_self, aBuildSlice, partsOf, fillA, repC, frz, isSliceT, aAppend, srcOf, window, putD_some, putD_none, and_true, Int.natCast_nonneg, Int.ofNat_lt, Int.toNat_natCast, snaps, snap, List.append_nil, List.elem_cons, List.elem_nil, List.length_cons, List.length_nil, List.getElem?_cons_zero, List.getElem?_cons_succ, List.drop_zero, List.take_succ_cons, List.take_nil, List.set_cons_zero, List.set_cons_succ, T_3, T_27, T_36, T_44, T_5, T_26, x5_14, r5_5_l, s5_5_0, x5_17, x5_18, x5_16, x5_22, r5_6_l, s5_6_0, s5_6_1, s5_6_2, s5_6_3, s5_6_4, s5_6_5, x5_24, r5_7_l, r5_7_dr, r5_7_an, s5_7_0, s5_7_1, s5_7_2, s5_7_3, s5_7_4, s5_7_5, s5_7_6, s5_7_7, s5_7_8, s5_7_9, s5_7_10, s5_7_11, s5_7_12, s5_7_13, s5_7_14, x5_27, r5_8_l, s5_8_0, s5_8_1, s5_8_2, s5_8_3, x5_29, r5_9_l, r5_9_dr, r5_9_an, s5_9_0, s5_9_1, s5_9_2, s5_9_3, s5_9_4, s5_9_5, s5_9_6, s5_9_7, s5_9_8, s5_9_9, s5_9_10, s5_9_11, s5_9_12, x5_30, x5_28, x5_26, x5_33, r5_10_l, s5_10_0, s5_10_1, s5_10_2, s5_10_3, s5_10_4, s5_10_5, s5_10_6, s5_10_7, s5_10_8, s5_10_9, s5_10_10, s5_10_11, s5_10_12, s5_10_13, x5_35, r5_11_l, s5_11_0, x5_36, x5_34, x5_32, x5_37, r5_12_l, s5_12_0, s5_12_1, s5_12_2, s5_12_3, s5_12_4, x5_31, x5_25, x5_23, x5_21, x5_20, x5_38, r5_13_l, s5_13_0, s5_13_1, x5_19, x5_15, x5_13, hi, hbi, hbl, pcells_length, pcells_at l i s hs, sc, pcells_off l i hi, bcells_at hb, Nat.mul_one, h250, w1, w2, w3, w4, w5, w6, w7, n1, aConv, wrp_succ (show i < 1000000 by omega), fillA, List.all_cons, List.all_nil, List.getD_cons_zero, List.getD_cons_succ, beq_self_eq_true, cl5, Int.reduceEq, room3 (show 1 ≤ 1000000 by omega)]
      obtain ⟨hl5, _⟩ := hbs
      by_cases c0 : want = 0
      · subst c0
        by_cases c1 : b - 250 + (4 * b).tmod 8 < s.least
        · simp only [c1, if_true]
          match bs, hl5 with
          | [_, _, _, _, _], _ => exact ⟨_, rfl, rfl⟩
        · by_cases c2 : b - 250 + (4 * b).tmod 8 > s.most
          · simp only [c1, c2, if_true, if_false]
            match bs, hl5 with
            | [_, _, _, _, _], _ => exact ⟨_, rfl, rfl⟩
          · simp only [c1, c2, if_true, if_false]
            match bs, hl5 with
            | [_, _, _, _, _], _ => exact ⟨_, rfl, rfl⟩
      · simp only [c0, if_false]
        match bs, hl5 with
        | [_, _, _, _, _], _ => exact ⟨_, rfl, rfl⟩
    · have e : xF s b = s.least + b.tmod (s.most - s.least + 1) := by rw [xF, if_neg h250]
      rw [e]
      simp only [seqX_normal, seqX_ite, bindR_some, bindR_ite, regX_some, regX_ite, condX_bool, blockX_normal, blockX_ite, ↓gd, fset_cons, Bool.not_true, Bool.not_false, run_nil, run_cons, fget_cons', fput_cons', forget_nil, forget_cons', hget_nil', hget_cons', hset_nil', hset_cons', gcM, stp, opPick, opBox, justO, just, Rd.bind, Rd.run, Rd.opt, upds, acells, zeroCells, tsz, elemT, rdCells, fieldOf, aFieldAddr, aLoad, aStore, opStore, fresh, aIndexAddr, aNum, aBuiltin, aBin, aInt, putC, evO, Nat.reduceAdd, Nat.reduceLT, Nat.reduceGT, Nat.reduceBEq, Nat.reduceEqDiff, Nat.reduceLeDiff, ↓reduceIte, reduceCtorEq, liveBlk_eq, decide_eq_true_eq, decide_eq_false_iff_not, Nat.zero_add, ne_eq, beq_iff_eq, ite_not, List.nil_append, List.getElem?_toArray, rtX_some, addT_some, drX_some, runT_nil, runT_cons, neat_eq, descF_nil', descF_cons', ascH_nil', ascH_cons', stpT, Rd.foot, writing, touching, Tr.empty, dynPairs, apartT, disj, List.isEmpty_nil, List.isEmpty_cons, List.map_nil, Bool.not_false, Bool.not_true, Bool.true_or, Bool.or_true, Bool.or_false, Bool.and_true, Bool.true_and, Bool.and_self, decide_true, decide_false, not_true_eq_false, or_self, aBuildSlice, partsOf, fillA, repC, frz, isSliceT, aAppend, srcOf, window, putD_some, putD_none, and_true, Int.natCast_nonneg, Int.ofNat_lt, Int.toNat_natCast, snaps, snap, List.append_nil, List.elem_cons, List.elem_nil, List.length_cons, List.length_nil, List.getElem?_cons_zero, List.getElem?_cons_succ, List.drop_zero, List.take_succ_cons, List.take_nil, List.set_cons_zero, List.set_cons_succ, T_3, T_27, T_36, T_44, T_5, T_26, x5_14, r5_5_l, s5_5_0, x5_17, x5_18, x5_16, x5_22, r5_6_l, s5_6_0, s5_6_1, s5_6_2, s5_6_3, s5_6_4, s5_6_5, x5_24, r5_7_l, r5_7_dr, r5_7_an, s5_7_0, s5_7_1, s5_7_2, s5_7_3, s5_7_4, s5_7_5, s5_7_6, s5_7_7, s5_7_8, s5_7_9, s5_7_10, s5_7_11, s5_7_12, s5_7_13, s5_7_14, x5_27, r5_8_l, s5_8_0, s5_8_1, s5_8_2, s5_8_3, x5_29, r5_9_l, r5_9_dr, r5_9_an, s5_9_0, s5_9_1, s5_9_2, s5_9_3, s5_9_4, s5_9_5, s5_9_6, s5_9_7, s5_9_8, s5_9_9, s5_9_10, s5_9_11, s5_9_12, x5_30, x5_28, x5_26, x5_33, r5_10_l, s5_10_0, s5_10_1, s5_10_2, s5_10_3, s5_10_4, s5_10_5, s5_10_6, s5_10_7, s5_10_8, s5_10_9, s5_10_10, s5_10_11, s5_10_12, s5_10_13, x5_35, r5_11_l, s5_11_0, x5_36, x5_34, x5_32, x5_37, r5_12_l, s5_12_0, s5_12_1, s5_12_2, s5_12_3, s5_12_4, x5_31, x5_25, x5_23, x5_21, x5_20, x5_38, r5_13_l, s5_13_0, s5_13_1, x5_19, x5_15, x5_13, hi, hbi, hbl, pcells_length, pcells_at l i s hs, sc, pcells_off l i hi, bcells_at hb, Nat.mul_one, h250, w1, w2, w3, w4, w5, w6, w7, n1, aConv, wrp_succ (show i < 1000000 by omega), fillA, List.all_cons, List.all_nil, List.getD_cons_zero, List.getD_cons_succ, beq_self_eq_true, cl5, Int.reduceEq, room3 (show 1 ≤ 1000000 by omega)]
      obtain ⟨hl5, _⟩ := hbs
      by_cases c0 : want = 0
      · subst c0
        by_cases c1 : s.least + b.tmod (s.most - s.least + 1) < s.least
        · simp only [c1, if_true]
          match bs, hl5 with
          | [_, _, _, _, _], _ => exact ⟨_, rfl, rfl⟩
        · by_cases c2 : s.least + b.tmod (s.most - s.least + 1) > s.most
          · simp only [c1, c2, if_true, if_false]
            match bs, hl5 with
            | [_, _, _, _, _], _ => exact ⟨_, rfl, rfl⟩
          · simp only [c1, c2, if_true, if_false]
            match bs, hl5 with
            | [_, _, _, _, _], _ => exact ⟨_, rfl, rfl⟩
      · simp only [c0, if_false]
        match bs, hl5 with
        | [_, _, _, _, _], _ => exact ⟨_, rfl, rfl⟩
  | cons a o =>
    have hlen : (icells (a :: o)).length = o.length + 1 := by simp [icells]
    have hno : ¬ o.length + 1 + 1 ≤ o.length + 1 := by omega
    have ho2 : o.length + 1 = i := by simpa using ho
    have hl2 : ∀ z : Int, (o ++ [z]).length = o.length + 1 := fun z => by simp
    simp only [outV, outH, List.cons_append, hl2]
    by_cases h250 : b > 250
    · have e : xF s b = b - 250 + (4 * b).tmod 8 := by rw [xF, if_pos h250]
      rw [e]
      simp only [seqX_normal, seqX_ite, bindR_some, bindR_ite, regX_some, regX_ite, condX_bool, blockX_normal, blockX_ite, ↓gd, fset_cons, Bool.not_true, Bool.not_false, run_nil, run_cons, fget_cons', fput_cons', forget_nil, forget_cons', hget_nil', hget_cons', hset_cons', gcM, stp, opPick, opBox, justO, just, Rd.bind, Rd.run, Rd.opt, upds, acells, zeroCells, tsz, elemT, rdCells, fieldOf, aFieldAddr, aLoad, aStore, opStore, fresh, aIndexAddr, aNum, aBuiltin, aBin, aInt, putC, evO, Nat.reduceAdd, Nat.reduceLT, Nat.reduceGT, Nat.reduceBEq, Nat.reduceEqDiff, Nat.reduceLeDiff, ↓reduceIte, reduceCtorEq, liveBlk_eq, decide_eq_true_eq, decide_eq_false_iff_not, Nat.zero_add, ne_eq, beq_iff_eq, ite_not, List.nil_append, List.getElem?_toArray, rtX_some, addT_some, drX_some, runT_nil, runT_cons, neat_eq, descF_nil', descF_cons', ascH_nil', ascH_cons', stpT, Rd.foot, writing, touching, Tr.empty, dynPairs, apartT, disj, List.isEmpty_nil, List.isEmpty_cons, List.map_nil, Bool.not_false, Bool.not_true, Bool.true_or, Bool.or_true, Bool.or_false, Bool.and_true, Bool.true_and, Bool.and_self, decide_true, not_true_eq_false, or_self, aBuildSlice, partsOf, fillA, repC, frz, isSliceT, aAppend, srcOf, window, putD_some, putD_none, and_true, Int.natCast_nonneg, Int.ofNat_lt, Int.toNat_natCast, snaps, snap, List.append_nil, List.elem_cons, List.elem_nil, List.length_cons, List.length_nil, List.getElem?_cons_zero, List.getElem?_cons_succ, List.drop_zero, List.take_succ_cons, List.take_nil, List.set_cons_zero, List.set_cons_succ, T_3, T_27, T_36, T_44, T_5, T_26, x5_14, r5_5_l, s5_5_0, x5_17, x5_18, x5_16, x5_22, r5_6_l, s5_6_0, s5_6_1, s5_6_2, s5_6_3, s5_6_4, s5_6_5, x5_24, r5_7_l, r5_7_dr, r5_7_an, s5_7_0, s5_7_1, s5_7_2, s5_7_3, s5_7_4, s5_7_5, s5_7_6, s5_7_7, s5_7_8, s5_7_9, s5_7_10, s5_7_11, s5_7_12, s5_7_13, s5_7_14, x5_27, r5_8_l, s5_8_0, s5_8_1, s5_8_2, s5_8_3, x5_29, r5_9_l, r5_9_dr, r5_9_an, s5_9_0, s5_9_1, s5_9_2, s5_9_3, s5_9_4, s5_9_5, s5_9_6, s5_9_7, s5_9_8, s5_9_9, s5_9_10, s5_9_11, s5_9_12, x5_30, x5_28, x5_26, x5_33, r5_10_l, s5_10_0, s5_10_1, s5_10_2, s5_10_3, s5_10_4, s5_10_5, s5_10_6, s5_10_7, s5_10_8, s5_10_9, s5_10_10, s5_10_11, s5_10_12, s5_10_13, x5_35, r5_11_l, s5_11_0, x5_36, x5_34, x5_32, x5_37, r5_12_l, s5_12_0, s5_12_1, s5_12_2, s5_12_3, s5_12_4, x5_31, x5_25, x5_23, x5_21, x5_20, x5_38, r5_13_l, s5_13_0, s5_13_1, x5_19, x5_15, x5_13, hi, hbi, hbl, pcells_length, pcells_at l i s hs, sc, pcells_off l i hi, bcells_at hb, Nat.mul_one, h250, w1, w2, w3, w4, w5, w6, w7, n1, aConv, wrp_succ (show i < 1000000 by omega), fillA, List.all_cons, List.all_nil, List.getD_cons_zero, List.getD_cons_succ, beq_self_eq_true, cl5, Int.reduceEq, room3 (show o.length + 1 + 1 ≤ 1000000 by omega), hlen, hno, take_icells, icells_snoc, Nat.le_refl, List.cons_append]
      obtain ⟨hl5, _⟩ := hbs
      by_cases c0 : want = 0
      · subst c0
        by_cases c1 : b - 250 + (4 * b).tmod 8 < s.least
        · simp only [c1, if_true]
          match bs, hl5 with
          | [_, _, _, _, _], _ => exact ⟨_, rfl, rfl⟩
        · by_cases c2 : b - 250 + (4 * b).tmod 8 > s.most
          · simp only [c1, c2, if_true, if_false]
            match bs, hl5 with
            | [_, _, _, _, _], _ => exact ⟨_, rfl, rfl⟩
          · simp only [c1, c2, if_true, if_false]
            match bs, hl5 with
            | [_, _, _, _, _], _ => exact ⟨_, rfl, rfl⟩
      · simp only [c0, if_false]
        match bs, hl5 with
        | [_, _, _, _, _], _ => exact ⟨_, rfl, rfl⟩
    · have e : xF s b = s.least + b.tmod (s.most - s.least + 1) := by rw [xF, if_neg h250]
      rw [e]
      simp only [seqX_normal, seqX_ite, bindR_some, bindR_ite, regX_some, regX_ite, condX_bool, blockX_normal, blockX_ite, ↓gd, fset_cons, Bool.not_true, Bool.not_false, run_nil, run_cons, fget_cons', fput_cons', forget_nil, forget_cons', hget_nil', hget_cons', hset_cons', gcM, stp, opPick, opBox, justO, just, Rd.bind, Rd.run, Rd.opt, upds, acells, zeroCells, tsz, elemT, rdCells, fieldOf, aFieldAddr, aLoad, aStore, opStore, fresh, aIndexAddr, aNum, aBuiltin, aBin, aInt, putC, evO, Nat.reduceAdd, Nat.reduceLT, Nat.reduceGT, Nat.reduceBEq, Nat.reduceEqDiff, Nat.reduceLeDiff, ↓reduceIte, reduceCtorEq, liveBlk_eq, decide_eq_true_eq, decide_eq_false_iff_not, Nat.zero_add, ne_eq, beq_iff_eq, ite_not, List.nil_append, List.getElem?_toArray, rtX_some, addT_some, drX_some, runT_nil, runT_cons, neat_eq, descF_nil', descF_cons', ascH_nil', ascH_cons', stpT, Rd.foot, writing, touching, Tr.empty, dynPairs, apartT, disj, List.isEmpty_nil, List.isEmpty_cons, List.map_nil, Bool.not_false, Bool.not_true, Bool.true_or, Bool.or_true, Bool.or_false, Bool.and_true, Bool.true_and, Bool.and_self, decide_true, decide_false, not_true_eq_false, or_self, aBuildSlice, partsOf, fillA, repC, frz, isSliceT, aAppend, srcOf, window, putD_some, putD_none, and_true, Int.natCast_nonneg, Int.ofNat_lt, Int.toNat_natCast, snaps, snap, List.append_nil, List.elem_cons, List.elem_nil, List.length_cons, List.length_nil, List.getElem?_cons_zero, List.getElem?_cons_succ, List.drop_zero, List.take_succ_cons, List.take_nil, List.set_cons_zero, List.set_cons_succ, T_3, T_27, T_36, T_44, T_5, T_26, x5_14, r5_5_l, s5_5_0, x5_17, x5_18, x5_16, x5_22, r5_6_l, s5_6_0, s5_6_1, s5_6_2, s5_6_3, s5_6_4, s5_6_5, x5_24, r5_7_l, r5_7_dr, r5_7_an, s5_7_0, s5_7_1, s5_7_2, s5_7_3, s5_7_4, s5_7_5, s5_7_6, s5_7_7, s5_7_8, s5_7_9, s5_7_10, s5_7_11, s5_7_12, s5_7_13, s5_7_14, x5_27, r5_8_l, s5_8_0, s5_8_1, s5_8_2, s5_8_3, x5_29, r5_9_l, r5_9_dr, r5_9_an, s5_9_0, s5_9_1, s5_9_2, s5_9_3, s5_9_4, s5_9_5, s5_9_6, s5_9_7, s5_9_8, s5_9_9, s5_9_10, s5_9_11, s5_9_12, x5_30, x5_28, x5_26, x5_33, r5_10_l, s5_10_0, s5_10_1, s5_10_2, s5_10_3, s5_10_4, s5_10_5, s5_10_6, s5_10_7, s5_10_8, s5_10_9, s5_10_10, s5_10_11, s5_10_12, s5_10_13, x5_35, r5_11_l, s5_11_0, x5_36, x5_34, x5_32, x5_37, r5_12_l, s5_12_0, s5_12_1, s5_12_2, s5_12_3, s5_12_4, x5_31, x5_25, x5_23, x5_21, x5_20, x5_38, r5_13_l, s5_13_0, s5_13_1, x5_19, x5_15, x5_13, hi, hbi, hbl, pcells_length, pcells_at l i s hs, sc, pcells_off l i hi, bcells_at hb, Nat.mul_one, h250, w1, w2, w3, w4, w5, w6, w7, n1, aConv, wrp_succ (show i < 1000000 by omega), fillA, List.all_cons, List.all_nil, List.getD_cons_zero, List.getD_cons_succ, beq_self_eq_true, cl5, Int.reduceEq, room3 (show o.length + 1 + 1 ≤ 1000000 by omega), hlen, hno, take_icells, icells_snoc, Nat.le_refl, List.cons_append]
      obtain ⟨hl5, _⟩ := hbs
      by_cases c0 : want = 0
      · subst c0
        by_cases c1 : s.least + b.tmod (s.most - s.least + 1) < s.least
        · simp only [c1, if_true]
          match bs, hl5 with
          | [_, _, _, _, _], _ => exact ⟨_, rfl, rfl⟩
        · by_cases c2 : s.least + b.tmod (s.most - s.least + 1) > s.most
          · simp only [c1, c2, if_true, if_false]
            match bs, hl5 with
            | [_, _, _, _, _], _ => exact ⟨_, rfl, rfl⟩
          · simp only [c1, c2, if_true, if_false]
            match bs, hl5 with
            | [_, _, _, _, _], _ => exact ⟨_, rfl, rfl⟩
      · simp only [c0, if_false]
        match bs, hl5 with
        | [_, _, _, _, _], _ => exact ⟨_, rfl, rfl⟩
end Go.AM.Ytikchlfbjdfioaa
namespace Go.AM.Ytikchlfbjdfioaa
open Go Go.AM
set_option maxRecDepth 100000
set_option maxHeartbeats 4000000

theorem take_pc (l : List Stone) : List.take (l.length * 4) (pcells l) = pcells l := List.take_of_length_le (by rw [pcells_length]; exact Nat.le_refl _)
theorem snaps_ints : ∀ (l : List AV) (d : Nat), (∀ a ∈ l, ∃ k z, a = AV.int k z) → l.length + 2 ≤ d → snaps d l = .pure (l, [])
  | [], d + 1, _, _ => by simp only [snaps]
  | a :: l, d + 1, h, hd => by
    obtain ⟨k, z, rfl⟩ := h a (List.mem_cons_self ..)
    have hd2 : l.length + 2 ≤ d := by simp only [List.length_cons] at hd; omega
    have ih := snaps_ints l d (fun a ha => h a (List.mem_cons_of_mem _ ha)) hd2
    obtain ⟨e, rfl⟩ : ∃ e, d = e + 1 := ⟨d - 1, by omega⟩
    simp only [snaps, snap, ih, Rd.bind, List.nil_append]
theorem qcells_ints : ∀ (l : List Q), ∀ a ∈ qcells l, ∃ k z, a = AV.int k z
  | [], a, h => by simp [qcells] at h
  | q :: l, a, h => by
    simp only [qcells, qc, List.cons_append, List.nil_append, List.mem_cons] at h
    rcases h with rfl | rfl | rfl | rfl | h
    · exact ⟨_, _, rfl⟩
    · exact ⟨_, _, rfl⟩
    · exact ⟨_, _, rfl⟩
    · exact ⟨_, _, rfl⟩
    · exact qcells_ints l a h
theorem hcells_snap {m : Int} {qs : List Q} (h : qs.length = 5) (d : Nat) (hd : 30 ≤ d) : snaps d (hcells m qs) = .pure (hcells m qs, []) := by
  refine snaps_ints _ d (fun a ha => ?_) (by rw [hcells_length h]; omega)
  simp only [hcells, List.mem_cons] at ha
  rcases ha with rfl | ha
  · exact ⟨_, _, rfl⟩
  · exact qcells_ints qs a ha
theorem hcells_take {m : Int} {qs : List Q} (h : qs.length = 5) : List.take 21 (hcells m qs) = hcells m qs := List.take_of_length_le (by rw [hcells_length h]; exact Nat.le_refl _)

theorem sh_loop {C : Callee} {l : List Stone} {bs : List Int} (h : OkP l) (hbs : BOk bs) (hc : List AV) (lo sd lv : Int) :
    iterA (execA E C (fg 5) 0 249 [] 1000 c5_13) (headA []) 1000 ([(35, .int .i64 0), (34, .int .i64 l.length), (33, .ref 32 0 l.length l.length (l.length * 4) 4 false), (13, .int .i64 0), (12, .nilsl), (11, .ref 32 0 l.length l.length (l.length * 4) 4 false), (6, .ptr 6 0 5), (4, .int .u8 lo), (3, .int .u8 sd), (2, .int .u8 lv)], [(5, ⟨.box, hc⟩), (6, ⟨.box, bcells bs⟩), (32, ⟨.row, pcells l⟩)]) =
      some (.exit 0, [(36, .bool false), (35, .int .i64 l.length), (34, .int .i64 l.length), (33, .ref 32 0 l.length l.length (l.length * 4) 4 false), (13, .int .i64 (wantN l bs l.length)), (12, .ref 87 0 l.length l.length l.length 1 false), (11, .ref 32 0 l.length l.length (l.length * 4) 4 false), (6, .ptr 6 0 5), (4, .int .u8 lo), (3, .int .u8 sd), (2, .int .u8 lv)], [(6, ⟨.box, bcells bs⟩), (32, ⟨.row, pcells l⟩), (87, ⟨.row, icells (wsI l bs l.length)⟩)]) := by
  have hle := h.le
  obtain ⟨e1, e2⟩ := outV_ne (id := 87) (l := wsI l bs l.length) (by rw [wsI_length]; exact h.ne)
  rw [wsI_length] at e1
  exact iter_all (f := execA E C (fg 5) 0 249 [] 1000 c5_13) (hd := headA []) (fun i => ([(35, .int .i64 i), (34, .int .i64 l.length), (33, .ref 32 0 l.length l.length (l.length * 4) 4 false), (13, .int .i64 (wantN l bs i)), (12, outV 87 (wsI l bs i)), (11, .ref 32 0 l.length l.length (l.length * 4) 4 false), (6, .ptr 6 0 5), (4, .int .u8 lo), (3, .int .u8 sd), (2, .int .u8 lv)], (6, ⟨.box, bcells bs⟩) :: (32, ⟨.row, pcells l⟩) :: outH 87 (wsI l bs i))) l.length 1000 0 _ (by
      obtain ⟨hl5, _⟩ := hbs
      match bs, hl5 with
      | [_, _, _, _, _], _ => rfl) (by omega) (fun i h1 h2 => by
      have := sh_round (C := C) h hbs i (by omega) (wsI l bs i) (wsI_length l bs i) (wantN l bs i) lo sd lv
      rw [wsI_succ]
      exact this) (by
      rw [Nat.zero_add]
      simp only [e1, e2]
      simp only [seqX_normal, seqX_exit, bindR_some, regX_some, condX_bool, run_nil, run_cons, fget_cons', fput_cons', forget_nil, forget_cons', gcM, stp, just, Rd.bind, Rd.run, Rd.opt, upds, aBin, aInt, Nat.reduceEqDiff, Nat.reduceLeDiff, ↓reduceIte, decide_false, putD_some, List.elem_nil, x5_14, r5_5_l, s5_5_0, x5_17, x5_18, x5_16, x5_15, x5_13, Int.lt_irrefl, decide_false, Bool.false_eq_true]) (by simp)

end Go.AM.Ytikchlfbjdfioaa
