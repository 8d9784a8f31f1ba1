/- The reference's worst truths, equal lists, piles handed over. Own work of this project. -/
import Derived.Test.YteellnlcligpfaaRefF
namespace Go.AM.Yteellnlcligpfaa
open Go Go.AM
set_option maxRecDepth 100000
set_option maxHeartbeats 2000000

theorem rworst_same {l : List Stone} {k : Nat} {side : Int} (h : sidedE l k side = 0) : rworstI l k side l.length = worstI l k side l.length := by
  obtain ⟨_, _, _, hs⟩ := sided_zero h
  unfold rworstI worstI
  refine List.map_congr_left fun i _ => ?_
  unfold worstW
  by_cases hki : k ≤ i
  · rw [if_pos hki]
    rcases hs with rfl | rfl
    · exact rwW_right hki
    · exact rwW_left (sided_level h) hki
  · rw [if_neg hki]
    have : ¬ (i : Int) ≥ k := by omega
    unfold rwW rwC
    rw [if_neg this]
    simp
theorem rWorst_ok {d : Nat} {l : List Stone} {ex : Bool} {k : Nat} {side : Int} (h0 : sidedE l k side = 0) : ∃ id, callA E fg 1000 (d + 5) 13 [.imm (pcells l) l.length ex, .int .i64 k, .int .i64 side] [] 0 = some (.tup [.ref id 0 l.length l.length l.length 1 false, .int .i64 0], [(id, ⟨.row, icells (worstI l k side l.length)⟩)]) := by
  obtain ⟨h, z0, z1, hsd⟩ := sided_zero h0
  have hc := fun (site : Nat → Nat) seen => rsided_call (d := d) (site := site) (seen := seen) (a := .imm (pcells l) l.length ex) (l := l) (.inr ⟨ex, rfl⟩) k side
  have hr := fun site => rworst_call (d := d + 2) (site := site) (ex := ex) h (show k ≤ l.length by omega) hsd
  rw [rworst_same h0] at hr
  change ∃ id, bodyA E (callA E fg 1000 (d + 4)) fg 1000 13 _ _ _ = _
  simp only [seqX_normal, bindR_some, regX_some, condX_bool, bodyX_ret, run_nil, run_cons, fget_cons', fput_cons', forget_nil, forget_cons', hget_nil', hset_nil', frame0, gcM, stp, just, Rd.bind, Rd.run, Rd.opt, upds, resA, resL, fresh, aBin, aInt, Nat.reduceAdd, Nat.reduceMul, Nat.reduceBEq, Nat.reduceEqDiff, Nat.reduceLeDiff, ↓reduceIte, reduceCtorEq, Nat.zero_add, bne_iff_ne, ne_eq, not_true_eq_false, putD_some, aCall, snaps, snap, List.append_nil, Option.map_some, List.elem_cons, List.elem_nil, x13_1, r13_0_l, s13_0_0, s13_0_1, x13_3, r13_1_l, s13_1_0, s13_1_1, s13_1_2, s13_1_3, s13_1_4, x13_6, r13_2_l, s13_2_0, s13_2_1, x13_9, r13_3_l, s13_3_0, s13_3_1, s13_3_2, x13_10, x13_8, x13_11, x13_7, x13_5, x13_13, r13_4_l, s13_4_0, s13_4_1, s13_4_2, s13_4_3, s13_4_4, s13_4_5, x13_14, x13_12, x13_4, x13_2, x13_0, b_13, hc, h0, hr]
  exact ⟨_, rfl⟩
theorem rWorst_err {d : Nat} {a : AV} {l : List Stone} (ha : IsP a l) {z side : Int} (h0 : ¬ sidedE l z side = 0) : rsOf (callA E fg 1000 (d + 5) 13 [a, .int .i64 z, .int .i64 side] [] 0) = some (.tup [.nilsl, .int .i64 (sidedE l z side)]) := by
  change rsOf (bodyA E (callA E fg 1000 (d + 4)) fg 1000 13 _ _ _) = _
  have hc := fun (site : Nat → Nat) seen => rsided_call (d := d) (site := site) (seen := seen) ha z side
  rcases ha with ⟨rfl, rfl⟩ | ⟨ex, rfl⟩ <;> simp only [seqX_normal, seqX_ret, bindR_some, regX_some, condX_bool, bodyX_ret, run_nil, run_cons, fget_cons', fput_cons', forget_nil, forget_cons', frame0, gcM, stp, just, Rd.bind, Rd.run, Rd.opt, upds, resA, resL, aBin, aInt, Nat.reduceAdd, Nat.reduceBEq, Nat.reduceEqDiff, Nat.reduceLeDiff, ↓reduceIte, reduceCtorEq, Nat.zero_add, bne_iff_ne, ne_eq, not_false_eq_true, putD_some, aCall, snaps, snap, List.append_nil, Option.map_some, List.elem_cons, List.elem_nil, x13_1, r13_0_l, s13_0_0, s13_0_1, x13_3, r13_1_l, s13_1_0, s13_1_1, s13_1_2, s13_1_3, s13_1_4, x13_6, r13_2_l, s13_2_0, s13_2_1, x13_9, r13_3_l, s13_3_0, s13_3_1, s13_3_2, x13_10, x13_8, x13_11, x13_7, x13_5, x13_4, x13_2, x13_0, b_13, hc, h0]

/-! Equal lists -/
theorem same_loop {C : Callee} {x y : List Int} {ex ex' : Bool} (hl : x.length < 900) (hw : x.length = y.length) : ∀ (m k F : Nat) (H : AHeap), k + m = x.length → m < F →
    iterA (execA E C (fg 14) 0 26 [] 1000 c14_15) (headA []) F ([(5, .int .i64 k), (1, .imm (icells y) y.length ex'), (0, .imm (icells x) x.length ex)], H) =
      if x.drop k = y.drop k then some (.exit 0, [(14, .bool false), (5, .int .i64 x.length), (1, .imm (icells y) y.length ex'), (0, .imm (icells x) x.length ex)], []) else some (.ret, [(4, .bool false)], [])
  | 0, k, F + 1, H, hk, _ => by
    obtain rfl : k = x.length := by omega
    have e : x.drop x.length = y.drop x.length := by rw [List.drop_length, hw, List.drop_length]
    rw [iterA_succ, if_pos e]
    simp only [seqX_normal, seqX_exit, bindR_some, regX_some, condX_bool, run_nil, run_cons, fget_cons', fput_cons', forget_nil, forget_cons', gcM, stp, just, Rd.bind, Rd.run, Rd.opt, upds, aLen, aBuiltin, aBin, aInt, Nat.reduceBEq, Nat.reduceEqDiff, Nat.reduceLeDiff, ↓reduceIte, reduceCtorEq, headA_drop, refsF, refsOf, List.getElem?_toArray, decide_false, putD_some, List.append_nil, List.elem_cons, List.elem_nil, List.getElem?_cons_zero, T_23, x14_17, r14_4_l, s14_4_0, s14_4_1, s14_4_2, s14_4_3, x14_19, x14_20, x14_18, x14_16, x14_15, Int.lt_irrefl, decide_false, Bool.false_eq_true]
  | m + 1, k, F + 1, H, hk, hF => by
    have hkx : k < x.length := by omega
    have hky : k < y.length := by omega
    obtain ⟨a, ha⟩ := at_ex hkx
    obtain ⟨b, hb⟩ := at_ex hky
    have hd : x.drop k = a :: x.drop (k + 1) := by
      rw [List.drop_eq_getElem_cons hkx]
      rw [List.getElem?_eq_getElem hkx] at ha
      rw [Option.some.inj ha]
    have hd2 : y.drop k = b :: y.drop (k + 1) := by
      rw [List.drop_eq_getElem_cons hky]
      rw [List.getElem?_eq_getElem hky] at hb
      rw [Option.some.inj hb]
    have ih := same_loop (C := C) (ex := ex) (ex' := ex') hl hw m (k + 1) F [] (by omega) (by omega)
    rw [iterA_succ, hd, hd2]
    by_cases hab : a = b
    · subst hab
      simp only [seqX_normal, bindR_some, regX_some, condX_bool, blockX_normal, Bool.not_true, Bool.not_false, run_nil, run_cons, fget_cons', fput_cons', forget_nil, forget_cons', gcM, stp, just, Rd.bind, Rd.run, Rd.opt, upds, tsz, rdCells, aLoad, aIndexAddr, aNum, aLen, aBuiltin, aBin, aInt, Nat.reduceAdd, Nat.reduceLT, Nat.reduceBEq, Nat.reduceEqDiff, Nat.reduceLeDiff, ↓reduceIte, reduceCtorEq, Nat.zero_add, bne_iff_ne, ne_eq, headA_drop, refsF, refsOf, List.getElem?_toArray, rtX_some, addT_some, drX_some, runT_nil, runT_cons, neat_eq, descF_nil', descF_cons', ascH_nil', stpT, Rd.foot, writing, touching, Tr.empty, dynPairs, List.isEmpty_nil, List.map_nil, Bool.not_false, Bool.not_true, Bool.or_true, Bool.or_false, Bool.and_self, decide_true, not_true_eq_false, putD_some, and_true, true_and, Int.natCast_nonneg, Int.ofNat_lt, Int.toNat_natCast, List.append_nil, List.elem_cons, List.elem_nil, List.getElem?_cons_zero, T_3, T_23, x14_17, r14_4_l, s14_4_0, s14_4_1, s14_4_2, s14_4_3, x14_19, x14_20, x14_18, x14_16, x14_24, r14_6_l, r14_6_dr, r14_6_an, s14_6_0, s14_6_1, s14_6_2, s14_6_3, s14_6_4, s14_6_5, s14_6_6, s14_6_7, s14_6_8, x14_27, r14_7_l, s14_7_0, x14_28, x14_26, x14_29, x14_25, x14_23, x14_22, x14_30, r14_5_l, s14_5_0, s14_5_1, s14_5_2, x14_21, x14_15, hkx, hky, icells_length, icells_at ha, icells_at hb, Nat.mul_one, wrp_succ (show k < 1000000 by omega), ih, List.cons.injEq]
    · simp only [seqX_normal, seqX_ret, bindR_some, regX_some, condX_bool, blockX_ret, Bool.not_true, Bool.not_false, run_nil, run_cons, fget_cons', fput_cons', forget_nil, forget_cons', gcM, stp, just, Rd.bind, Rd.run, Rd.opt, upds, tsz, rdCells, aLoad, aIndexAddr, aNum, aLen, aBuiltin, aBin, aInt, Nat.reduceAdd, Nat.reduceLT, Nat.reduceBEq, Nat.reduceEqDiff, Nat.reduceLeDiff, ↓reduceIte, reduceCtorEq, Nat.zero_add, bne_iff_ne, ne_eq, headA_drop, refsF, refsOf, List.getElem?_toArray, rtX_some, addT_some, drX_some, runT_nil, runT_cons, neat_eq, descF_nil', descF_cons', ascH_nil', stpT, Rd.foot, writing, touching, Tr.empty, dynPairs, List.isEmpty_nil, List.map_nil, Bool.not_false, Bool.not_true, Bool.or_true, Bool.or_false, Bool.and_self, decide_true, not_false_eq_true, putD_some, and_true, Int.natCast_nonneg, Int.ofNat_lt, Int.toNat_natCast, List.append_nil, List.elem_cons, List.elem_nil, List.getElem?_cons_zero, T_3, T_23, x14_17, r14_4_l, s14_4_0, s14_4_1, s14_4_2, s14_4_3, x14_19, x14_20, x14_18, x14_16, x14_24, r14_6_l, r14_6_dr, r14_6_an, s14_6_0, s14_6_1, s14_6_2, s14_6_3, s14_6_4, s14_6_5, s14_6_6, s14_6_7, s14_6_8, x14_27, r14_7_l, s14_7_0, x14_28, x14_26, x14_29, x14_25, x14_23, x14_22, x14_21, x14_15, hkx, hky, icells_length, icells_at ha, icells_at hb, Nat.mul_one, List.cons.injEq, hab, false_and]

theorem same_run {C : Callee} {a b : AV} {x y : List Int} (hl : x.length < 900) (ha : IsI a x) (hb : IsI b y) : rsOf (bodyA E C fg 1000 14 [a, b] [] 0) = some (.bool (decide (x = y))) := by
  have hnil : ∀ x : List Int, ¬ x.length = 0 → decide (x = []) = false := fun x h => by simp; intro e; subst e; simp at h
  have hnil2 : ∀ x : List Int, ¬ x.length = 0 → decide ([] = x) = false := fun x h => by simp; intro e; subst e; simp at h
  have it1 : ∀ (f : St → XR) (hd : St → St) (s : St), iterA f hd 1000 s = seqX (f (hd s)) (iterA f hd 999) := fun f hd s => iterA_succ f hd 999 s
  have hz : ∀ x : List Int, (x.length : Int) = 0 → x = [] := fun x h => List.length_eq_zero_iff.1 (by omega)
  rcases ha with ⟨rfl, rfl⟩ | ⟨ex, rfl⟩ <;> rcases hb with ⟨rfl, rfl⟩ | ⟨ex', rfl⟩
  · simp only [seqX_normal, seqX_exit, bindR_some, regX_some, condX_bool, blockX_exit, bodyX_ret, run_nil, run_cons, fget_cons', fput_nil, fput_cons', forget_nil, forget_cons', headA_nil, frame0, gcM, stp, just, Rd.bind, Rd.run, Rd.opt, upds, resA, resL, aLen, aBuiltin, aBin, aInt, Nat.reduceBEq, Nat.reduceEqDiff, Nat.reduceLeDiff, ↓reduceIte, reduceCtorEq, Nat.zero_add, bne_iff_ne, ne_eq, List.getElem?_toArray, decide_true, decide_false, not_true_eq_false, putD_some, Option.map_some, List.elem_cons, List.elem_nil, List.getElem?_cons_zero, T_23, x14_1, r14_0_l, s14_0_0, x14_4, r14_1_l, s14_1_0, s14_1_1, s14_1_2, s14_1_3, s14_1_4, x14_7, r14_2_l, s14_2_0, x14_8, x14_6, x14_9, x14_5, x14_3, x14_12, r14_3_l, s14_3_0, x14_17, r14_4_l, s14_4_0, s14_4_1, s14_4_2, s14_4_3, x14_19, x14_20, x14_18, x14_16, x14_15, x14_14, x14_13, x14_11, x14_32, r14_8_l, s14_8_0, x14_33, x14_31, x14_10, x14_2, x14_0, b_14, it1, Int.lt_irrefl, decide_false, Bool.false_eq_true]
  · by_cases h0 : (0 : Int) = y.length
    · obtain rfl := hz y h0.symm
      simp only [seqX_normal, seqX_exit, bindR_some, regX_some, condX_bool, blockX_exit, bodyX_ret, run_nil, run_cons, fget_cons', fput_nil, fput_cons', forget_nil, forget_cons', headA_nil, frame0, gcM, stp, just, Rd.bind, Rd.run, Rd.opt, upds, resA, resL, aLen, aBuiltin, aBin, aInt, Nat.reduceBEq, Nat.reduceEqDiff, Nat.reduceLeDiff, ↓reduceIte, reduceCtorEq, Nat.zero_add, bne_iff_ne, ne_eq, List.getElem?_toArray, decide_true, decide_false, not_true_eq_false, putD_some, Option.map_some, List.elem_cons, List.elem_nil, List.length_nil, List.getElem?_cons_zero, T_23, x14_1, r14_0_l, s14_0_0, x14_4, r14_1_l, s14_1_0, s14_1_1, s14_1_2, s14_1_3, s14_1_4, x14_7, r14_2_l, s14_2_0, x14_8, x14_6, x14_9, x14_5, x14_3, x14_12, r14_3_l, s14_3_0, x14_17, r14_4_l, s14_4_0, s14_4_1, s14_4_2, s14_4_3, x14_19, x14_20, x14_18, x14_16, x14_15, x14_14, x14_13, x14_11, x14_32, r14_8_l, s14_8_0, x14_33, x14_31, x14_10, x14_2, x14_0, b_14, it1, List.length_nil, Int.natCast_zero, Int.lt_irrefl, decide_false, Bool.false_eq_true]
    · have e := hnil2 y (by omega)
      simp only [seqX_normal, seqX_ret, bindR_some, regX_some, condX_bool, bodyX_ret, run_nil, run_cons, fget_cons', fput_cons', forget_nil, forget_cons', frame0, gcM, stp, just, Rd.bind, Rd.run, Rd.opt, upds, resA, resL, aLen, aBuiltin, aBin, aInt, Nat.reduceBEq, Nat.reduceEqDiff, Nat.reduceLeDiff, ↓reduceIte, reduceCtorEq, Nat.zero_add, bne_iff_ne, ne_eq, List.getElem?_toArray, not_false_eq_true, putD_some, Option.map_some, List.elem_cons, List.elem_nil, List.getElem?_cons_zero, T_23, x14_1, r14_0_l, s14_0_0, x14_4, r14_1_l, s14_1_0, s14_1_1, s14_1_2, s14_1_3, s14_1_4, x14_7, r14_2_l, s14_2_0, x14_8, x14_6, x14_9, x14_5, x14_3, x14_2, x14_0, b_14, h0, e]
  · by_cases h0 : (x.length : Int) = 0
    · obtain rfl := hz x h0
      simp only [seqX_normal, seqX_exit, bindR_some, regX_some, condX_bool, blockX_exit, bodyX_ret, run_nil, run_cons, fget_cons', fput_nil, fput_cons', forget_nil, forget_cons', headA_nil, frame0, gcM, stp, just, Rd.bind, Rd.run, Rd.opt, upds, resA, resL, aLen, aBuiltin, aBin, aInt, Nat.reduceBEq, Nat.reduceEqDiff, Nat.reduceLeDiff, ↓reduceIte, reduceCtorEq, Nat.zero_add, bne_iff_ne, ne_eq, List.getElem?_toArray, decide_true, decide_false, not_true_eq_false, putD_some, Option.map_some, List.elem_cons, List.elem_nil, List.length_nil, List.getElem?_cons_zero, T_23, x14_1, r14_0_l, s14_0_0, x14_4, r14_1_l, s14_1_0, s14_1_1, s14_1_2, s14_1_3, s14_1_4, x14_7, r14_2_l, s14_2_0, x14_8, x14_6, x14_9, x14_5, x14_3, x14_12, r14_3_l, s14_3_0, x14_17, r14_4_l, s14_4_0, s14_4_1, s14_4_2, s14_4_3, x14_19, x14_20, x14_18, x14_16, x14_15, x14_14, x14_13, x14_11, x14_32, r14_8_l, s14_8_0, x14_33, x14_31, x14_10, x14_2, x14_0, b_14, it1, List.length_nil, Int.natCast_zero, Int.lt_irrefl, decide_false, Bool.false_eq_true]
    · have e := hnil x (by omega)
      simp only [seqX_normal, seqX_ret, bindR_some, regX_some, condX_bool, bodyX_ret, run_nil, run_cons, fget_cons', fput_cons', forget_nil, forget_cons', frame0, gcM, stp, just, Rd.bind, Rd.run, Rd.opt, upds, resA, resL, aLen, aBuiltin, aBin, aInt, Nat.reduceBEq, Nat.reduceEqDiff, Nat.reduceLeDiff, ↓reduceIte, reduceCtorEq, Nat.zero_add, bne_iff_ne, ne_eq, List.getElem?_toArray, not_false_eq_true, putD_some, Option.map_some, List.elem_cons, List.elem_nil, List.getElem?_cons_zero, T_23, x14_1, r14_0_l, s14_0_0, x14_4, r14_1_l, s14_1_0, s14_1_1, s14_1_2, s14_1_3, s14_1_4, x14_7, r14_2_l, s14_2_0, x14_8, x14_6, x14_9, x14_5, x14_3, x14_2, x14_0, b_14, h0, e]
  · by_cases hw : (x.length : Int) = y.length
    · have h := same_loop (C := C) (x := x) (y := y) (ex := ex) (ex' := ex') hl (by omega) x.length 0 1000 [] (by omega) (by omega)
      simp only [List.drop_zero, Int.natCast_zero] at h
      by_cases e : x = y
      · subst e
        simp only [if_true] at h
        simp only [seqX_normal, bindR_some, regX_some, condX_bool, blockX_exit, bodyX_ret, run_nil, run_cons, fget_cons', fput_nil, fput_cons', forget_nil, forget_cons', frame0, gcM, stp, just, Rd.bind, Rd.run, Rd.opt, upds, resA, resL, aLen, aBuiltin, aBin, aInt, Nat.reduceBEq, Nat.reduceEqDiff, Nat.reduceLeDiff, ↓reduceIte, reduceCtorEq, Nat.zero_add, bne_iff_ne, ne_eq, List.getElem?_toArray, decide_true, not_true_eq_false, putD_some, Option.map_some, List.elem_cons, List.elem_nil, List.getElem?_cons_zero, T_23, x14_1, r14_0_l, s14_0_0, x14_4, r14_1_l, s14_1_0, s14_1_1, s14_1_2, s14_1_3, s14_1_4, x14_7, r14_2_l, s14_2_0, x14_8, x14_6, x14_9, x14_5, x14_3, x14_12, r14_3_l, s14_3_0, x14_14, x14_13, x14_11, x14_32, r14_8_l, s14_8_0, x14_33, x14_31, x14_10, x14_2, x14_0, b_14, h]
      · rw [if_neg e] at h
        try simp only [hw] at h
        simp only [seqX_normal, seqX_ret, bindR_some, regX_some, condX_bool, blockX_ret, bodyX_ret, run_nil, run_cons, fget_cons', fput_cons', forget_nil, forget_cons', frame0, gcM, stp, just, Rd.bind, Rd.run, Rd.opt, upds, resA, resL, aLen, aBuiltin, aBin, aInt, Nat.reduceBEq, Nat.reduceEqDiff, Nat.reduceLeDiff, ↓reduceIte, reduceCtorEq, Nat.zero_add, bne_iff_ne, ne_eq, List.getElem?_toArray, decide_false, not_true_eq_false, putD_some, Option.map_some, List.elem_cons, List.elem_nil, List.getElem?_cons_zero, T_23, x14_1, r14_0_l, s14_0_0, x14_4, r14_1_l, s14_1_0, s14_1_1, s14_1_2, s14_1_3, s14_1_4, x14_7, r14_2_l, s14_2_0, x14_8, x14_6, x14_9, x14_5, x14_3, x14_12, r14_3_l, s14_3_0, x14_14, x14_13, x14_11, x14_10, x14_2, x14_0, b_14, hw, h, e]
    · have e : ¬ x = y := by rintro rfl; exact hw rfl
      simp only [seqX_normal, seqX_ret, bindR_some, regX_some, condX_bool, bodyX_ret, run_nil, run_cons, fget_cons', fput_cons', forget_nil, forget_cons', frame0, gcM, stp, just, Rd.bind, Rd.run, Rd.opt, upds, resA, resL, aLen, aBuiltin, aBin, aInt, Nat.reduceBEq, Nat.reduceEqDiff, Nat.reduceLeDiff, ↓reduceIte, reduceCtorEq, Nat.zero_add, bne_iff_ne, ne_eq, List.getElem?_toArray, decide_false, not_false_eq_true, putD_some, Option.map_some, List.elem_cons, List.elem_nil, List.getElem?_cons_zero, T_23, x14_1, r14_0_l, s14_0_0, x14_4, r14_1_l, s14_1_0, s14_1_1, s14_1_2, s14_1_3, s14_1_4, x14_7, r14_2_l, s14_2_0, x14_8, x14_6, x14_9, x14_5, x14_3, x14_2, x14_0, b_14, hw, e]
theorem same_call {d : Nat} {site : Nat → Nat} {seen : List Nat} {a b : AV} {x y : List Int} (hl : x.length < 900) (ha : IsI a x) (hb : IsI b y) :
    aBack site true seen (thaw (callA E fg 1000 (d + 1)) 14 [a, b] [] 0) = .pure (.bool (decide (x = y)), []) :=
  aBack_bool (rs_ex (same_run hl ha hb))

/-! A pile, handed over to the reference -/
theorem room82 {n : Nat} (h : n ≤ 1000000) : roomOk E.T 82 n = true := by
  simp only [roomOk, T_82, decide_eq_true_eq]; exact ⟨by decide, rfl, by omega⟩
def poutV (id : Nat) : List Stone → AV
  | [] => .nilsl
  | s :: l => .ref id 0 (l.length + 1) (l.length + 1) ((l.length + 1) * 4) 4 false
def poutH (id : Nat) : List Stone → AHeap
  | [] => []
  | s :: l => [(id, ⟨.row, pcells (s :: l)⟩)]
theorem pcells_snoc : ∀ (l : List Stone) (s : Stone), pcells l ++ sc s = pcells (l ++ [s])
  | [], s => by simp [pcells]
  | a :: l, s => by simp only [pcells, List.append_assoc, List.cons_append]; rw [pcells_snoc l s]
theorem inner_round {C : Callee} {l : List Stone} {ex : Bool} (hl : l.length < 900) (i : Nat) (hi : i < l.length) (out : List Stone) (ho : out.length = i) (s : Stone) (hs : l[i]? = some s) :
    ∃ s', execA E C (fg 7) 0 19 [] 1000 c7_9 ([(4, .int .i64 i), (3, poutV 17 out), (0, .imm (pcells l) l.length ex)], poutH 17 out) = some (.normal, s') ∧
      headA [] s' = ([(4, .int .i64 (i + 1 : Nat)), (3, poutV 17 (out ++ [s])), (0, .imm (pcells l) l.length ex)], poutH 17 (out ++ [s])) := by
  cases out with
  | nil =>
    simp only [poutV, poutH, List.nil_append]
    simp only [seqX_normal, bindR_some, regX_some, condX_bool, blockX_normal, run_nil, run_cons, fget_cons', fput_cons', forget_nil, forget_cons', hget_nil', hget_cons', hset_nil', hset_cons', gcM, stp, just, Rd.bind, Rd.run, Rd.opt, upds, acells, zeroCells, tsz, elemT, rdCells, aLoad, fresh, aIndexAddr, aNum, aLen, aBuiltin, aBin, aInt, putC, evO, Nat.reduceAdd, Nat.reduceMul, Nat.reduceLT, Nat.reduceGT, Nat.reduceBEq, Nat.reduceEqDiff, Nat.reduceLeDiff, ↓reduceIte, reduceCtorEq, liveBlk_eq, Nat.zero_add, ne_eq, List.nil_append, List.getElem?_toArray, decide_true, not_true_eq_false, or_self, aBuildSlice, partsOf, fillA, repC, frz, isSliceT, aAppend, srcOf, window, putD_some, and_true, Int.natCast_nonneg, Int.ofNat_lt, Int.toNat_natCast, snaps, snap, List.append_nil, List.elem_cons, List.elem_nil, List.length_cons, List.length_nil, List.getElem?_cons_zero, List.getElem?_cons_succ, List.drop_zero, List.take_succ_cons, List.take_nil, List.set_cons_zero, List.set_cons_succ, T_22, T_25, T_56, T_82, x7_11, r7_3_l, s7_3_0, s7_3_1, s7_3_2, s7_3_3, x7_13, x7_14, x7_12, x7_10, x7_17, r7_5_l, s7_5_0, s7_5_1, s7_5_2, s7_5_3, s7_5_4, s7_5_5, s7_5_6, s7_5_7, x7_16, x7_18, r7_4_l, s7_4_0, s7_4_1, s7_4_2, x7_15, x7_9, hi, pcells_length, pcells_at l i s hs, sc, pcells_off l i hi, wrp_succ (show i < 1000000 by omega), room82 (show 1 ≤ 1000000 by omega)]
    exact ⟨_, rfl, rfl⟩
  | cons a o =>
    have hlen : (pcells (a :: o)).length = (o.length + 1) * 4 := by rw [pcells_length]; rfl
    have htake : List.take ((o.length + 1) * 4) (pcells (a :: o)) = pcells (a :: o) := List.take_of_length_le (by omega)
    have hno : ¬ o.length + 1 + 1 ≤ o.length + 1 := by omega
    have ho2 : o.length + 1 = i := by simpa using ho
    have hsn := pcells_snoc (a :: o) s
    simp only [sc] at hsn
    have hl2 : (o ++ [s]).length = o.length + 1 := by simp
    simp only [poutV, poutH, List.cons_append, hl2]
    simp only [seqX_normal, bindR_some, regX_some, condX_bool, blockX_normal, run_nil, run_cons, fget_cons', fput_cons', forget_nil, forget_cons', hget_nil', hget_cons', hset_cons', gcM, stp, just, Rd.bind, Rd.run, Rd.opt, upds, acells, zeroCells, tsz, elemT, rdCells, aLoad, fresh, aIndexAddr, aNum, aLen, aBuiltin, aBin, aInt, putC, evO, Nat.reduceAdd, Nat.reduceMul, Nat.reduceLT, Nat.reduceGT, Nat.reduceBEq, Nat.reduceEqDiff, Nat.reduceLeDiff, ↓reduceIte, reduceCtorEq, liveBlk_eq, Nat.zero_add, ne_eq, List.nil_append, List.getElem?_toArray, decide_true, not_true_eq_false, or_self, aBuildSlice, partsOf, fillA, repC, frz, isSliceT, aAppend, srcOf, window, putD_some, and_true, Int.natCast_nonneg, Int.ofNat_lt, Int.toNat_natCast, snaps, snap, List.append_nil, List.elem_cons, List.elem_nil, List.length_cons, List.length_nil, List.getElem?_cons_zero, List.getElem?_cons_succ, List.drop_zero, List.take_succ_cons, List.take_nil, List.set_cons_zero, List.set_cons_succ, T_22, T_25, T_56, T_82, x7_11, r7_3_l, s7_3_0, s7_3_1, s7_3_2, s7_3_3, x7_13, x7_14, x7_12, x7_10, x7_17, r7_5_l, s7_5_0, s7_5_1, s7_5_2, s7_5_3, s7_5_4, s7_5_5, s7_5_6, s7_5_7, x7_16, x7_18, r7_4_l, s7_4_0, s7_4_1, s7_4_2, x7_15, x7_9, hi, pcells_length, pcells_at l i s hs, sc, pcells_off l i hi, wrp_succ (show i < 1000000 by omega), room82 (show o.length + 1 + 1 ≤ 1000000 by omega), hlen, hno, htake, hsn, Nat.le_refl, List.cons_append]
    exact ⟨_, rfl, rfl⟩
theorem inner_run {C : Callee} {l : List Stone} {ex : Bool} (hl : l.length < 900) : bodyA E C fg 1000 7 [.imm (pcells l) l.length ex] [] 0 = some (poutV 17 l, poutH 17 l) := by
  have hloop := iter_all (f := execA E C (fg 7) 0 19 [] 1000 c7_9) (hd := headA []) (fun i => ([(4, .int .i64 i), (3, poutV 17 (l.take i)), (0, .imm (pcells l) l.length ex)], poutH 17 (l.take i))) l.length 1000 0
    ([(4, .int .i64 0), (3, .nilsl), (0, .imm (pcells l) l.length ex)], []) (by rw [headA_nil]; rfl) (by omega) (fun i h1 h2 => by
      have hil : i < l.length := by omega
      obtain ⟨s, hs⟩ := at_ex hil
      have := inner_round (C := C) (ex := ex) hl i hil (l.take i) (by simp; omega) s hs
      have e : l.take (i + 1) = l.take i ++ [s] := by rw [List.take_add_one, hs]; rfl
      simp only [e]
      exact this) (e := .exit 0) (se := ([(8, .bool false), (4, .int .i64 l.length), (3, poutV 17 l), (0, .imm (pcells l) l.length ex)], poutH 17 l)) (by
      rw [Nat.zero_add]
      simp only [List.take_length]
      simp only [seqX_normal, seqX_exit, bindR_some, regX_some, condX_bool, run_nil, run_cons, fget_cons', fput_cons', forget_nil, forget_cons', gcM, stp, just, Rd.bind, Rd.run, Rd.opt, upds, aLen, aBuiltin, aBin, aInt, Nat.reduceBEq, Nat.reduceEqDiff, Nat.reduceLeDiff, ↓reduceIte, reduceCtorEq, List.getElem?_toArray, decide_false, putD_some, List.elem_cons, List.elem_nil, List.getElem?_cons_zero, T_22, x7_11, r7_3_l, s7_3_0, s7_3_1, s7_3_2, s7_3_3, x7_13, x7_14, x7_12, x7_10, x7_9, Int.lt_irrefl, decide_false, Bool.false_eq_true]) (by simp)
  simp only [seqX_normal, bindR_some, regX_some, blockX_exit, bodyX_ret, run_nil, run_cons, fget_cons', fput_nil, fput_cons', forget_nil, forget_cons', frame0, gcM, resA, resL, Nat.reduceBEq, Nat.reduceEqDiff, Nat.reduceLeDiff, ↓reduceIte, reduceCtorEq, Option.map_some, List.elem_cons, List.elem_nil, x7_1, r7_0_l, s7_0_0, x7_3, r7_1_l, s7_1_0, x7_6, r7_2_l, s7_2_0, x7_8, x7_7, x7_5, x7_20, r7_6_l, s7_6_0, s7_6_1, x7_21, x7_19, x7_4, x7_2, x7_0, b_7, hloop]
theorem inner_nil {C : Callee} : bodyA E C fg 1000 7 [.nilsl] [] 0 = some (.nilsl, []) := by
  have it1 : ∀ (f : St → XR) (hd : St → St) (s : St), iterA f hd 1000 s = seqX (f (hd s)) (iterA f hd 999) := fun f hd s => iterA_succ f hd 999 s
  simp only [seqX_normal, seqX_exit, bindR_some, regX_some, condX_bool, blockX_exit, bodyX_ret, run_nil, run_cons, fget_cons', fput_nil, fput_cons', forget_nil, forget_cons', headA_nil, frame0, gcM, stp, just, Rd.bind, Rd.run, Rd.opt, upds, resA, resL, aLen, aBuiltin, aBin, aInt, Nat.reduceBEq, Nat.reduceEqDiff, Nat.reduceLeDiff, ↓reduceIte, reduceCtorEq, List.getElem?_toArray, decide_false, putD_some, Option.map_some, List.elem_cons, List.elem_nil, List.getElem?_cons_zero, T_22, x7_1, r7_0_l, s7_0_0, x7_3, r7_1_l, s7_1_0, x7_6, r7_2_l, s7_2_0, x7_11, r7_3_l, s7_3_0, s7_3_1, s7_3_2, s7_3_3, x7_13, x7_14, x7_12, x7_10, x7_9, x7_8, x7_7, x7_5, x7_20, r7_6_l, s7_6_0, s7_6_1, x7_21, x7_19, x7_4, x7_2, x7_0, b_7, it1, Int.lt_irrefl, decide_false, Bool.false_eq_true]
end Go.AM.Yteellnlcligpfaa
