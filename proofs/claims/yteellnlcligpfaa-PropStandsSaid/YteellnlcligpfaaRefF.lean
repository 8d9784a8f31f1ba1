/- The reference's weights, moments, proofs and worst truths. Own work of this project. -/
import Derived.Test.YteellnlcligpfaaRefE
namespace Go.AM.Yteellnlcligpfaa
open Go Go.AM
set_option maxRecDepth 100000
set_option maxHeartbeats 2000000

theorem rweigh_loop {d : Nat} {l : List Stone} {ws : List Int} {ex ex' : Bool} (hl : l.length ≤ 5) (hw : ws.length = l.length) : ∀ (m k F : Nat) (H : AHeap), k + m = ws.length → m < F →
    iterA (execA E (callA E fg 1000 (d + 1)) (fg 53) 0 33 [] 1000 c53_15) (headA []) F ([(5, .int .i64 k), (1, .imm (icells ws) ws.length ex'), (0, .imm (pcells l) l.length ex)], H) =
      if weighL (l.drop k) (ws.drop k) = 0 then some (.exit 0, [(14, .bool false), (5, .int .i64 ws.length), (1, .imm (icells ws) ws.length ex'), (0, .imm (pcells l) l.length ex)], []) else some (.ret, [(4, .int .i64 (weighL (l.drop k) (ws.drop k)))], [])
  | 0, k, F + 1, H, hk, _ => by
    obtain rfl : k = ws.length := by omega
    rw [iterA_succ]
    have : weighL (l.drop ws.length) (ws.drop ws.length) = 0 := by rw [List.drop_length]; unfold weighL; split <;> simp_all
    simp only [seqX_normal, seqX_exit, bindR_some, regX_some, condX_bool, run_nil, run_cons, fget_cons', fput_cons', forget_nil, forget_cons', gcM, stp, just, Rd.bind, Rd.run, Rd.opt, upds, aLen, aBuiltin, aBin, aInt, Nat.reduceBEq, Nat.reduceEqDiff, Nat.reduceLeDiff, ↓reduceIte, headA_drop, refsF, refsOf, List.getElem?_toArray, decide_false, putD_some, List.append_nil, List.elem_cons, List.elem_nil, List.getElem?_cons_zero, T_23, x53_17, r53_4_l, s53_4_0, s53_4_1, s53_4_2, s53_4_3, x53_19, x53_20, x53_18, x53_16, x53_15, Int.lt_irrefl, decide_false, Bool.false_eq_true, this]
  | m + 1, k, F + 1, H, hk, hF => by
    have hkw : k < ws.length := by omega
    have hkl : k < l.length := by omega
    obtain ⟨w, hw1⟩ := at_ex hkw
    obtain ⟨s, hs1⟩ := at_ex hkl
    have hd : l.drop k = s :: l.drop (k + 1) := by
      rw [List.drop_eq_getElem_cons hkl]
      rw [List.getElem?_eq_getElem hkl] at hs1
      rw [Option.some.inj hs1]
    have hd2 : ws.drop k = w :: ws.drop (k + 1) := by
      rw [List.drop_eq_getElem_cons hkw]
      rw [List.getElem?_eq_getElem hkw] at hw1
      rw [Option.some.inj hw1]
    have ih := rweigh_loop (d := d) (ex := ex) (ex' := ex') hl hw m (k + 1) F [] (by omega) (by omega)
    have f2 := pcells_field l k s 2 hs1 (by omega)
    have f3 := pcells_field l k s 3 hs1 (by omega)
    simp only [sc, List.getElem?_cons_succ, List.getElem?_cons_zero] at f2 f3
    have e : weighL (s :: l.drop (k + 1)) (w :: ws.drop (k + 1)) = if inB w s.least s.most = true then weighL (l.drop (k + 1)) (ws.drop (k + 1)) else 1 := by
      simp only [weighL, inB_iff]
      repeat' split
      all_goals first | rfl | omega
    rw [iterA_succ, hd, hd2, e]
    cases hb : inB w s.least s.most
    · simp only [seqX_normal, seqX_ret, bindR_some, regX_some, condX_bool, blockX_ret, Bool.not_true, Bool.not_false, run_nil, run_cons, fget_cons', fput_cons', forget_nil, forget_cons', gcM, stp, justO, just, Rd.bind, Rd.run, Rd.opt, upds, tsz, rdCells, fieldOf, aFieldAddr, aLoad, aIndexAddr, aNum, aLen, aBuiltin, aBin, aInt, Nat.reduceAdd, Nat.reduceLT, Nat.reduceBEq, Nat.reduceEqDiff, Nat.reduceLeDiff, ↓reduceIte, reduceCtorEq, Nat.zero_add, headA_drop, refsF, refsOf, List.getElem?_toArray, rtX_some, addT_some, drX_some, runT_nil, runT_cons, neat_eq, descF_nil', descF_cons', ascH_nil', stpT, Rd.foot, writing, touching, Tr.empty, dynPairs, List.isEmpty_nil, List.map_nil, Bool.not_false, Bool.not_true, Bool.or_true, Bool.or_false, Bool.and_self, decide_true, aUn, putD_some, and_true, Int.natCast_nonneg, Int.ofNat_lt, Int.toNat_natCast, aCall, snaps, snap, List.append_nil, List.elem_cons, List.elem_nil, List.getElem?_cons_zero, List.getElem?_cons_succ, T_3, T_23, T_25, T_82, x53_17, r53_4_l, s53_4_0, s53_4_1, s53_4_2, s53_4_3, x53_19, x53_20, x53_18, x53_16, x53_24, r53_6_l, r53_6_dr, r53_6_an, s53_6_0, s53_6_1, s53_6_2, s53_6_3, s53_6_4, s53_6_5, s53_6_6, s53_6_7, s53_6_8, s53_6_9, s53_6_10, s53_6_11, s53_6_12, s53_6_13, s53_6_14, s53_6_15, x53_27, r53_7_l, s53_7_0, x53_28, x53_26, x53_29, x53_25, x53_23, x53_22, x53_21, x53_15, hkw, hkl, icells_length, pcells_length, icells_at hw1, Nat.mul_one, f2, f3, in_call, hb, Bool.false_eq_true]
      try simp
    · simp only [seqX_normal, bindR_some, regX_some, condX_bool, blockX_normal, Bool.not_true, Bool.not_false, run_nil, run_cons, fget_cons', fput_cons', forget_nil, forget_cons', gcM, stp, justO, just, Rd.bind, Rd.run, Rd.opt, upds, tsz, rdCells, fieldOf, aFieldAddr, aLoad, aIndexAddr, aNum, aLen, aBuiltin, aBin, aInt, Nat.reduceAdd, Nat.reduceLT, Nat.reduceBEq, Nat.reduceEqDiff, Nat.reduceLeDiff, ↓reduceIte, reduceCtorEq, Nat.zero_add, headA_drop, refsF, refsOf, List.getElem?_toArray, rtX_some, addT_some, drX_some, runT_nil, runT_cons, neat_eq, descF_nil', descF_cons', ascH_nil', stpT, Rd.foot, writing, touching, Tr.empty, dynPairs, List.isEmpty_nil, List.map_nil, Bool.not_false, Bool.not_true, Bool.or_true, Bool.or_false, Bool.and_self, decide_true, aUn, putD_some, and_true, Int.natCast_nonneg, Int.ofNat_lt, Int.toNat_natCast, aCall, snaps, snap, List.append_nil, List.elem_cons, List.elem_nil, List.getElem?_cons_zero, List.getElem?_cons_succ, T_3, T_23, T_25, T_82, x53_17, r53_4_l, s53_4_0, s53_4_1, s53_4_2, s53_4_3, x53_19, x53_20, x53_18, x53_16, x53_24, r53_6_l, r53_6_dr, r53_6_an, s53_6_0, s53_6_1, s53_6_2, s53_6_3, s53_6_4, s53_6_5, s53_6_6, s53_6_7, s53_6_8, s53_6_9, s53_6_10, s53_6_11, s53_6_12, s53_6_13, s53_6_14, s53_6_15, x53_27, r53_7_l, s53_7_0, x53_28, x53_26, x53_29, x53_25, x53_23, x53_22, x53_30, r53_5_l, s53_5_0, s53_5_1, s53_5_2, x53_21, x53_15, hkw, hkl, icells_length, pcells_length, icells_at hw1, Nat.mul_one, f2, f3, in_call, hb, wrp_succ (show k < 1000000 by omega), ih]

theorem rweighed_run {d : Nat} {l : List Stone} {ex : Bool} {a : AV} {ws : List Int} (h : OkP l) (ha : IsI a ws) : rsOf (callA E fg 1000 (d + 2) 53 [.imm (pcells l) l.length ex, a] [] 0) = some (.int .i64 (weighE l ws)) := by
  change rsOf (bodyA E (callA E fg 1000 (d + 1)) fg 1000 53 _ _ _) = _
  rcases ha with ⟨rfl, rfl⟩ | ⟨ex', rfl⟩
  · have h0 : ¬ (0 : Int) = l.length := by have := h.ne; omega
    simp only [seqX_normal, seqX_ret, bindR_some, regX_some, condX_bool, bodyX_ret, run_nil, run_cons, fget_cons', fput_cons', forget_nil, forget_cons', frame0, gcM, stp, just, Rd.bind, Rd.run, Rd.opt, upds, resA, resL, aLen, aBuiltin, aBin, aInt, Nat.reduceBEq, Nat.reduceEqDiff, Nat.reduceLeDiff, ↓reduceIte, reduceCtorEq, Nat.zero_add, bne_iff_ne, ne_eq, List.getElem?_toArray, not_false_eq_true, putD_some, Option.map_some, List.elem_cons, List.elem_nil, List.length_nil, List.getElem?_cons_zero, T_23, T_25, x53_1, r53_0_l, s53_0_0, x53_4, r53_1_l, s53_1_0, s53_1_1, s53_1_2, s53_1_3, s53_1_4, x53_7, r53_2_l, s53_2_0, x53_8, x53_6, x53_9, x53_5, x53_3, x53_2, x53_0, b_53, weighE, List.length_nil, Int.natCast_zero, h0, not_false_eq_true]
  · by_cases hw : (ws.length : Int) = l.length
    · have hl := rweigh_loop (d := d) (l := l) (ws := ws) (ex := ex) (ex' := ex') h.le (by omega) ws.length 0 1000 [] (by omega) (by have := h.le; omega)
      simp only [List.drop_zero, Int.natCast_zero] at hl
      by_cases h0 : weighL l ws = 0
      · simp only [h0, if_true] at hl
        simp only [hw] at hl
        simp only [seqX_normal, bindR_some, regX_some, condX_bool, blockX_exit, bodyX_ret, run_nil, run_cons, fget_cons', fput_nil, fput_cons', forget_nil, forget_cons', frame0, gcM, stp, just, Rd.bind, Rd.run, Rd.opt, upds, resA, resL, aLen, aBuiltin, aBin, aInt, Nat.reduceBEq, Nat.reduceEqDiff, Nat.reduceLeDiff, ↓reduceIte, reduceCtorEq, Nat.zero_add, bne_iff_ne, ne_eq, List.getElem?_toArray, not_true_eq_false, putD_some, Option.map_some, List.elem_cons, List.elem_nil, List.getElem?_cons_zero, T_23, T_25, x53_1, r53_0_l, s53_0_0, x53_4, r53_1_l, s53_1_0, s53_1_1, s53_1_2, s53_1_3, s53_1_4, x53_7, r53_2_l, s53_2_0, x53_8, x53_6, x53_9, x53_5, x53_3, x53_12, r53_3_l, s53_3_0, x53_14, x53_13, x53_11, x53_32, r53_8_l, s53_8_0, x53_33, x53_31, x53_10, x53_2, x53_0, b_53, weighE, hw, h0, hl]
      · simp only [h0, if_false] at hl
        try simp only [hw] at hl
        simp only [seqX_normal, seqX_ret, bindR_some, regX_some, condX_bool, blockX_ret, bodyX_ret, run_nil, run_cons, fget_cons', fput_cons', forget_nil, forget_cons', frame0, gcM, stp, just, Rd.bind, Rd.run, Rd.opt, upds, resA, resL, aLen, aBuiltin, aBin, aInt, Nat.reduceBEq, Nat.reduceEqDiff, Nat.reduceLeDiff, ↓reduceIte, reduceCtorEq, Nat.zero_add, bne_iff_ne, ne_eq, List.getElem?_toArray, not_true_eq_false, putD_some, Option.map_some, List.elem_cons, List.elem_nil, List.getElem?_cons_zero, T_23, T_25, x53_1, r53_0_l, s53_0_0, x53_4, r53_1_l, s53_1_0, s53_1_1, s53_1_2, s53_1_3, s53_1_4, x53_7, r53_2_l, s53_2_0, x53_8, x53_6, x53_9, x53_5, x53_3, x53_12, r53_3_l, s53_3_0, x53_14, x53_13, x53_11, x53_10, x53_2, x53_0, b_53, weighE, hw, hl]
    · simp only [seqX_normal, seqX_ret, bindR_some, regX_some, condX_bool, bodyX_ret, run_nil, run_cons, fget_cons', fput_cons', forget_nil, forget_cons', frame0, gcM, stp, just, Rd.bind, Rd.run, Rd.opt, upds, resA, resL, aLen, aBuiltin, aBin, aInt, Nat.reduceBEq, Nat.reduceEqDiff, Nat.reduceLeDiff, ↓reduceIte, reduceCtorEq, Nat.zero_add, bne_iff_ne, ne_eq, List.getElem?_toArray, not_false_eq_true, putD_some, Option.map_some, List.elem_cons, List.elem_nil, List.getElem?_cons_zero, T_23, T_25, x53_1, r53_0_l, s53_0_0, x53_4, r53_1_l, s53_1_0, s53_1_1, s53_1_2, s53_1_3, s53_1_4, x53_7, r53_2_l, s53_2_0, x53_8, x53_6, x53_9, x53_5, x53_3, x53_2, x53_0, b_53, weighE, hw]
theorem rweighed_call {d : Nat} {site : Nat → Nat} {seen : List Nat} {l : List Stone} {ex : Bool} {a : AV} {ws : List Int} (h : OkP l) (ha : IsI a ws) :
    aBack site true seen (thaw (callA E fg 1000 (d + 2)) 53 [.imm (pcells l) l.length ex, a] [] 0) = .pure (.int .i64 (weighE l ws), []) :=
  aBack_int (rs_ex (rweighed_run h ha))

theorem weigh_between {l : List Stone} {ws : List Int} (hw : weighE l ws = 0) : Between l ws := by
  have hlen := weigh_len hw
  unfold weighE at hw
  rw [if_pos (by omega)] at hw
  refine ⟨hlen, fun i s hs => ?_⟩
  obtain ⟨w, hw1⟩ := at_ex (show i < ws.length by rw [hlen]; exact at_lt hs)
  have hg : ws.getD i 0 = w := by simp [hw1]
  rw [hg]
  exact (weighL_fits hlen).1 hw i s w hs hw1
theorem sided_level {l : List Stone} {k : Nat} (h : sidedE l k (-1) = 0) : 0 < k := by
  unfold sidedE at h
  split at h
  · rw [if_pos (.inr rfl)] at h
    split at h
    · simp at h
    · omega
  · rename_i h0; exact absurd h h0
theorem rmom_side {l : List Stone} {ws : List Int} {k : Nat} {side : Int} (h : sidedE l k side = 0) : sumF (rterm l ws k side) k (l.length - k) = momSum l ws k side := by
  obtain ⟨_, _, _, hs⟩ := sided_zero h
  rcases hs with rfl | rfl
  · exact rmom_right k
  · exact rmom_left (sided_level h)

theorem rMoment_run {d : Nat} {a b : AV} {l : List Stone} {ws : List Int} (ha : IsP a l) (hb : IsI b ws) (z side : Int) :
    rsOf (callA E fg 1000 (d + 5) 16 [a, b, .int .i64 z, .int .i64 side] [] 0) = some (.tup [.int .i64 (momN l ws z side), .int .i64 (momE l ws z side)]) := by
  change rsOf (bodyA E (callA E fg 1000 (d + 4)) fg 1000 16 _ _ _) = _
  have hc := fun (site : Nat → Nat) seen => rsided_call (d := d) (site := site) (seen := seen) ha z side
  by_cases h0 : sidedE l z side = 0
  · obtain ⟨h, z0, z1, hsd⟩ := sided_zero h0
    obtain ⟨k, rfl⟩ := Int.eq_ofNat_of_zero_le z0
    obtain ⟨ex, rfl⟩ := isP_imm ha h.ne
    have hwc := fun (site : Nat → Nat) seen => rweighed_call (d := d + 2) (site := site) (seen := seen) (ex := ex) h hb
    by_cases hw : weighE l ws = 0
    · obtain ⟨ex', rfl⟩ := isI_imm hb (by rw [weigh_len hw]; exact h.ne)
      have hm := fun (site : Nat → Nat) seen => rmoment_call (d := d + 2) (site := site) (seen := seen) (ex := ex) (ex' := ex') h (between_okW h (weigh_between hw)) (k := k) (by omega) hsd
      have e := rmom_side (ws := ws) h0
      try simp only [Int.ofNat_eq_natCast] at hc h0
      simp only [seqX_normal, bindR_some, regX_some, condX_bool, bodyX_ret, run_nil, run_cons, fget_cons', fput_cons', forget_nil, forget_cons', frame0, gcM, stp, just, Rd.bind, Rd.run, Rd.opt, upds, resA, resL, aBin, aInt, Nat.reduceAdd, Nat.reduceBEq, Nat.reduceEqDiff, Nat.reduceLeDiff, ↓reduceIte, reduceCtorEq, Nat.zero_add, bne_iff_ne, ne_eq, beq_iff_eq, not_true_eq_false, putD_some, Int.toNat_natCast, aCall, snaps, snap, List.append_nil, Option.map_some, List.elem_cons, List.elem_nil, x16_1, r16_0_l, s16_0_0, s16_0_1, x16_3, r16_1_l, s16_1_0, s16_1_1, s16_1_2, s16_1_3, s16_1_4, x16_6, r16_2_l, s16_2_0, s16_2_1, x16_8, r16_3_l, s16_3_0, s16_3_1, s16_3_2, s16_3_3, x16_9, x16_7, x16_5, x16_12, r16_4_l, s16_4_0, s16_4_1, x16_15, r16_5_l, s16_5_0, s16_5_1, s16_5_2, x16_16, x16_14, x16_17, x16_13, x16_11, x16_19, r16_6_l, s16_6_0, s16_6_1, s16_6_2, s16_6_3, s16_6_4, s16_6_5, s16_6_6, x16_20, x16_18, x16_10, x16_4, x16_2, x16_0, b_16, hc, h0, hwc, hw, hm, momN, momE, e]
    · rcases hb with ⟨rfl, rfl⟩ | ⟨ex', rfl⟩ <;> simp only [seqX_normal, seqX_ret, bindR_some, regX_some, condX_bool, bodyX_ret, run_nil, run_cons, fget_cons', fput_cons', forget_nil, forget_cons', frame0, gcM, stp, just, Rd.bind, Rd.run, Rd.opt, upds, resA, resL, aBin, aInt, Nat.reduceAdd, Nat.reduceBEq, Nat.reduceEqDiff, Nat.reduceLeDiff, ↓reduceIte, reduceCtorEq, Nat.zero_add, bne_iff_ne, ne_eq, beq_iff_eq, not_false_eq_true, putD_some, aCall, snaps, snap, List.append_nil, Option.map_some, List.elem_cons, List.elem_nil, x16_1, r16_0_l, s16_0_0, s16_0_1, x16_3, r16_1_l, s16_1_0, s16_1_1, s16_1_2, s16_1_3, s16_1_4, x16_6, r16_2_l, s16_2_0, s16_2_1, x16_8, r16_3_l, s16_3_0, s16_3_1, s16_3_2, s16_3_3, x16_9, x16_7, x16_5, x16_12, r16_4_l, s16_4_0, s16_4_1, x16_15, r16_5_l, s16_5_0, s16_5_1, s16_5_2, x16_16, x16_14, x16_17, x16_13, x16_11, x16_10, x16_4, x16_2, x16_0, b_16, hc, h0, hwc, hw, momN, momE]
  · rcases ha with ⟨rfl, rfl⟩ | ⟨ex, rfl⟩ <;> simp only [seqX_normal, seqX_ret, bindR_some, regX_some, condX_bool, bodyX_ret, run_nil, run_cons, fget_cons', fput_cons', forget_nil, forget_cons', frame0, gcM, stp, just, Rd.bind, Rd.run, Rd.opt, upds, resA, resL, aBin, aInt, Nat.reduceAdd, Nat.reduceBEq, Nat.reduceEqDiff, Nat.reduceLeDiff, ↓reduceIte, reduceCtorEq, liveBlk_eq, Nat.zero_add, bne_iff_ne, ne_eq, beq_iff_eq, List.nil_append, not_false_eq_true, putD_some, aCall, snaps, snap, List.append_nil, Option.map_some, List.elem_cons, List.elem_nil, x16_1, r16_0_l, s16_0_0, s16_0_1, x16_3, r16_1_l, s16_1_0, s16_1_1, s16_1_2, s16_1_3, s16_1_4, x16_6, r16_2_l, s16_2_0, s16_2_1, x16_8, r16_3_l, s16_3_0, s16_3_1, s16_3_2, x16_9, x16_7, x16_5, x16_12, r16_4_l, s16_4_0, s16_4_1, x16_15, r16_5_l, s16_5_0, s16_5_1, s16_5_2, x16_16, x16_14, x16_17, x16_13, x16_11, x16_10, x16_4, x16_2, x16_0, b_16, hc, h0, momN, momE]
theorem rMoment_call {d : Nat} {site : Nat → Nat} {seen : List Nat} {a b : AV} {l : List Stone} {ws : List Int} (ha : IsP a l) (hb : IsI b ws) (z side : Int) :
    aBack site true seen (thaw (callA E fg 1000 (d + 5)) 16 [a, b, .int .i64 z, .int .i64 side] [] 0) = .pure (.tup [.int .i64 (momN l ws z side), .int .i64 (momE l ws z side)], []) :=
  aBack_ints (rs_ex (rMoment_run ha hb z side))

theorem rtips_mom {l : List Stone} {ws : List Int} (h : OkP l) (hw : weighE l ws = 0) {k : Nat} : rtips l ws k = true ↔ ¬ (if momSum l ws k (-1) > momSum l ws k 1 then momSum l ws k (-1) else momSum l ws k 1) ≤ 0 := by
  unfold rtips
  rw [rmom_right]
  by_cases h0 : k = 0
  · subst h0
    have := mom_zero_left h (between_okW h (weigh_between hw))
    simp only [Int.natCast_zero, gt_iff_lt, Int.lt_irrefl, if_false]
    by_cases h1 : 0 < momSum l ws 0 1
    · rw [if_pos h1, if_neg (by omega)]; simp; omega
    · rw [if_neg h1]; split <;> simp <;> omega
  · rw [rmom_left (show 0 < k by omega)]
    have hpi : (k : Int) > 0 := by omega
    rw [if_pos hpi]
    by_cases h1 : momSum l ws k 1 > 0
    · rw [if_pos h1]; split <;> simp <;> omega
    · rw [if_neg h1]; simp only [decide_eq_true_eq]; split <;> omega
theorem rproves_run {d : Nat} {a b : AV} {l : List Stone} {ws : List Int} (ha : IsP a l) (hb : IsI b ws) (z : Int) :
    rsOf (callA E fg 1000 (d + 5) 20 [a, b, .int .i64 z] [] 0) = some (.int .i64 (provesE l ws z)) := by
  change rsOf (bodyA E (callA E fg 1000 (d + 4)) fg 1000 20 _ _ _) = _
  have hc := fun (site : Nat → Nat) seen => levelled_call (d := d + 1) (site := site) (seen := seen) ha z
  by_cases h0 : foundE l z = 0
  · obtain ⟨h, z0, z1⟩ := found_zero.1 h0
    obtain ⟨k, hk⟩ := Int.eq_ofNat_of_zero_le z0
    replace hk : z = (k : Int) := hk
    subst hk
    obtain ⟨ex, rfl⟩ := isP_imm ha h.ne
    have hwc := fun (site : Nat → Nat) seen => rweighed_call (d := d + 2) (site := site) (seen := seen) (ex := ex) h hb
    try simp only [Int.ofNat_eq_natCast] at hc h0
    by_cases hw : weighE l ws = 0
    · obtain ⟨ex', rfl⟩ := isI_imm hb (by rw [weigh_len hw]; exact h.ne)
      have hm := fun (site : Nat → Nat) seen => rtips_call (d := d + 1) (site := site) (seen := seen) (ex := ex) (ex' := ex') h (between_okW h (weigh_between hw)) (k := k) (by omega)
      have ht := rtips_mom h hw (k := k)
      have e : provesE l ws k = if rtips l ws k = true then 0 else 14 := by
        unfold provesE
        rw [if_pos h0, if_pos hw, Int.toNat_natCast]
        by_cases hx : rtips l ws k = true
        · rw [if_pos hx, if_neg (ht.1 hx)]
        · rw [if_neg hx, if_pos (Classical.not_not.1 fun hn => hx (ht.2 hn))]
      rw [e]
      cases hb2 : rtips l ws k <;> simp only [seqX_normal, bindR_some, regX_some, condX_bool, ↓gd, fset_cons, Bool.not_true, Bool.not_false, bodyX_ret, run_nil, run_cons, fget_cons', fput_nil, fput_cons', forget_nil, forget_cons', frame0, gcM, stp, opPick, justO, just, Rd.bind, Rd.run, Rd.opt, upds, resA, resL, aBin, aInt, Nat.reduceAdd, Nat.reduceBEq, Nat.reduceEqDiff, Nat.reduceLeDiff, ↓reduceIte, reduceCtorEq, Nat.zero_add, beq_iff_eq, Bool.not_false, Bool.not_true, aUn, putD_some, aCall, snaps, snap, List.append_nil, Option.map_some, List.elem_cons, List.elem_nil, x20_1, r20_0_l, s20_0_0, x20_3, r20_1_l, s20_1_0, s20_1_1, s20_1_2, s20_1_3, x20_6, r20_2_l, s20_2_0, s20_2_1, x20_8, r20_3_l, s20_3_0, s20_3_1, s20_3_2, s20_3_3, x20_9, x20_7, x20_5, x20_12, r20_4_l, s20_4_0, s20_4_1, s20_4_2, s20_4_3, s20_4_4, s20_4_5, s20_4_6, s20_4_7, s20_4_8, x20_14, r20_5_l, s20_5_0, x20_15, x20_13, x20_11, x20_17, r20_6_l, s20_6_0, s20_6_1, x20_18, x20_16, x20_10, x20_4, x20_2, x20_0, b_20, hc, h0, hwc, hw, hm, hb2, Bool.false_eq_true]
    · rcases hb with ⟨rfl, rfl⟩ | ⟨ex', rfl⟩ <;> simp only [seqX_normal, bindR_some, regX_some, condX_bool, ↓gd, fset_cons, Bool.not_true, bodyX_ret, run_nil, run_cons, fget_cons', fput_nil, fput_cons', forget_nil, forget_cons', frame0, gcM, stp, opPick, just, Rd.bind, Rd.run, Rd.opt, upds, resA, resL, aBin, aInt, Nat.reduceAdd, Nat.reduceBEq, Nat.reduceEqDiff, Nat.reduceLeDiff, ↓reduceIte, reduceCtorEq, Nat.zero_add, beq_iff_eq, Bool.not_true, putD_some, aCall, snaps, snap, List.append_nil, Option.map_some, List.elem_cons, List.elem_nil, x20_1, r20_0_l, s20_0_0, x20_3, r20_1_l, s20_1_0, s20_1_1, s20_1_2, s20_1_3, x20_6, r20_2_l, s20_2_0, s20_2_1, x20_8, r20_3_l, s20_3_0, s20_3_1, s20_3_2, s20_3_3, x20_9, x20_7, x20_5, x20_12, r20_4_l, s20_4_0, s20_4_1, s20_4_2, s20_4_3, s20_4_4, s20_4_5, s20_4_6, s20_4_7, s20_4_8, x20_14, r20_5_l, s20_5_0, x20_15, x20_13, x20_11, x20_17, r20_6_l, s20_6_0, s20_6_1, x20_18, x20_16, x20_10, x20_4, x20_2, x20_0, b_20, hc, h0, hwc, hw, provesE]
  · rcases ha with ⟨rfl, rfl⟩ | ⟨ex, rfl⟩ <;> simp only [seqX_normal, bindR_some, regX_some, condX_bool, ↓gd, fset_cons, Bool.not_true, bodyX_ret, run_nil, run_cons, fget_cons', fput_nil, fput_cons', forget_nil, forget_cons', frame0, gcM, stp, opPick, just, Rd.bind, Rd.run, Rd.opt, upds, resA, resL, aBin, aInt, Nat.reduceAdd, Nat.reduceBEq, Nat.reduceEqDiff, Nat.reduceLeDiff, ↓reduceIte, reduceCtorEq, liveBlk_eq, Nat.zero_add, beq_iff_eq, List.nil_append, Bool.not_true, putD_some, aCall, snaps, snap, List.append_nil, Option.map_some, List.elem_cons, List.elem_nil, x20_1, r20_0_l, s20_0_0, x20_3, r20_1_l, s20_1_0, s20_1_1, s20_1_2, s20_1_3, x20_6, r20_2_l, s20_2_0, s20_2_1, x20_8, r20_3_l, s20_3_0, s20_3_1, s20_3_2, x20_9, x20_7, x20_5, x20_12, r20_4_l, s20_4_0, s20_4_1, s20_4_2, s20_4_3, s20_4_4, s20_4_5, s20_4_6, s20_4_7, s20_4_8, x20_14, r20_5_l, s20_5_0, x20_15, x20_13, x20_11, x20_17, r20_6_l, s20_6_0, s20_6_1, x20_18, x20_16, x20_10, x20_4, x20_2, x20_0, b_20, hc, h0, provesE]
theorem rproves_call {d : Nat} {site : Nat → Nat} {seen : List Nat} {a b : AV} {l : List Stone} {ws : List Int} (ha : IsP a l) (hb : IsI b ws) (z : Int) :
    aBack site true seen (thaw (callA E fg 1000 (d + 5)) 20 [a, b, .int .i64 z] [] 0) = .pure (.int .i64 (provesE l ws z), []) :=
  aBack_int (rs_ex (rproves_run ha hb z))
end Go.AM.Yteellnlcligpfaa
