/- A part of the proof of muleRule_card: MuN, MuO, MuP, MuR, SyC, CelG. Own work of this project; texts printed by own programs among it. -/
import Derived.KernelRfl
import Derived.Test.YtgfnbmfjbjopkaaDoorRlI
section
namespace Go.AM.YtgfnbmfjbjopkaaDoor
open Go Go.AM Go.AM.Mule
set_option maxRecDepth 100000
set_option maxHeartbeats 4000000
theorem repC_ucs : ∀ n, repC [.int .u64 0] n = ucs (List.replicate n 0)
  | 0 => rfl
  | n + 1 => by rw [repC, repC_ucs n]; rfl
theorem h2_nil {C : Callee} {ls : List Ld} {e : Bool} {n : Nat} : iterA (execA E C (fg 88) 0 156 [] 1000 c88_60) (headA []) 1000 ([(67, .int .i64 0), (66, .int .i64 0), (65, .nilsl), (5, .ptr 5 0 2), (4, .int .i64 n), (2, .ptr 2 0 2), (1, .ptr 1 0 2)],
      h2H ls (.imm (cls lc ls) n e) .nilsl n (List.replicate n 0)) = some (.exit 4, ([(68, .bool false), (67, .int .i64 0), (66, .int .i64 0), (65, .nilsl), (5, .ptr 5 0 2), (4, .int .i64 n), (2, .ptr 2 0 2), (1, .ptr 1 0 2)],
      h2H ls (.imm (cls lc ls) n e) .nilsl n (List.replicate n 0))) :=
  loop0 (f := (execA E C (fg 88) 0 156 [] 1000 c88_60)) rfl (by simp (disch := omega) only [seqX_exit, condX_bool, run_nil, run_cons, fget_cons', fput_cons', forget_nil, forget_cons', gcM_n, stp, just, Rd.bind, Rd.run, Rd.opt, upds, aBin, aInt, Nat.reduceEqDiff, Nat.reduceLeDiff, ↓reduceIte, decide_false, putD_some, List.elem_nil, seqN, bindN, regN, Int.lt_irrefl, Bool.false_eq_true, x88_61, r88_18_l, s88_18_0, x88_64, x88_65, x88_63, x88_62, x88_60]) (by simp)
theorem h4_all {C : Callee} {ls : List Ld} {n : Nat} {B : List Nat} (hB : B.length = n) (hb : ∀ x ∈ B, x < 2 ^ n) (hn : n ≤ 6) {s0 : St} (h0 : headA [] s0 = h4S ls n B 0) :
    iterA (execA E C (fg 88) 0 156 [] 1000 c88_92) (headA []) 1000 s0 = some (.exit 7, ([(111, .bool false), (110, .int .i64 n), (109, .int .i64 n), (5, .ptr 5 0 2), (4, .int .i64 n), (2, .ptr 2 0 2)], h3H ls n (fw n B))) := by
  refine iter_all (fun k => h4S ls n ((List.range k).foldl (fwK n) B) k) n 1000 0 s0 h0 (by omega) (fun k _ hk => ?_) (e := .exit 7) ?_ (by simp)
  · have := h4_go (C := C) (ls := ls) (B := (List.range k).foldl (fwK n) B) (by rw [fwp_len, hB]) (fwp_lt hb n k) hn (show k < n by omega)
    rw [List.range_succ, List.foldl_append]; exact this
  · rw [Nat.zero_add, show (List.range n).foldl (fwK n) B = fw n B from rfl]
    simp (disch := omega) only [seqX_exit, condX_bool, run_nil, run_cons, fget_cons', fput_cons', forget_nil, forget_cons', gcM_n, stp, just, Rd.bind, Rd.run, Rd.opt, upds, aBin, aInt, Nat.reduceEqDiff, Nat.reduceLeDiff, ↓reduceIte, decide_false, putD_some, List.elem_nil, seqN, bindN, regN, Int.lt_irrefl, Bool.false_eq_true, x88_93, r88_27_l, s88_27_0, x88_96, x88_97, x88_95, x88_94, x88_92, h4S]
theorem ha_run {C : Callee} (hC : HaC C) {ls : List Ld} {es : List Pr} {a b : AV} (ha : SV lc ls a) (hb : SV bc es b) :
    (chk ls es ≠ 0 → ∃ H', bodyA E C fg 1000 88 [.agg [a, b]] [] 0 = some (.tup [.agg [.nilsl, .nilsl], .int .i64 (chk ls es)], H')) ∧
    (chk ls es = 0 → ∃ H', bodyA E C fg 1000 88 [.agg [a, b]] [] 0 = some (.tup [.agg [.ref 61 0 ls.length ls.length (ls.length * 5) 5 false, .ref 33 0 ls.length ls.length ls.length 1 false], .int .i64 0], H') ∧ hget H' 61 = some ⟨.row, cls lc ls⟩ ∧ hget H' 33 = some ⟨.row, ucs (sets ls.length es)⟩) := by
  rcases ha with ⟨rfl, rfl⟩ | ⟨e, rfl⟩
  · have : chk [] es = 4 := rfl
    rw [this]
    refine ⟨fun _ => ?_, fun h => by simp at h⟩
    simp (disch := omega) only [seqX_ret, condX_bool, blockX_ret, ↓gd, fset_cons, Bool.not_false, bodyX_ret, run_nil, run_cons, fget_cons', fput_cons', forget_nil, forget_cons', hget_nil', hget_cons', hset_nil', hset_cons', frame0, gcM_c, stp, opBox, justO, just, Rd.bind, Rd.run, Rd.opt, upds, acells, zeroCells, tsz, rdCells, fieldOf, aFieldAddr, aLoad, aStore, opStore, resA, resL, fresh, aLen, aBuiltin, aBin, aInt, putC, Nat.reduceAdd, Nat.reduceBEq, Nat.reduceEqDiff, Nat.reduceLeDiff, ↓reduceIte, reduceCtorEq, liveBlk_eq, decide_eq_false_iff_not, Nat.zero_add, Nat.add_zero, List.nil_append, List.getElem?_toArray, Bool.not_false, partsOf, fillA, putD_some, putD_none, and_true, snaps, List.append_nil, Option.map_some, List.elem_cons, List.elem_nil, List.length_cons, List.length_nil, List.getElem?_cons_zero, List.getElem?_cons_succ, List.drop_zero, List.take_succ_cons, List.take_nil, List.set_cons_zero, List.set_cons_succ, frz_nil, seqN, bindN, regN, snap_nilsl, aBuild, Nat.le_refl, List.not_mem_nil, beq_self_eq_true, Bool.false_eq_true, T_22, T_23, T_25, T_109, beq_self_eq_true, x88_1, r88_0_l, s88_0_0, s88_0_1, s88_0_2, x88_3, r88_1_l, s88_1_0, s88_1_1, s88_1_2, s88_1_3, x88_7, r88_2_l, s88_2_0, s88_2_1, s88_2_2, x88_10, r88_3_l, s88_3_0, s88_3_1, s88_3_2, x88_11, x88_9, x88_13, r88_4_l, s88_4_0, s88_4_1, s88_4_2, s88_4_3, s88_4_4, s88_4_5, x88_12, x88_8, x88_6, x88_5, x88_4, x88_2, x88_0, b_88, if_pos]
    exact ⟨_, rfl⟩
  · by_cases hn0 : ls.length = 0
    · have h4 : chk ls es = 4 := by unfold chk; rw [if_pos hn0]
      rw [h4]
      refine ⟨fun _ => ?_, fun h => by simp at h⟩
      have hlen : (cls lc ls).length = ls.length * 5 := cls_length lc_len ls
      simp (disch := omega) only [seqX_ret, condX_bool, blockX_ret, ↓gd, fset_cons, Bool.not_false, bodyX_ret, run_nil, run_cons, fget_cons', fput_cons', forget_nil, forget_cons', hget_nil', hget_cons', hset_nil', hset_cons', frame0, gcM_c, stp, opBox, justO, just, Rd.bind, Rd.run, Rd.opt, upds, acells, zeroCells, tsz, rdCells, fieldOf, aFieldAddr, aLoad, aStore, opStore, resA, resL, fresh, aLen, aBuiltin, aBin, aInt, putC, Nat.reduceAdd, Nat.reduceBEq, Nat.reduceEqDiff, Nat.reduceLeDiff, ↓reduceIte, reduceCtorEq, liveBlk_eq, decide_eq_false_iff_not, Nat.zero_add, Nat.add_zero, List.nil_append, List.getElem?_toArray, Bool.not_false, partsOf, fillA, putD_some, putD_none, and_true, snaps, List.append_nil, Option.map_some, List.elem_cons, List.elem_nil, List.length_cons, List.length_nil, List.getElem?_cons_zero, List.getElem?_cons_succ, List.drop_zero, List.take_succ_cons, List.take_nil, List.set_cons_zero, List.set_cons_succ, frz_nil, seqN, bindN, regN, snap_nilsl, aBuild, Nat.le_refl, List.not_mem_nil, beq_self_eq_true, Bool.false_eq_true, T_22, T_23, T_25, T_109, beq_self_eq_true, x88_1, r88_0_l, s88_0_0, s88_0_1, s88_0_2, x88_3, r88_1_l, s88_1_0, s88_1_1, s88_1_2, s88_1_3, x88_7, r88_2_l, s88_2_0, s88_2_1, s88_2_2, x88_10, r88_3_l, s88_3_0, s88_3_1, s88_3_2, x88_11, x88_9, x88_13, r88_4_l, s88_4_0, s88_4_1, s88_4_2, s88_4_3, s88_4_4, s88_4_5, x88_12, x88_8, x88_6, x88_5, x88_4, x88_2, x88_0, b_88, hn0, if_pos, Int.natCast_zero]
      exact ⟨_, rfl⟩
    · have g0 : ¬ (ls.length : Int) = 0 := by omega
      have hbl : ∀ φ, ∃ m, (m = es.length) ∧ (just (aLen E.T 23 b)).run φ = some (.int .i64 (m : Int), []) := by
        intro φ
        rcases hb with ⟨rfl, rfl⟩ | ⟨e2, rfl⟩
        · exact ⟨0, rfl, rfl⟩
        · exact ⟨es.length, rfl, rfl⟩
      by_cases h6 : 6 < ls.length ∨ 15 < es.length
      · have h3 : chk ls es = 3 := by unfold chk; rw [if_neg hn0, if_pos h6]
        rw [h3]
        refine ⟨fun _ => ?_, fun h => by simp at h⟩
        by_cases h6a : 6 < ls.length
        · have g1 : (ls.length : Int) > 6 := by omega
          simp (disch := omega) only [seqX_ret, condX_bool, blockX_ret, ↓gd, fset_cons, Bool.not_false, bodyX_ret, run_nil, run_cons, fget_cons', fput_cons', forget_nil, forget_cons', hget_nil', hget_cons', hset_nil', hset_cons', frame0, gcM_c, stp, opPick, opBox, justO, just, Rd.bind, Rd.run, Rd.opt, upds, acells, zeroCells, tsz, rdCells, fieldOf, aFieldAddr, aLoad, aStore, opStore, resA, resL, fresh, aLen, aBuiltin, aBin, aInt, putC, Nat.reduceAdd, Nat.reduceBEq, Nat.reduceEqDiff, Nat.reduceLeDiff, ↓reduceIte, reduceCtorEq, liveBlk_eq, Nat.zero_add, Nat.add_zero, beq_iff_eq, List.nil_append, List.getElem?_toArray, Bool.not_false, decide_true, partsOf, fillA, putD_some, putD_none, and_true, snaps, List.append_nil, Option.map_some, List.elem_cons, List.elem_nil, List.length_cons, List.length_nil, List.getElem?_cons_zero, List.drop_zero, List.take_succ_cons, List.take_nil, List.set_cons_zero, List.set_cons_succ, frz_nil, seqN, bindN, regN, snap_nilsl, aBuild, Nat.le_refl, List.not_mem_nil, beq_self_eq_true, Bool.false_eq_true, T_22, T_25, T_109, beq_self_eq_true, x88_1, r88_0_l, s88_0_0, s88_0_1, s88_0_2, x88_3, r88_1_l, s88_1_0, s88_1_1, s88_1_2, s88_1_3, x88_7, r88_2_l, s88_2_0, s88_2_1, s88_2_2, x88_10, r88_3_l, s88_3_0, s88_3_1, s88_3_2, x88_11, x88_9, x88_13, r88_4_l, s88_4_0, s88_4_1, s88_4_2, s88_4_3, s88_4_4, s88_4_5, s88_4_6, s88_4_7, s88_4_8, x88_16, r88_5_l, s88_5_0, s88_5_1, s88_5_2, x88_17, x88_15, x88_18, x88_14, x88_12, x88_8, x88_6, x88_5, x88_4, x88_2, x88_0, b_88, g0, g1]
          exact ⟨_, rfl⟩
        · have g1 : ¬ (ls.length : Int) > 6 := by omega
          have g2 : (es.length : Int) > 15 := by omega
          rcases hb with ⟨rfl, rfl⟩ | ⟨e2, rfl⟩
          · simp at h6; omega
          · simp (disch := omega) only [seqX_ret, condX_bool, blockX_ret, ↓gd, fset_cons, bodyX_ret, run_nil, run_cons, fget_cons', fput_cons', forget_nil, forget_cons', hget_nil', hget_cons', hset_nil', hset_cons', frame0, gcM_c, stp, opPick, opBox, justO, just, Rd.bind, Rd.run, Rd.opt, upds, acells, zeroCells, tsz, rdCells, fieldOf, aFieldAddr, aLoad, aStore, opStore, resA, resL, fresh, aLen, aBuiltin, aBin, aInt, putC, Nat.reduceAdd, Nat.reduceBEq, Nat.reduceEqDiff, Nat.reduceLeDiff, ↓reduceIte, reduceCtorEq, liveBlk_eq, Nat.zero_add, Nat.add_zero, beq_iff_eq, List.nil_append, List.getElem?_toArray, decide_true, decide_false, partsOf, fillA, putD_some, putD_none, and_true, snaps, List.append_nil, Option.map_some, List.elem_cons, List.elem_nil, List.length_cons, List.length_nil, List.getElem?_cons_zero, List.getElem?_cons_succ, List.drop_zero, List.take_succ_cons, List.take_nil, List.set_cons_zero, List.set_cons_succ, frz_nil, seqN, bindN, regN, snap_nilsl, aBuild, Nat.le_refl, List.not_mem_nil, beq_self_eq_true, Bool.false_eq_true, T_22, T_23, T_25, T_109, beq_self_eq_true, x88_1, r88_0_l, s88_0_0, s88_0_1, s88_0_2, x88_3, r88_1_l, s88_1_0, s88_1_1, s88_1_2, s88_1_3, x88_7, r88_2_l, s88_2_0, s88_2_1, s88_2_2, x88_10, r88_3_l, s88_3_0, s88_3_1, s88_3_2, x88_11, x88_9, x88_13, r88_4_l, s88_4_0, s88_4_1, s88_4_2, s88_4_3, s88_4_4, s88_4_5, s88_4_6, s88_4_7, s88_4_8, x88_16, r88_5_l, s88_5_0, s88_5_1, s88_5_2, x88_17, x88_15, x88_18, x88_14, x88_12, x88_8, x88_6, x88_5, x88_4, x88_2, x88_0, b_88, g0, g1, g2]
            exact ⟨_, rfl⟩
      · have hn : ls.length ≤ 6 := by omega
        have hm : es.length ≤ 15 := by omega
        have g1 : ¬ (ls.length : Int) > 6 := by omega
        have g2 : ¬ (es.length : Int) > 15 := by omega
        have hbs : b = .nilsl ∨ ∃ c m ex, b = .imm c m ex := by
          rcases hb with ⟨rfl, rfl⟩ | ⟨e2, rfl⟩
          · exact .inl rfl
          · exact .inr ⟨_, _, _, rfl⟩
        have hz : (ucs (List.replicate ls.length 0)).length = ls.length := by rw [ucs_length, List.length_replicate]
        have hrep := repC_ucs ls.length
        have hflat : [AV.int .u64 0].all AV.flat = true := rfl
        have hk : (ls.length : Int) ≤ kHi .i64 := by simp only [kHi]; omega
        have hby : ((8 : Nat) : Int) * (ls.length : Int) ≤ 281474976710656 := by omega
        rcases h1_all (C := C) hC.rw_ (ls := ls) (e := e) (b := b) (z := ucs (List.replicate ls.length 0)) rfl hz hn (by omega) hbs with ⟨hE, H', hl1, hl2⟩ | ⟨hE, hl1⟩
        · have hc : chk ls es = ldsE ls := by unfold chk; rw [if_neg hn0, if_neg h6, if_pos hE]
          rw [hc]
          refine ⟨fun _ => ?_, fun h => absurd h hE⟩
          simp only [h1S, List.take_zero, cls_nil, oV, oH, cl0] at hl1
          rcases hb with ⟨rfl, rfl⟩ | ⟨e2, rfl⟩
          · simp (disch := omega) only [seqX_ret, seqX_ite, condX_bool, blockX_normal, blockX_ret, blockX_ite, ↓gd, fset_cons, bodyX_ite, bodyX_ret, run_nil, run_cons, fget_cons', fput_cons', forget_nil, forget_cons', hget_nil', hget_cons', hset_nil', hset_cons', frame0, gcM_c, stp, opPick, opBox, justO, just, Rd.bind, Rd.run, Rd.opt, upds, acells, zeroCells, tsz, elemT, rdCells, fieldOf, aFieldAddr, aLoad, aStore, opStore, resA, resL, fresh, aNum, aLen, aBuiltin, aBin, aInt, putC, evO, Nat.reduceAdd, Nat.reduceLT, Nat.reduceBEq, Nat.reduceEqDiff, Nat.reduceLeDiff, ↓reduceIte, reduceCtorEq, liveBlk_eq, decide_eq_true_eq, Nat.zero_add, Nat.add_zero, ne_eq, beq_iff_eq, List.nil_append, List.getElem?_toArray, Bool.and_true, decide_true, decide_false, not_true_eq_false, or_self, partsOf, fillA, putD_some, putD_none, and_true, true_and, Int.natCast_nonneg, Int.toNat_natCast, snaps, List.append_nil, Option.map_some, List.elem_cons, List.elem_nil, List.length_cons, List.length_nil, List.getElem?_cons_zero, List.getElem?_cons_succ, List.drop_zero, List.take_succ_cons, List.take_nil, List.set_cons_zero, List.set_cons_succ, frz_nil, seqN, bindN, regN, snap_nilsl, snap_ref, aBuild, placeF, Nat.le_refl, Nat.mul_one, List.not_mem_nil, beq_self_eq_true, Nat.lt_irrefl, Bool.false_eq_true, T_22, T_23, T_25, T_107, T_109, T_121, beq_self_eq_true, x88_1, r88_0_l, s88_0_0, s88_0_1, s88_0_2, x88_3, r88_1_l, s88_1_0, s88_1_1, s88_1_2, s88_1_3, x88_7, r88_2_l, s88_2_0, s88_2_1, s88_2_2, x88_10, r88_3_l, s88_3_0, s88_3_1, s88_3_2, x88_11, x88_9, x88_13, r88_4_l, s88_4_0, s88_4_1, s88_4_2, s88_4_3, s88_4_4, s88_4_5, s88_4_6, s88_4_7, s88_4_8, x88_16, r88_5_l, s88_5_0, s88_5_1, s88_5_2, x88_17, x88_15, x88_18, x88_14, x88_12, x88_8, x88_6, x88_5, x88_20, r88_6_l, s88_6_0, s88_6_1, s88_6_2, s88_6_3, s88_6_4, x88_23, r88_7_l, s88_7_0, s88_7_1, s88_7_2, s88_7_3, x88_25, x88_24, x88_22, x88_21, x88_19, x88_4, x88_2, x88_0, b_88, g0, g1, aMake, hrep, hflat, hk, hby, hl1, hl2, if_pos]
            exact ⟨_, rfl⟩
          · simp (disch := omega) only [seqX_ret, condX_bool, blockX_normal, blockX_ret, ↓gd, fset_cons, bodyX_ret, run_nil, run_cons, fget_cons', fput_cons', forget_nil, forget_cons', hget_nil', hget_cons', hset_nil', hset_cons', frame0, gcM_c, stp, opPick, opBox, justO, just, Rd.bind, Rd.run, Rd.opt, upds, acells, zeroCells, tsz, elemT, rdCells, fieldOf, aFieldAddr, aLoad, aStore, opStore, resA, resL, fresh, aNum, aLen, aBuiltin, aBin, aInt, putC, evO, Nat.reduceAdd, Nat.reduceLT, Nat.reduceBEq, Nat.reduceEqDiff, Nat.reduceLeDiff, ↓reduceIte, reduceCtorEq, liveBlk_eq, Nat.zero_add, Nat.add_zero, ne_eq, beq_iff_eq, List.nil_append, List.getElem?_toArray, Bool.and_true, decide_true, decide_false, not_true_eq_false, or_self, partsOf, fillA, putD_some, putD_none, and_true, true_and, Int.natCast_nonneg, Int.toNat_natCast, snaps, List.append_nil, Option.map_some, List.elem_cons, List.elem_nil, List.length_cons, List.length_nil, List.getElem?_cons_zero, List.getElem?_cons_succ, List.drop_zero, List.take_succ_cons, List.take_nil, List.set_cons_zero, List.set_cons_succ, frz_nil, seqN, bindN, regN, snap_nilsl, snap_ref, aBuild, placeF, Nat.le_refl, Nat.mul_one, List.not_mem_nil, beq_self_eq_true, Nat.lt_irrefl, Bool.false_eq_true, T_22, T_23, T_25, T_107, T_109, T_121, beq_self_eq_true, x88_1, r88_0_l, s88_0_0, s88_0_1, s88_0_2, x88_3, r88_1_l, s88_1_0, s88_1_1, s88_1_2, s88_1_3, x88_7, r88_2_l, s88_2_0, s88_2_1, s88_2_2, x88_10, r88_3_l, s88_3_0, s88_3_1, s88_3_2, x88_11, x88_9, x88_13, r88_4_l, s88_4_0, s88_4_1, s88_4_2, s88_4_3, s88_4_4, s88_4_5, s88_4_6, s88_4_7, s88_4_8, x88_16, r88_5_l, s88_5_0, s88_5_1, s88_5_2, x88_17, x88_15, x88_18, x88_14, x88_12, x88_8, x88_6, x88_5, x88_20, r88_6_l, s88_6_0, s88_6_1, s88_6_2, s88_6_3, s88_6_4, x88_23, r88_7_l, s88_7_0, s88_7_1, s88_7_2, s88_7_3, x88_25, x88_24, x88_22, x88_21, x88_19, x88_4, x88_2, x88_0, b_88, g0, g1, g2, aMake, hrep, hflat, hk, hby, hl1, hl2, if_pos]
            exact ⟨_, rfl⟩
        · simp only [h1S, List.take_zero, cls_nil, oV, oH, cl0] at hl1
          have hlen : (cls lc ls).length = ls.length * 5 := cls_length lc_len ls
          rcases hb with ⟨rfl, rfl⟩ | ⟨e2, rfl⟩
          · have hp : prsE ls.length [] = 0 := rfl
            have hl2 := h2_nil (C := C) (ls := ls) (e := e) (n := ls.length)
            have hb0 : ∀ x ∈ List.replicate ls.length 0, x < 2 ^ ls.length := adj_lt (es := []) (by simp)
            have hl4 := h4_all (C := C) (ls := ls) (B := List.replicate ls.length 0) (by simp) hb0 hn (s0 := ([(110, .int .i64 0), (109, .int .i64 ls.length), (5, .ptr 5 0 2), (4, .int .i64 ls.length), (2, .ptr 2 0 2)], h2H ls (.imm (cls lc ls) ls.length e) .nilsl ls.length (List.replicate ls.length 0))) rfl
            have hse : sets ls.length [] = fw ls.length (List.replicate ls.length 0) := rfl
            have hul : (ucs (fw ls.length (List.replicate ls.length 0))).length = ls.length := by rw [ucs_length]; exact fwp_len _ _ _ |>.trans (by simp)
            have hc0 : chk ls [] = if clashB ls.length (sets ls.length []) = true then 13 else 0 := by
              unfold chk; rw [if_neg hn0, if_neg h6, if_neg (by simp [hE]), if_neg (by simp [hp])]
            rw [hc0, hse]
            rcases h5_all (C := C) (ls := ls) (n := ls.length) (B := fw ls.length (List.replicate ls.length 0)) (fwp_len _ _ _ |>.trans (by simp)) (fwp_lt hb0 _ _) hn with ⟨hcl, H', l1, l2⟩ | ⟨hcl, l1⟩
            · rw [hcl]
              refine ⟨fun _ => ?_, fun h => by simp at h⟩
              simp only [h5S, h3H, cl0] at l1
              simp only [h2H, h3H] at hl2 hl4
              generalize fw ls.length (List.replicate ls.length 0) = FB at *
              simp (disch := omega) only [seqX_ret, seqX_ite, condX_bool, blockX_exit, blockX_normal, blockX_ret, blockX_ite, ↓gd, fset_cons, bodyX_ite, bodyX_ret, run_nil, run_cons, fget_cons', fput_cons', forget_nil, forget_cons', hget_nil', hget_cons', hset_nil', hset_cons', frame0, gcM_n, gcM_c, stp, opPick, opBox, justO, just, Rd.bind, Rd.run, Rd.opt, upds, acells, zeroCells, tsz, elemT, rdCells, fieldOf, aFieldAddr, aLoad, aStore, opStore, resA, resL, fresh, aNum, aLen, aBuiltin, aBin, aInt, putC, evO, Nat.reduceAdd, Nat.reduceLT, Nat.reduceBEq, Nat.reduceEqDiff, Nat.reduceLeDiff, ↓reduceIte, reduceCtorEq, liveBlk_eq, decide_eq_true_eq, Nat.zero_add, Nat.add_zero, ne_eq, beq_iff_eq, List.nil_append, List.getElem?_toArray, Bool.and_true, decide_true, decide_false, not_true_eq_false, or_self, partsOf, fillA, putD_some, putD_none, and_true, true_and, Int.natCast_nonneg, Int.toNat_natCast, snaps, List.append_nil, Option.map_some, List.elem_cons, List.elem_nil, List.length_cons, List.length_nil, List.getElem?_cons_zero, List.getElem?_cons_succ, List.drop_zero, List.take_succ_cons, List.take_nil, List.set_cons_zero, List.set_cons_succ, frz_nil, seqN, bindN, regN, snap_nilsl, snap_ref, aBuild, placeF, Nat.le_refl, Nat.mul_one, List.not_mem_nil, beq_self_eq_true, Nat.lt_irrefl, Bool.false_eq_true, T_22, T_23, T_25, T_107, T_109, T_121, beq_self_eq_true, x88_1, r88_0_l, s88_0_0, s88_0_1, s88_0_2, x88_3, r88_1_l, s88_1_0, s88_1_1, s88_1_2, s88_1_3, x88_7, r88_2_l, s88_2_0, s88_2_1, s88_2_2, x88_10, r88_3_l, s88_3_0, s88_3_1, s88_3_2, x88_11, x88_9, x88_13, r88_4_l, s88_4_0, s88_4_1, s88_4_2, s88_4_3, s88_4_4, s88_4_5, s88_4_6, s88_4_7, s88_4_8, x88_16, r88_5_l, s88_5_0, s88_5_1, s88_5_2, x88_17, x88_15, x88_18, x88_14, x88_12, x88_8, x88_6, x88_5, x88_20, r88_6_l, s88_6_0, s88_6_1, s88_6_2, s88_6_3, s88_6_4, x88_23, r88_7_l, s88_7_0, s88_7_1, s88_7_2, s88_7_3, x88_25, x88_24, x88_22, x88_57, r88_17_l, s88_17_0, s88_17_1, s88_17_2, s88_17_3, x88_59, x88_58, x88_56, x88_89, r88_26_l, s88_26_0, s88_26_1, x88_91, x88_90, x88_88, x88_125, r88_36_l, s88_36_0, s88_36_1, s88_36_2, s88_36_3, x88_127, x88_126, x88_124, x88_123, x88_87, x88_55, x88_21, x88_19, x88_4, x88_2, x88_0, b_88, g0, g1, aMake, hrep, hflat, hk, hby, hul, hl1, hl2, hl4, l1, l2, if_pos]
              exact ⟨_, rfl⟩
            · rw [hcl]
              refine ⟨fun h => by simp at h, fun _ => ?_⟩
              simp only [h5S, h3H, cl0] at l1
              simp only [h2H, h3H] at hl2 hl4
              generalize fw ls.length (List.replicate ls.length 0) = FB at *
              simp (disch := omega) only [seqX_ret, seqX_ite, condX_bool, blockX_exit, blockX_normal, blockX_ret, blockX_ite, ↓gd, fset_cons, bodyX_ite, bodyX_ret, run_nil, run_cons, fget_cons', fput_cons', forget_nil, forget_cons', hget_nil', hget_cons', hset_nil', hset_cons', frame0, gcM_n, gcM_c, stp, opPick, opBox, justO, just, Rd.bind, Rd.run, Rd.opt, upds, acells, zeroCells, tsz, elemT, rdCells, fieldOf, aFieldAddr, aLoad, aStore, opStore, resA, resL, fresh, aNum, aLen, aBuiltin, aBin, aInt, putC, evO, Nat.reduceAdd, Nat.reduceLT, Nat.reduceBEq, Nat.reduceEqDiff, Nat.reduceLeDiff, ↓reduceIte, reduceCtorEq, liveBlk_eq, decide_eq_true_eq, Nat.zero_add, Nat.add_zero, ne_eq, beq_iff_eq, List.nil_append, List.getElem?_toArray, Bool.and_true, decide_true, decide_false, not_true_eq_false, or_self, partsOf, fillA, putD_some, putD_none, and_true, true_and, Int.natCast_nonneg, Int.toNat_natCast, snaps, List.append_nil, Option.map_some, List.elem_cons, List.elem_nil, List.length_cons, List.length_nil, List.getElem?_cons_zero, List.getElem?_cons_succ, List.drop_zero, List.take_succ_cons, List.take_nil, List.set_cons_zero, List.set_cons_succ, frz_nil, seqN, bindN, regN, snap_nilsl, snap_ref, aBuild, placeF, Nat.le_refl, Nat.mul_one, List.not_mem_nil, beq_self_eq_true, Nat.lt_irrefl, Bool.false_eq_true, T_22, T_23, T_25, T_107, T_109, T_121, beq_self_eq_true, x88_1, r88_0_l, s88_0_0, s88_0_1, s88_0_2, x88_3, r88_1_l, s88_1_0, s88_1_1, s88_1_2, s88_1_3, x88_7, r88_2_l, s88_2_0, s88_2_1, s88_2_2, x88_10, r88_3_l, s88_3_0, s88_3_1, s88_3_2, x88_11, x88_9, x88_13, r88_4_l, s88_4_0, s88_4_1, s88_4_2, s88_4_3, s88_4_4, s88_4_5, s88_4_6, s88_4_7, s88_4_8, x88_16, r88_5_l, s88_5_0, s88_5_1, s88_5_2, x88_17, x88_15, x88_18, x88_14, x88_12, x88_8, x88_6, x88_5, x88_20, r88_6_l, s88_6_0, s88_6_1, s88_6_2, s88_6_3, s88_6_4, x88_23, r88_7_l, s88_7_0, s88_7_1, s88_7_2, s88_7_3, x88_25, x88_24, x88_22, x88_57, r88_17_l, s88_17_0, s88_17_1, s88_17_2, s88_17_3, x88_59, x88_58, x88_56, x88_89, r88_26_l, s88_26_0, s88_26_1, x88_91, x88_90, x88_88, x88_125, r88_36_l, s88_36_0, s88_36_1, s88_36_2, s88_36_3, x88_127, x88_126, x88_124, x88_147, r88_42_l, s88_42_0, s88_42_1, s88_42_2, x88_148, x88_146, x88_123, x88_87, x88_55, x88_21, x88_19, x88_4, x88_2, x88_0, b_88, g0, g1, aMake, hrep, hflat, hk, hby, hul, hl1, hl2, hl4, l1, if_pos]
              exact ⟨_, rfl, rfl, rfl⟩
          · rcases h2_all hC (ls := ls) (es := es) (e := e) (e2 := e2) rfl hn hm with ⟨hp, H', hl2, hl3⟩ | ⟨hp, hl2⟩
            · have hc : chk ls es = prsE ls.length es := by unfold chk; rw [if_neg hn0, if_neg h6, if_neg (by simp [hE]), if_pos hp]
              rw [hc]
              refine ⟨fun _ => ?_, fun h => absurd h hp⟩
              have hadj : adj ls.length [] = List.replicate ls.length 0 := rfl
              simp only [h2S, h2H, List.take_zero, hadj, cl0] at hl2
              simp (disch := omega) only [seqX_ret, condX_bool, blockX_exit, blockX_normal, blockX_ret, ↓gd, fset_cons, bodyX_ret, run_nil, run_cons, fget_cons', fput_cons', forget_nil, forget_cons', hget_nil', hget_cons', hset_nil', hset_cons', frame0, gcM_c, stp, opPick, opBox, justO, just, Rd.bind, Rd.run, Rd.opt, upds, acells, zeroCells, tsz, elemT, rdCells, fieldOf, aFieldAddr, aLoad, aStore, opStore, resA, resL, fresh, aNum, aLen, aBuiltin, aBin, aInt, putC, evO, Nat.reduceAdd, Nat.reduceLT, Nat.reduceBEq, Nat.reduceEqDiff, Nat.reduceLeDiff, ↓reduceIte, reduceCtorEq, liveBlk_eq, Nat.zero_add, Nat.add_zero, ne_eq, beq_iff_eq, List.nil_append, List.getElem?_toArray, Bool.and_true, decide_true, decide_false, not_true_eq_false, or_self, partsOf, fillA, putD_some, putD_none, and_true, true_and, Int.natCast_nonneg, Int.toNat_natCast, snaps, List.append_nil, Option.map_some, List.elem_cons, List.elem_nil, List.length_cons, List.length_nil, List.getElem?_cons_zero, List.getElem?_cons_succ, List.drop_zero, List.take_succ_cons, List.take_nil, List.set_cons_zero, List.set_cons_succ, frz_nil, seqN, bindN, regN, snap_nilsl, snap_ref, aBuild, placeF, Nat.le_refl, Nat.mul_one, List.not_mem_nil, beq_self_eq_true, Nat.lt_irrefl, Bool.false_eq_true, T_22, T_23, T_25, T_107, T_109, T_121, beq_self_eq_true, x88_1, r88_0_l, s88_0_0, s88_0_1, s88_0_2, x88_3, r88_1_l, s88_1_0, s88_1_1, s88_1_2, s88_1_3, x88_7, r88_2_l, s88_2_0, s88_2_1, s88_2_2, x88_10, r88_3_l, s88_3_0, s88_3_1, s88_3_2, x88_11, x88_9, x88_13, r88_4_l, s88_4_0, s88_4_1, s88_4_2, s88_4_3, s88_4_4, s88_4_5, s88_4_6, s88_4_7, s88_4_8, x88_16, r88_5_l, s88_5_0, s88_5_1, s88_5_2, x88_17, x88_15, x88_18, x88_14, x88_12, x88_8, x88_6, x88_5, x88_20, r88_6_l, s88_6_0, s88_6_1, s88_6_2, s88_6_3, s88_6_4, x88_23, r88_7_l, s88_7_0, s88_7_1, s88_7_2, s88_7_3, x88_25, x88_24, x88_22, x88_57, r88_17_l, s88_17_0, s88_17_1, s88_17_2, s88_17_3, x88_59, x88_58, x88_56, x88_55, x88_21, x88_19, x88_4, x88_2, x88_0, b_88, g0, g1, g2, aMake, hrep, hflat, hk, hby, hl1, hl2, hl3, if_pos]
              exact ⟨_, rfl⟩
            · have hps := prs_ok hp
              have hb0 := adj_lt hps
              have hl4 := h4_all (C := C) (ls := ls) (B := adj ls.length es) (adj_len _ _) hb0 hn (s0 := ([(110, .int .i64 0), (109, .int .i64 ls.length), (5, .ptr 5 0 2), (4, .int .i64 ls.length), (2, .ptr 2 0 2)], h2H ls (.imm (cls lc ls) ls.length e) (.imm (cls bc es) es.length e2) ls.length (adj ls.length es))) rfl
              have hse : sets ls.length es = fw ls.length (adj ls.length es) := rfl
              have hul : (ucs (fw ls.length (adj ls.length es))).length = ls.length := by rw [ucs_length]; exact fwp_len _ _ _ |>.trans (adj_len _ _)
              have hul2 : (ucs (adj ls.length es)).length = ls.length := by rw [ucs_length, adj_len]
              have hc0 : chk ls es = if clashB ls.length (sets ls.length es) = true then 13 else 0 := by
                unfold chk; rw [if_neg hn0, if_neg h6, if_neg (by simp [hE]), if_neg (by simp [hp])]
              rw [hc0, hse]
              have hadj : adj ls.length [] = List.replicate ls.length 0 := rfl
              simp only [h2S, h2H, List.take_zero, hadj, cl0] at hl2
              simp only [h2H, h3H] at hl4
              rcases h5_all (C := C) (ls := ls) (n := ls.length) (B := fw ls.length (adj ls.length es)) (fwp_len _ _ _ |>.trans (adj_len _ _)) (fwp_lt hb0 _ _) hn with ⟨hcl, H', l1, l2⟩ | ⟨hcl, l1⟩
              · rw [hcl]
                refine ⟨fun _ => ?_, fun h => by simp at h⟩
                simp only [h5S, h3H, cl0] at l1
                generalize fw ls.length (adj ls.length es) = FB at *
                simp (disch := omega) only [seqX_ret, condX_bool, blockX_exit, blockX_normal, blockX_ret, ↓gd, fset_cons, bodyX_ret, run_nil, run_cons, fget_cons', fput_cons', forget_nil, forget_cons', hget_nil', hget_cons', hset_nil', hset_cons', frame0, gcM_n, gcM_c, stp, opPick, opBox, justO, just, Rd.bind, Rd.run, Rd.opt, upds, acells, zeroCells, tsz, elemT, rdCells, fieldOf, aFieldAddr, aLoad, aStore, opStore, resA, resL, fresh, aNum, aLen, aBuiltin, aBin, aInt, putC, evO, Nat.reduceAdd, Nat.reduceLT, Nat.reduceBEq, Nat.reduceEqDiff, Nat.reduceLeDiff, ↓reduceIte, reduceCtorEq, liveBlk_eq, Nat.zero_add, Nat.add_zero, ne_eq, beq_iff_eq, List.nil_append, List.getElem?_toArray, Bool.and_true, decide_true, decide_false, not_true_eq_false, or_self, partsOf, fillA, putD_some, putD_none, and_true, true_and, Int.natCast_nonneg, Int.toNat_natCast, snaps, List.append_nil, Option.map_some, List.elem_cons, List.elem_nil, List.length_cons, List.length_nil, List.getElem?_cons_zero, List.getElem?_cons_succ, List.drop_zero, List.take_succ_cons, List.take_nil, List.set_cons_zero, List.set_cons_succ, frz_nil, seqN, bindN, regN, snap_nilsl, snap_ref, aBuild, placeF, Nat.le_refl, Nat.mul_one, List.not_mem_nil, beq_self_eq_true, Nat.lt_irrefl, Bool.false_eq_true, T_22, T_23, T_25, T_107, T_109, T_121, beq_self_eq_true, x88_1, r88_0_l, s88_0_0, s88_0_1, s88_0_2, x88_3, r88_1_l, s88_1_0, s88_1_1, s88_1_2, s88_1_3, x88_7, r88_2_l, s88_2_0, s88_2_1, s88_2_2, x88_10, r88_3_l, s88_3_0, s88_3_1, s88_3_2, x88_11, x88_9, x88_13, r88_4_l, s88_4_0, s88_4_1, s88_4_2, s88_4_3, s88_4_4, s88_4_5, s88_4_6, s88_4_7, s88_4_8, x88_16, r88_5_l, s88_5_0, s88_5_1, s88_5_2, x88_17, x88_15, x88_18, x88_14, x88_12, x88_8, x88_6, x88_5, x88_20, r88_6_l, s88_6_0, s88_6_1, s88_6_2, s88_6_3, s88_6_4, x88_23, r88_7_l, s88_7_0, s88_7_1, s88_7_2, s88_7_3, x88_25, x88_24, x88_22, x88_57, r88_17_l, s88_17_0, s88_17_1, s88_17_2, s88_17_3, x88_59, x88_58, x88_56, x88_89, r88_26_l, s88_26_0, s88_26_1, x88_91, x88_90, x88_88, x88_125, r88_36_l, s88_36_0, s88_36_1, s88_36_2, s88_36_3, x88_127, x88_126, x88_124, x88_123, x88_87, x88_55, x88_21, x88_19, x88_4, x88_2, x88_0, b_88, g0, g1, g2, aMake, hrep, hflat, hk, hby, hul, hl1, hl2, hl4, l1, l2, if_pos]
                exact ⟨_, rfl⟩
              · rw [hcl]
                refine ⟨fun h => by simp at h, fun _ => ?_⟩
                simp only [h5S, h3H, cl0] at l1
                generalize fw ls.length (adj ls.length es) = FB at *
                simp (disch := omega) only [condX_bool, blockX_exit, blockX_normal, ↓gd, fset_cons, bodyX_ret, run_nil, run_cons, fget_cons', fput_cons', forget_nil, forget_cons', hget_nil', hget_cons', hset_nil', hset_cons', frame0, gcM_n, gcM_c, stp, opPick, opBox, justO, just, Rd.bind, Rd.run, Rd.opt, upds, acells, zeroCells, tsz, elemT, rdCells, fieldOf, aFieldAddr, aLoad, aStore, opStore, resA, resL, fresh, aNum, aLen, aBuiltin, aBin, aInt, putC, evO, Nat.reduceAdd, Nat.reduceLT, Nat.reduceBEq, Nat.reduceEqDiff, Nat.reduceLeDiff, ↓reduceIte, reduceCtorEq, liveBlk_eq, Nat.zero_add, Nat.add_zero, ne_eq, beq_iff_eq, List.nil_append, List.getElem?_toArray, Bool.and_true, decide_true, decide_false, not_true_eq_false, or_self, partsOf, fillA, putD_some, putD_none, and_true, true_and, Int.natCast_nonneg, Int.toNat_natCast, snaps, List.append_nil, Option.map_some, List.elem_cons, List.elem_nil, List.length_cons, List.length_nil, List.getElem?_cons_zero, List.getElem?_cons_succ, List.drop_zero, List.take_succ_cons, List.take_nil, List.set_cons_zero, List.set_cons_succ, frz_nil, seqN, bindN, regN, snap_nilsl, snap_ref, aBuild, placeF, Nat.le_refl, Nat.mul_one, List.not_mem_nil, beq_self_eq_true, Nat.lt_irrefl, Bool.false_eq_true, T_22, T_23, T_25, T_107, T_109, T_121, beq_self_eq_true, x88_1, r88_0_l, s88_0_0, s88_0_1, s88_0_2, x88_3, r88_1_l, s88_1_0, s88_1_1, s88_1_2, s88_1_3, x88_7, r88_2_l, s88_2_0, s88_2_1, s88_2_2, x88_10, r88_3_l, s88_3_0, s88_3_1, s88_3_2, x88_11, x88_9, x88_13, r88_4_l, s88_4_0, s88_4_1, s88_4_2, s88_4_3, s88_4_4, s88_4_5, s88_4_6, s88_4_7, s88_4_8, x88_16, r88_5_l, s88_5_0, s88_5_1, s88_5_2, x88_17, x88_15, x88_18, x88_14, x88_12, x88_8, x88_6, x88_5, x88_20, r88_6_l, s88_6_0, s88_6_1, s88_6_2, s88_6_3, s88_6_4, x88_23, r88_7_l, s88_7_0, s88_7_1, s88_7_2, s88_7_3, x88_25, x88_24, x88_22, x88_57, r88_17_l, s88_17_0, s88_17_1, s88_17_2, s88_17_3, x88_59, x88_58, x88_56, x88_89, r88_26_l, s88_26_0, s88_26_1, x88_91, x88_90, x88_88, x88_125, r88_36_l, s88_36_0, s88_36_1, s88_36_2, s88_36_3, x88_127, x88_126, x88_124, x88_147, r88_42_l, s88_42_0, s88_42_1, s88_42_2, x88_148, x88_146, x88_123, x88_87, x88_55, x88_21, x88_19, x88_4, x88_2, x88_0, b_88, g0, g1, g2, aMake, hrep, hflat, hk, hby, hul, hl1, hl2, hl4, l1, if_pos]
                exact ⟨_, rfl, rfl, rfl⟩
theorem aBack_aggref2 {C : Callee} {site : Nat → Nat} {seen : List Nat} {f : FuncId} {args : List AV} {id id' n n' g g' sz sz' : Nat} {cells cells' : List AV} {k : IntKind} {z : Int} {H' : AHeap} (h : C f args [] 0 = some (.tup [.agg [.ref id 0 n n g sz false, .ref id' 0 n' n' g' sz' false], .int k z], H')) (hg : hget H' id = some ⟨.row, cells⟩) (hg' : hget H' id' = some ⟨.row, cells'⟩) (hne : id' ≠ id) (hs : site 1 ≠ site 0) (e1 : cells.length = g) (e2 : cells'.length = g') :
    aBack site true seen (thaw C f args [] 0) = back2 (site 0) (site 1) seen (fun k0 k1 => .tup [.agg [.ref k0 0 n n g sz false, .ref k1 0 n' n' g' sz' false], .int k z]) ⟨.row, cells⟩ ⟨.row, cells'⟩ := by
  subst e1; subst e2
  have hb : ∀ off, (site 1 + off == site 0 + off) = false := fun off => by rw [beq_eq_false_iff_ne]; omega
  simp only [thaw, h, frzRet, aBack, sitesB, aBackAt, imp, imps, hg, hg', hne, hb, List.length_nil, List.length_cons, List.not_mem_nil, List.mem_cons, or_false, not_false_eq_true, and_true, if_true, List.map_cons, List.map_nil, AM.apart, List.elem_cons, List.elem_nil, Bool.not_false, Bool.and_true, AV.leads, AV.leads.leadsL, Bool.or_false, Bool.true_or, Nat.zero_add, back2]
theorem ha_good {d : Nat} {site : Nat → Nat} {seen : List Nat} {ls : List Ld} {es : List Pr} {a b : AV} (ha : SV lc ls a) (hb : SV bc es b) (h : chk ls es = 0) (hs : site 1 ≠ site 0) :
    aBack site true seen (thaw (callA E fg 1000 (d + 3)) 88 [.agg [a, b]] [] 0) =
      back2 (site 0) (site 1) seen (fun k k' => .tup [.agg [.ref k 0 ls.length ls.length (ls.length * 5) 5 false, .ref k' 0 ls.length ls.length ls.length 1 false], .int .i64 0]) ⟨.row, cls lc ls⟩ ⟨.row, ucs (sets ls.length es)⟩ := by
  obtain ⟨H', h1, h2, h3⟩ := (ha_run (haC d) ha hb).2 h
  have := chk_tr h
  exact aBack_aggref2 h1 h2 h3 (by omega) hs (cls_length lc_len ls) (by rw [ucs_length, this.1.b])
theorem rule_call {d : Nat} {site : Nat → Nat} {seen : List Nat} {ls : List Ld} {B : List Nat} {n : Nat} {e1 e2 : Bool} (h : TrOk ls B n) (hT : Ord (bit B)) :
    aBack site true seen (thaw (callA E fg 1000 (d + 6)) 89 [.agg (trA ls B n e1 e2)] [] 0) = back1 (site 0) seen (fun j => .tup [.ref j 0 n n n 1 false, .int .i64 (ruC ls B n)]) ⟨.row, ins (ruO ls B n)⟩ := by
  obtain ⟨H', h1, h2⟩ := rule_run (d := d) (e1 := e1) (e2 := e2) h hT
  have hlen : (ins (ruO ls B n)).length = n := by rw [ins_length, ← ruO_eq h hT, List.length_reverse, rO_len]
  have := aBack_refint (site := site) (seen := seen) (C := callA E fg 1000 (d + 6)) (f := 89) (args := [.agg (trA ls B n e1 e2)]) (id := 37) (n := n) (sz := 1) (k := .i64) (z := ruC ls B n) (cells := ins (ruO ls B n)) (H' := H') (by rw [hlen]; exact h1) h2
  rw [hlen] at this
  exact this
end Go.AM.YtgfnbmfjbjopkaaDoor
end

section
namespace Go.AM.YtgfnbmfjbjopkaaDoor
open Go Go.AM Go.AM.Mule
set_option maxRecDepth 100000
set_option maxHeartbeats 4000000
/-- A caravan, as it is handed: a function's calls of 'harnessed' all the same. -/
theorem sv_snap {α : Type} {f : α → List AV} {l : List α} {a : AV} (h : SV f l a) (n : Nat) : snap (n + 1) a = .pure (a, []) := by
  rcases h with ⟨_, rfl⟩ | ⟨e, rfl⟩ <;> rfl
theorem rule_good {d : Nat} {ls : List Ld} {es : List Pr} {a b : AV} (ha : SV lc ls a) (hb : SV bc es b) (h : chk ls es = 0) :
    ∃ H', bodyA E (callA E fg 1000 (d + 6)) fg 1000 21 [.agg [a, b]] [] 0 = some (.tup [.ref 18 0 ls.length ls.length ls.length 1 false, .int .i64 0], H') ∧ hget H' 18 = some ⟨.row, ins (ruO ls (sets ls.length es) ls.length)⟩ := by
  have hr := fun (site : Nat → Nat) seen hs => ha_good (d := d + 3) (site := site) (seen := seen) ha hb h hs
  obtain ⟨tr, ord, _, _⟩ := chk_tr h
  have hu := fun (site : Nat → Nat) seen => rule_call (d := d) (site := site) (seen := seen) (e1 := false) (e2 := false) tr ord
  have sa := sv_snap ha
  have sb := sv_snap hb
  have hlen : (cls lc ls).length = ls.length * 5 := cls_length lc_len ls
  have hul : (ucs (sets ls.length es)).length = ls.length := by rw [ucs_length, tr.b]
  have hol : (ins (ruO ls (sets ls.length es) ls.length)).length = ls.length := by rw [ins_length, ← ruO_eq tr ord, List.length_reverse, rO_len]
  generalize callA E fg 1000 (d + 6) = C at *
  generalize sets ls.length es = B at *
  have t1 : List.take (ls.length * 5) (cls lc ls) = cls lc ls := cls_take lc_len ls
  have t2 : List.take ls.length (ucs B) = ucs B := List.take_of_length_le (by omega)
  simp (disch := omega) only [condX_bool, bodyX_ret, run_nil, run_cons, fget_cons', fput_nil, fput_cons', forget_nil, forget_cons', hget_nil', hget_cons', hset_nil', hset_cons', frame0, gcM_c, stp, opBox, justO, just, Rd.bind, Rd.run, Rd.opt, upds, acells, zeroCells, tsz, rdCells, aLoad, aStore, opStore, opExtract, resA, resL, fresh, aBin, aInt, putC, Nat.reduceAdd, Nat.reduceMul, Nat.reduceBEq, Nat.reduceEqDiff, Nat.reduceLeDiff, ↓reduceIte, reduceCtorEq, liveBlk_eq, Nat.zero_add, List.nil_append, Bool.and_true, decide_true, putD_some, putD_none, and_true, aCall, snaps, List.append_nil, Option.map_some, List.elem_cons, List.elem_nil, List.length_cons, List.length_nil, List.getElem?_cons_zero, List.getElem?_cons_succ, List.drop_zero, List.take_succ_cons, List.take_nil, List.set_cons_zero, List.set_cons_succ, frz_nil, frz_eq, frzB_row, seqN, bindN, regN, snap_ref, snap_agg, back1_r, back2_r, List.cons_append, Nat.le_refl, Nat.mul_one, Nat.zero_mul, beq_self_eq_true, bne_self_eq_false, Bool.false_eq_true, T_25, T_109, beq_self_eq_true, x21_1, r21_0_l, s21_0_0, s21_0_1, s21_0_2, x21_3, r21_1_l, s21_1_0, s21_1_1, s21_1_2, s21_1_3, s21_1_4, s21_1_5, s21_1_6, s21_1_7, x21_6, r21_2_l, s21_2_0, s21_2_1, x21_9, r21_3_l, s21_3_0, s21_3_1, s21_3_2, x21_10, x21_8, x21_11, x21_7, x21_5, x21_13, r21_4_l, s21_4_0, s21_4_1, s21_4_2, s21_4_3, s21_4_4, s21_4_5, s21_4_6, x21_15, r21_5_l, s21_5_0, s21_5_1, s21_5_2, x21_16, x21_14, x21_12, x21_4, x21_2, x21_0, b_21, sa 196, sb 195, hr, hlen, hul, t1, t2, hu]
  exact ⟨_, rfl, rfl⟩
end Go.AM.YtgfnbmfjbjopkaaDoor
end

section
namespace Go.AM.YtgfnbmfjbjopkaaDoor
open Go Go.AM Go.AM.Mule
set_option maxRecDepth 100000
set_option maxHeartbeats 4000000
theorem shl_lt {i : Nat} (h : i < 6) : 1 <<< i < 64 := by
  have : i = 0 ∨ i = 1 ∨ i = 2 ∨ i = 3 ∨ i = 4 ∨ i = 5 := by omega
  rcases this with e | e | e | e | e | e <;> rw [e] <;> decide
end Go.AM.YtgfnbmfjbjopkaaDoor
end

section
namespace Go.AM
/-- A loop of n rounds, by what holds at its head. -/
theorem iter_inv {f : St → XR} {hd : St → St} {e : Ex} {P : Nat → St → Prop} {Q : St → Prop} (hne : e ≠ .normal) : ∀ (n F k : Nat) (s0 : St), P k (hd s0) → n < F → (∀ i s, k ≤ i → i < k + n → P i s → ∃ s', f s = some (.normal, s') ∧ P (i + 1) (hd s')) → (∀ s, P (k + n) s → ∃ s', f s = some (e, s') ∧ Q s') → ∃ se, iterA f hd F s0 = some (e, se) ∧ Q se
  | 0, F + 1, k, s0, h0, _, _, he => by
    rw [Nat.add_zero] at he
    obtain ⟨s', h1, h2⟩ := he _ h0
    refine ⟨s', ?_, h2⟩
    rw [iterA_succ, h1]
    cases e with
    | normal => exact absurd rfl hne
    | ret => rfl
    | exit i => rfl
  | n + 1, F + 1, k, s0, h0, hF, h, he => by
    obtain ⟨s', h1, h2⟩ := h k _ (Nat.le_refl _) (by omega) h0
    obtain ⟨se, g1, g2⟩ := iter_inv (P := P) (Q := Q) hne n F (k + 1) s' h2 (by omega) (fun i s a b => h i s (by omega) (by omega)) (by rw [show k + 1 + n = k + (n + 1) by omega]; exact he)
    refine ⟨se, ?_, g2⟩
    rw [iterA_succ, h1, seqX_normal]
    exact g1
  | _, 0, _, _, _, hF, _, _ => absurd hF (by omega)
end Go.AM
namespace Go.AM.YtgfnbmfjbjopkaaDoor
open Go Go.AM Go.AM.Mule
set_option maxRecDepth 100000
set_option maxHeartbeats 4000000
end Go.AM.YtgfnbmfjbjopkaaDoor
end

section
namespace Go.AM.YtgfnbmfjbjopkaaDoor
open Go Go.AM
set_option maxRecDepth 100000
variable {C : Callee} {B N : Nat} {E0 : AHeap} (φ : AFr) (H : AHeap) (s : St)
noncomputable def c40_0 : Code := kBody Proofs.Tryd.f40
noncomputable def c40_1 : Code := kL c40_0
noncomputable def r40_0 : Array Oper := kO c40_1
noncomputable def o40_0_0 : Oper := opN r40_0 0
noncomputable def o40_0_1 : Oper := opN r40_0 1
theorem x40_1 : execA E C (fg 40) B 109 E0 N c40_1 s = regX (runA E C B 109 r40_0 r40_0.toList s) (fun s => gcM E0 [0] (forget s.1 [0], s.2)) := x_reg (ops := r40_0) (by rfl) (by rfl) s
theorem r40_0_l : r40_0.toList = [o40_0_0, o40_0_1] := nrfl rfl
theorem s40_0_0 : stepA E C B 109 r40_0 o40_0_0 (φ, H) = stp (some 2) φ H (opBox (B + 2) (acells (fget φ 0))) := nrfl rfl
theorem s40_0_1 : stepA E C B 109 r40_0 o40_0_1 (φ, H) = stp (some 4) φ H (opBox (B + 4) (zeroCells E.T 25)) := nrfl rfl
noncomputable def c40_2 : Code := kR c40_0
noncomputable def c40_3 : Code := kL c40_2
noncomputable def r40_1 : Array Oper := kO c40_3
noncomputable def o40_1_0 : Oper := opN r40_1 0
theorem x40_3 : execA E C (fg 40) B 109 E0 N c40_3 s = regX (runA E C B 109 r40_1 r40_1.toList s) (fun s => gcM E0 [] (forget s.1 [], s.2)) := x_reg (ops := r40_1) (by rfl) (by rfl) s
theorem r40_1_l : r40_1.toList = [o40_1_0] := nrfl rfl
theorem s40_1_0 : stepA E C B 109 r40_1 o40_1_0 (φ, H) = stp (some 5) φ H (opBox (B + 5) (zeroCells E.T 25)) := nrfl rfl
noncomputable def c40_4 : Code := kR c40_2
noncomputable def c40_5 : Code := kL c40_4
noncomputable def c40_6 : Code := kL c40_5
noncomputable def r40_2 : Array Oper := kO c40_6
noncomputable def o40_2_0 : Oper := opN r40_2 0
noncomputable def o40_2_1 : Oper := opN r40_2 1
noncomputable def o40_2_2 : Oper := opN r40_2 2
noncomputable def o40_2_3 : Oper := opN r40_2 3
noncomputable def o40_2_4 : Oper := opN r40_2 4
noncomputable def o40_2_5 : Oper := opN r40_2 5
noncomputable def o40_2_6 : Oper := opN r40_2 6
noncomputable def o40_2_7 : Oper := opN r40_2 7
noncomputable def o40_2_8 : Oper := opN r40_2 8
noncomputable def o40_2_9 : Oper := opN r40_2 9
theorem x40_6 : execA E C (fg 40) B 109 E0 N c40_6 s = regX (runA E C B 109 r40_2 r40_2.toList s) (fun s => gcM E0 [1, 14, 15, 16, 17, 18, 19, 20] (forget s.1 [1, 14, 15, 16, 17, 18, 19, 20], s.2)) := x_reg (ops := r40_2) (by rfl) (by rfl) s
theorem r40_2_l : r40_2.toList = [o40_2_0, o40_2_1, o40_2_2, o40_2_3, o40_2_4, o40_2_5, o40_2_6, o40_2_7, o40_2_8, o40_2_9] := nrfl rfl
theorem s40_2_0 : stepA E C B 109 r40_2 o40_2_0 (φ, H) = stp (some 14) φ H (just (aFieldAddr E.T 58 (fget φ 2) 1)) := nrfl rfl
theorem s40_2_1 : stepA E C B 109 r40_2 o40_2_1 (φ, H) = stp (some 15) φ H (just (aFieldAddr E.T 58 (fget φ 2) 0)) := nrfl rfl
theorem s40_2_2 : stepA E C B 109 r40_2 o40_2_2 (φ, H) = stp (some 16) φ H (just (aLoad E.T 5 (fget φ 15))) := nrfl rfl
theorem s40_2_3 : stepA E C B 109 r40_2 o40_2_3 (φ, H) = stp (some 17) φ H (justO (aConv E.T 5 3 (fget φ 16))) := nrfl rfl
theorem s40_2_4 : stepA E C B 109 r40_2 o40_2_4 (φ, H) = some (fput φ 18 (fget φ 1), H) := nrfl rfl
theorem s40_2_5 : stepA E C B 109 r40_2 o40_2_5 (φ, H) = stp (some 19) φ H (just (aBin E.T .rem 3 (fget φ 17) (fget φ 18))) := nrfl rfl
theorem s40_2_6 : stepA E C B 109 r40_2 o40_2_6 (φ, H) = stp (some 20) φ H (just (aBin E.T .add 3 (.int .i64 1) (fget φ 19))) := nrfl rfl
theorem s40_2_7 : stepA E C B 109 r40_2 o40_2_7 (φ, H) = stp (some 21) φ H (just (aSlice E.T 54 (fget φ 14) none (some (fget φ 20)) none)) := nrfl rfl
theorem s40_2_8 : stepA E C B 109 r40_2 o40_2_8 (φ, H) = stp (some 22) φ H (aBuiltin E.T (B + 22) .len #[135] [(fget φ 21)]) := nrfl rfl
theorem s40_2_9 : stepA E C B 109 r40_2 o40_2_9 (φ, H) = some (fput φ 23 (.int .i64 0), H) := nrfl rfl
noncomputable def c40_7 : Code := kR c40_5
noncomputable def c40_8 : Code := kB c40_7
noncomputable def c40_9 : Code := kB c40_8
noncomputable def c40_10 : Code := kL c40_9
noncomputable def r40_3 : Array Oper := kO c40_10
noncomputable def o40_3_0 : Oper := opN r40_3 0
theorem x40_10 : execA E C (fg 40) B 109 E0 N c40_10 s = regX (runA E C B 109 r40_3 r40_3.toList s) (fun s => gcM E0 [] (forget s.1 [], s.2)) := x_reg (ops := r40_3) (by rfl) (by rfl) s
theorem r40_3_l : r40_3.toList = [o40_3_0] := nrfl rfl
theorem s40_3_0 : stepA E C B 109 r40_3 o40_3_0 (φ, H) = stp (some 24) φ H (just (aBin E.T .lss 3 (fget φ 23) (fget φ 22))) := nrfl rfl
noncomputable def c40_11 : Code := kR c40_9
noncomputable def c40_12 : Code := kL c40_11
noncomputable def c40_13 : Code := kT c40_12
theorem x40_13 : execA E C (fg 40) B 109 E0 N c40_13 s = some (.normal, s) := x_skip (by rfl) s
noncomputable def c40_14 : Code := kE c40_12
theorem x40_14 : execA E C (fg 40) B 109 E0 N c40_14 s = some (.exit 0, s) := x_exit (by rfl) s
theorem x40_12 : execA E C (fg 40) B 109 E0 N c40_12 (φ, H) = condX (fget φ 24) (execA E C (fg 40) B 109 E0 N c40_13 (φ, H)) (execA E C (fg 40) B 109 E0 N c40_14 (φ, H)) := x_cond (by rfl) _
noncomputable def c40_15 : Code := kR c40_11
noncomputable def c40_16 : Code := kL c40_15
noncomputable def c40_17 : Code := kB c40_16
noncomputable def c40_18 : Code := kL c40_17
noncomputable def r40_4 : Array Oper := kO c40_18
noncomputable def o40_4_0 : Oper := opN r40_4 0
noncomputable def o40_4_1 : Oper := opN r40_4 1
noncomputable def o40_4_2 : Oper := opN r40_4 2
noncomputable def o40_4_3 : Oper := opN r40_4 3
theorem x40_18 : execA E C (fg 40) B 109 E0 N c40_18 s = regX (runA E C B 109 r40_4 r40_4.toList s) (fun s => gcM E0 [24, 25, 26] (forget s.1 [24, 25, 26], s.2)) := x_reg (ops := r40_4) (by rfl) (by rfl) s
theorem r40_4_l : r40_4.toList = [o40_4_0, o40_4_1, o40_4_2, o40_4_3] := nrfl rfl
theorem s40_4_0 : stepA E C B 109 r40_4 o40_4_0 (φ, H) = stp (some 25) φ H (just (aIndexAddr E.T 135 (fget φ 21) (fget φ 23))) := nrfl rfl
theorem s40_4_1 : stepA E C B 109 r40_4 o40_4_1 (φ, H) = stp (some 26) φ H (just (aLoad E.T 53 (fget φ 25))) := nrfl rfl
theorem s40_4_2 : stepA E C B 109 r40_4 o40_4_2 (φ, H) = stp (some 7) φ H (opBox (B + 7) (zeroCells E.T 53)) := nrfl rfl
theorem s40_4_3 : stepA E C B 109 r40_4 o40_4_3 (φ, H) = stp none φ H (opStore E.T 53 (fget φ 7) (fget φ 26)) := nrfl rfl
noncomputable def c40_19 : Code := kR c40_17
noncomputable def c40_20 : Code := kL c40_19
noncomputable def r40_5 : Array Oper := kO c40_20
noncomputable def o40_5_0 : Oper := opN r40_5 0
noncomputable def o40_5_1 : Oper := opN r40_5 1
noncomputable def o40_5_2 : Oper := opN r40_5 2
noncomputable def o40_5_3 : Oper := opN r40_5 3
noncomputable def o40_5_4 : Oper := opN r40_5 4
noncomputable def o40_5_5 : Oper := opN r40_5 5
noncomputable def o40_5_6 : Oper := opN r40_5 6
noncomputable def o40_5_7 : Oper := opN r40_5 7
noncomputable def o40_5_8 : Oper := opN r40_5 8
noncomputable def o40_5_9 : Oper := opN r40_5 9
noncomputable def o40_5_10 : Oper := opN r40_5 10
noncomputable def o40_5_11 : Oper := opN r40_5 11
noncomputable def o40_5_12 : Oper := opN r40_5 12
noncomputable def o40_5_13 : Oper := opN r40_5 13
noncomputable def o40_5_14 : Oper := opN r40_5 14
noncomputable def o40_5_15 : Oper := opN r40_5 15
noncomputable def o40_5_16 : Oper := opN r40_5 16
noncomputable def o40_5_17 : Oper := opN r40_5 17
noncomputable def o40_5_18 : Oper := opN r40_5 18
noncomputable def o40_5_19 : Oper := opN r40_5 19
theorem x40_20 : execA E C (fg 40) B 109 E0 N c40_20 s = regX (runA E C B 109 r40_5 r40_5.toList s) (fun s => gcM E0 [27, 28, 29, 30, 31, 32, 33, 34, 35, 36, 37, 38, 39, 40, 41, 42, 43, 44] (forget s.1 [27, 28, 29, 30, 31, 32, 33, 34, 35, 36, 37, 38, 39, 40, 41, 42, 43, 44], s.2)) := x_reg (ops := r40_5) (by rfl) (by rfl) s
theorem r40_5_l : r40_5.toList = [o40_5_0, o40_5_1, o40_5_2, o40_5_3, o40_5_4, o40_5_5, o40_5_6, o40_5_7, o40_5_8, o40_5_9, o40_5_10, o40_5_11, o40_5_12, o40_5_13, o40_5_14, o40_5_15, o40_5_16, o40_5_17, o40_5_18, o40_5_19] := nrfl rfl
theorem s40_5_0 : stepA E C B 109 r40_5 o40_5_0 (φ, H) = stp (some 27) φ H (just (aIndexAddr E.T 53 (fget φ 7) (.int .i64 0))) := nrfl rfl
theorem s40_5_1 : stepA E C B 109 r40_5 o40_5_1 (φ, H) = stp (some 28) φ H (just (aLoad E.T 5 (fget φ 27))) := nrfl rfl
theorem s40_5_2 : stepA E C B 109 r40_5 o40_5_2 (φ, H) = stp (some 29) φ H (justO (aConv E.T 5 3 (fget φ 28))) := nrfl rfl
theorem s40_5_3 : stepA E C B 109 r40_5 o40_5_3 (φ, H) = stp (some 30) φ H (just (aBin E.T .rem 3 (fget φ 29) (.int .i64 9))) := nrfl rfl
theorem s40_5_4 : stepA E C B 109 r40_5 o40_5_4 (φ, H) = stp (some 31) φ H (just (aBin E.T .add 3 (.int .i64 1) (fget φ 30))) := nrfl rfl
theorem s40_5_5 : stepA E C B 109 r40_5 o40_5_5 (φ, H) = stp (some 32) φ H (just (aIndexAddr E.T 53 (fget φ 7) (.int .i64 2))) := nrfl rfl
theorem s40_5_6 : stepA E C B 109 r40_5 o40_5_6 (φ, H) = stp (some 33) φ H (just (aLoad E.T 5 (fget φ 32))) := nrfl rfl
theorem s40_5_7 : stepA E C B 109 r40_5 o40_5_7 (φ, H) = stp (some 34) φ H (justO (aConv E.T 5 3 (fget φ 33))) := nrfl rfl
theorem s40_5_8 : stepA E C B 109 r40_5 o40_5_8 (φ, H) = stp (some 35) φ H (just (aBin E.T .rem 3 (fget φ 34) (.int .i64 30))) := nrfl rfl
theorem s40_5_9 : stepA E C B 109 r40_5 o40_5_9 (φ, H) = stp (some 36) φ H (just (aIndexAddr E.T 53 (fget φ 7) (.int .i64 3))) := nrfl rfl
theorem s40_5_10 : stepA E C B 109 r40_5 o40_5_10 (φ, H) = stp (some 37) φ H (just (aLoad E.T 5 (fget φ 36))) := nrfl rfl
theorem s40_5_11 : stepA E C B 109 r40_5 o40_5_11 (φ, H) = stp (some 38) φ H (justO (aConv E.T 5 3 (fget φ 37))) := nrfl rfl
theorem s40_5_12 : stepA E C B 109 r40_5 o40_5_12 (φ, H) = stp (some 39) φ H (just (aBin E.T .rem 3 (fget φ 38) (.int .i64 6))) := nrfl rfl
theorem s40_5_13 : stepA E C B 109 r40_5 o40_5_13 (φ, H) = stp (some 40) φ H (just (aIndexAddr E.T 53 (fget φ 7) (.int .i64 4))) := nrfl rfl
theorem s40_5_14 : stepA E C B 109 r40_5 o40_5_14 (φ, H) = stp (some 41) φ H (just (aLoad E.T 5 (fget φ 40))) := nrfl rfl
theorem s40_5_15 : stepA E C B 109 r40_5 o40_5_15 (φ, H) = stp (some 42) φ H (justO (aConv E.T 5 3 (fget φ 41))) := nrfl rfl
theorem s40_5_16 : stepA E C B 109 r40_5 o40_5_16 (φ, H) = stp (some 43) φ H (just (aBin E.T .rem 3 (fget φ 42) (.int .i64 8))) := nrfl rfl
theorem s40_5_17 : stepA E C B 109 r40_5 o40_5_17 (φ, H) = stp (some 44) φ H (justO (aBuild E.T 62 (evO E φ) [(0, Operand.tmp 31), (2, Operand.tmp 35), (3, Operand.tmp 39), (4, Operand.tmp 43)])) := nrfl rfl
theorem s40_5_18 : stepA E C B 109 r40_5 o40_5_18 (φ, H) = stp (some 8) φ H (opBox (B + 8) (zeroCells E.T 62)) := nrfl rfl
theorem s40_5_19 : stepA E C B 109 r40_5 o40_5_19 (φ, H) = stp none φ H (opStore E.T 62 (fget φ 8) (fget φ 44)) := nrfl rfl
noncomputable def c40_21 : Code := kR c40_19
noncomputable def c40_22 : Code := kL c40_21
noncomputable def r40_6 : Array Oper := kO c40_22
noncomputable def o40_6_0 : Oper := opN r40_6 0
noncomputable def o40_6_1 : Oper := opN r40_6 1
noncomputable def o40_6_2 : Oper := opN r40_6 2
noncomputable def o40_6_3 : Oper := opN r40_6 3
noncomputable def o40_6_4 : Oper := opN r40_6 4
noncomputable def o40_6_5 : Oper := opN r40_6 5
noncomputable def o40_6_6 : Oper := opN r40_6 6
noncomputable def o40_6_7 : Oper := opN r40_6 7
noncomputable def o40_6_8 : Oper := opN r40_6 8
noncomputable def o40_6_9 : Oper := opN r40_6 9
noncomputable def o40_6_10 : Oper := opN r40_6 10
noncomputable def o40_6_11 : Oper := opN r40_6 11
theorem x40_22 : execA E C (fg 40) B 109 E0 N c40_22 s = regX (drawA E C B 109 r40_6 s) (fun s => gcM E0 [7, 45, 46, 47, 48, 49, 50, 51, 52, 53, 54, 55] (forget s.1 [7, 45, 46, 47, 48, 49, 50, 51, 52, 53, 54, 55], s.2)) := x_draw (ops := r40_6) (by rfl) (by rfl) s
theorem r40_6_l : r40_6.toList = [o40_6_0, o40_6_1, o40_6_2, o40_6_3, o40_6_4, o40_6_5, o40_6_6, o40_6_7, o40_6_8, o40_6_9, o40_6_10, o40_6_11] := nrfl rfl
theorem r40_6_st : statOk r40_6 = true := by kernel_rfl
theorem r40_6_dr : drawA E C B 109 r40_6 s = if neat 109 s = true then drX r40_6 (runT E C B 109 r40_6 r40_6.toList 0 s) else none := draw_eq r40_6_st s
theorem r40_6_an (l : List (Nat × Tr)) : dynOk r40_6 l = (!writing l || dynPairs [[], [0], [], [2], [2, 3], [], [5], [5, 6], [2, 3, 4, 5, 6, 7], [0, 1, 2, 3, 4, 5, 6, 7, 8], [0, 1, 2, 3, 4, 5, 6, 7, 8, 9], [0, 1, 2, 3, 4, 5, 6, 7, 8, 9, 10]] (touching l)) := dynOk_eq (by kernel_rfl) l
theorem s40_6_0 : stepT E C B 109 r40_6 o40_6_0 (φ, H) = stpT (some 45) φ H (just (aFieldAddr E.T 62 (fget φ 8) 0)) := stT_go rfl (goT_R rfl rfl)
theorem s40_6_1 : stepT E C B 109 r40_6 o40_6_1 (φ, H) = stpT (some 46) φ H (just (aLoad E.T 3 (fget φ 45))) := stT_go rfl (goT_R rfl rfl)
theorem s40_6_2 : stepT E C B 109 r40_6 o40_6_2 (φ, H) = stpT (some 47) φ H (just (aIndexAddr E.T 53 (fget φ 7) (.int .i64 1))) := stT_go rfl (goT_R rfl rfl)
theorem s40_6_3 : stepT E C B 109 r40_6 o40_6_3 (φ, H) = stpT (some 48) φ H (just (aLoad E.T 5 (fget φ 47))) := stT_go rfl (goT_R rfl rfl)
theorem s40_6_4 : stepT E C B 109 r40_6 o40_6_4 (φ, H) = stpT (some 49) φ H (justO (aConv E.T 5 3 (fget φ 48))) := stT_go rfl (goT_R rfl rfl)
theorem s40_6_5 : stepT E C B 109 r40_6 o40_6_5 (φ, H) = stpT (some 50) φ H (just (aFieldAddr E.T 62 (fget φ 8) 0)) := stT_go rfl (goT_R rfl rfl)
theorem s40_6_6 : stepT E C B 109 r40_6 o40_6_6 (φ, H) = stpT (some 51) φ H (just (aLoad E.T 3 (fget φ 50))) := stT_go rfl (goT_R rfl rfl)
theorem s40_6_7 : stepT E C B 109 r40_6 o40_6_7 (φ, H) = stpT (some 52) φ H (just (aBin E.T .sub 3 (.int .i64 10) (fget φ 51))) := stT_go rfl (goT_R rfl rfl)
theorem s40_6_8 : stepT E C B 109 r40_6 o40_6_8 (φ, H) = stpT (some 53) φ H (just (aBin E.T .rem 3 (fget φ 49) (fget φ 52))) := stT_go rfl (goT_R rfl rfl)
theorem s40_6_9 : stepT E C B 109 r40_6 o40_6_9 (φ, H) = stpT (some 54) φ H (just (aBin E.T .add 3 (fget φ 46) (fget φ 53))) := stT_go rfl (goT_R rfl rfl)
theorem s40_6_10 : stepT E C B 109 r40_6 o40_6_10 (φ, H) = stpT (some 55) φ H (just (aFieldAddr E.T 62 (fget φ 8) 1)) := stT_go rfl (goT_R rfl rfl)
theorem s40_6_11 : stepT E C B 109 r40_6 o40_6_11 (φ, H) = stpT none φ H (opStore E.T 3 (fget φ 55) (fget φ 54)) := stT_go rfl (goT_R rfl rfl)
noncomputable def c40_23 : Code := kR c40_21
noncomputable def r40_7 : Array Oper := kO c40_23
noncomputable def o40_7_0 : Oper := opN r40_7 0
noncomputable def o40_7_1 : Oper := opN r40_7 1
noncomputable def o40_7_2 : Oper := opN r40_7 2
noncomputable def o40_7_3 : Oper := opN r40_7 3
noncomputable def o40_7_4 : Oper := opN r40_7 4
noncomputable def o40_7_5 : Oper := opN r40_7 5
noncomputable def o40_7_6 : Oper := opN r40_7 6
theorem x40_23 : execA E C (fg 40) B 109 E0 N c40_23 s = regX (runA E C B 109 r40_7 r40_7.toList s) (fun s => gcM E0 [8, 56, 57, 58, 59, 60, 61] (forget s.1 [8, 56, 57, 58, 59, 60, 61], s.2)) := x_reg (ops := r40_7) (by rfl) (by rfl) s
theorem r40_7_l : r40_7.toList = [o40_7_0, o40_7_1, o40_7_2, o40_7_3, o40_7_4, o40_7_5, o40_7_6] := nrfl rfl
theorem s40_7_0 : stepA E C B 109 r40_7 o40_7_0 (φ, H) = stp (some 56) φ H (just (aFieldAddr E.T 25 (fget φ 5) 0)) := nrfl rfl
theorem s40_7_1 : stepA E C B 109 r40_7 o40_7_1 (φ, H) = stp (some 57) φ H (just (aLoad E.T 22 (fget φ 56))) := nrfl rfl
theorem s40_7_2 : stepA E C B 109 r40_7 o40_7_2 (φ, H) = stp (some 58) φ H (just (aLoad E.T 62 (fget φ 8))) := nrfl rfl
theorem s40_7_3 : stepA E C B 109 r40_7 o40_7_3 (φ, H) = stp (some 59) φ H (aBuildSlice E.T (B + 59) 22 1 (evO E φ) [(0, Operand.tmp 58)]) := nrfl rfl
theorem s40_7_4 : stepA E C B 109 r40_7 o40_7_4 (φ, H) = stp (some 60) φ H (aBuiltin E.T (B + 60) .append #[22, 22] [(fget φ 57), (fget φ 59)]) := nrfl rfl
theorem s40_7_5 : stepA E C B 109 r40_7 o40_7_5 (φ, H) = stp (some 61) φ H (just (aFieldAddr E.T 25 (fget φ 5) 0)) := nrfl rfl
theorem s40_7_6 : stepA E C B 109 r40_7 o40_7_6 (φ, H) = stp none φ H (opStore E.T 22 (fget φ 61) (fget φ 60)) := nrfl rfl
theorem x40_21 : execA E C (fg 40) B 109 E0 N c40_21 s = seqX (execA E C (fg 40) B 109 E0 N c40_22 s) (execA E C (fg 40) B 109 E0 N c40_23) := x_seq (by rfl) s
theorem x40_19 : execA E C (fg 40) B 109 E0 N c40_19 s = seqX (execA E C (fg 40) B 109 E0 N c40_20 s) (execA E C (fg 40) B 109 E0 N c40_21) := x_seq (by rfl) s
theorem x40_17 : execA E C (fg 40) B 109 E0 N c40_17 s = seqX (execA E C (fg 40) B 109 E0 N c40_18 s) (execA E C (fg 40) B 109 E0 N c40_19) := x_seq (by rfl) s
theorem x40_16 : execA E C (fg 40) B 109 E0 N c40_16 s = blockX 1 (fun s => (forget s.1 [], s.2)) (execA E C (fg 40) B 109 E0 N c40_17 s) := x_block (by rfl) (by rfl) s
noncomputable def c40_24 : Code := kR c40_15
noncomputable def r40_8 : Array Oper := kO c40_24
noncomputable def o40_8_0 : Oper := opN r40_8 0
noncomputable def o40_8_1 : Oper := opN r40_8 1
theorem x40_24 : execA E C (fg 40) B 109 E0 N c40_24 s = regX (runA E C B 109 r40_8 r40_8.toList s) (fun s => gcM E0 [62] (forget s.1 [62], s.2)) := x_reg (ops := r40_8) (by rfl) (by rfl) s
theorem r40_8_l : r40_8.toList = [o40_8_0, o40_8_1] := nrfl rfl
theorem s40_8_0 : stepA E C B 109 r40_8 o40_8_0 (φ, H) = stp (some 62) φ H (just (aBin E.T .add 3 (fget φ 23) (.int .i64 1))) := nrfl rfl
theorem s40_8_1 : stepA E C B 109 r40_8 o40_8_1 (φ, H) = some (fput φ 23 (fget φ 62), H) := nrfl rfl
theorem x40_15 : execA E C (fg 40) B 109 E0 N c40_15 s = seqX (execA E C (fg 40) B 109 E0 N c40_16 s) (execA E C (fg 40) B 109 E0 N c40_24) := x_seq (by rfl) s
theorem x40_11 : execA E C (fg 40) B 109 E0 N c40_11 s = seqX (execA E C (fg 40) B 109 E0 N c40_12 s) (execA E C (fg 40) B 109 E0 N c40_15) := x_seq (by rfl) s
theorem x40_9 : execA E C (fg 40) B 109 E0 N c40_9 s = seqX (execA E C (fg 40) B 109 E0 N c40_10 s) (execA E C (fg 40) B 109 E0 N c40_11) := x_seq (by rfl) s
theorem x40_8 : execA E C (fg 40) B 109 E0 N c40_8 s = iterA (execA E C (fg 40) B 109 E0 N c40_9) (headA E0) N s := x_loop (by rfl) s
theorem x40_7 : execA E C (fg 40) B 109 E0 N c40_7 s = blockX 0 (fun s => (forget s.1 [21, 22, 23, 24], s.2)) (execA E C (fg 40) B 109 E0 N c40_8 s) := x_block (by rfl) (by rfl) s
theorem x40_5 : execA E C (fg 40) B 109 E0 N c40_5 s = seqX (execA E C (fg 40) B 109 E0 N c40_6 s) (execA E C (fg 40) B 109 E0 N c40_7) := x_seq (by rfl) s
noncomputable def c40_25 : Code := kR c40_4
noncomputable def c40_26 : Code := kL c40_25
noncomputable def r40_9 : Array Oper := kO c40_26
noncomputable def o40_9_0 : Oper := opN r40_9 0
noncomputable def o40_9_1 : Oper := opN r40_9 1
noncomputable def o40_9_2 : Oper := opN r40_9 2
noncomputable def o40_9_3 : Oper := opN r40_9 3
theorem x40_26 : execA E C (fg 40) B 109 E0 N c40_26 s = regX (runA E C B 109 r40_9 r40_9.toList s) (fun s => gcM E0 [63, 64, 65] (forget s.1 [63, 64, 65], s.2)) := x_reg (ops := r40_9) (by rfl) (by rfl) s
theorem r40_9_l : r40_9.toList = [o40_9_0, o40_9_1, o40_9_2, o40_9_3] := nrfl rfl
theorem s40_9_0 : stepA E C B 109 r40_9 o40_9_0 (φ, H) = stp (some 63) φ H (just (aFieldAddr E.T 25 (fget φ 5) 0)) := nrfl rfl
theorem s40_9_1 : stepA E C B 109 r40_9 o40_9_1 (φ, H) = stp (some 64) φ H (just (aLoad E.T 22 (fget φ 63))) := nrfl rfl
theorem s40_9_2 : stepA E C B 109 r40_9 o40_9_2 (φ, H) = stp (some 65) φ H (aBuiltin E.T (B + 65) .len #[22] [(fget φ 64)]) := nrfl rfl
theorem s40_9_3 : stepA E C B 109 r40_9 o40_9_3 (φ, H) = some (fput φ 9 (fget φ 65), H) := nrfl rfl
noncomputable def c40_27 : Code := kR c40_25
noncomputable def c40_28 : Code := kL c40_27
noncomputable def r40_10 : Array Oper := kO c40_28
noncomputable def o40_10_0 : Oper := opN r40_10 0
noncomputable def o40_10_1 : Oper := opN r40_10 1
theorem x40_28 : execA E C (fg 40) B 109 E0 N c40_28 s = regX (runA E C B 109 r40_10 r40_10.toList s) (fun s => gcM E0 [66] (forget s.1 [66], s.2)) := x_reg (ops := r40_10) (by rfl) (by rfl) s
theorem r40_10_l : r40_10.toList = [o40_10_0, o40_10_1] := nrfl rfl
theorem s40_10_0 : stepA E C B 109 r40_10 o40_10_0 (φ, H) = stp (some 66) φ H (.pure (.clo 111 [(fget φ 2)], [])) := nrfl rfl
theorem s40_10_1 : stepA E C B 109 r40_10 o40_10_1 (φ, H) = some (fput φ 10 (fget φ 66), H) := nrfl rfl
noncomputable def c40_29 : Code := kR c40_27
noncomputable def c40_30 : Code := kL c40_29
noncomputable def r40_11 : Array Oper := kO c40_30
noncomputable def o40_11_0 : Oper := opN r40_11 0
theorem x40_30 : execA E C (fg 40) B 109 E0 N c40_30 s = regX (runA E C B 109 r40_11 r40_11.toList s) (fun s => gcM E0 [] (forget s.1 [], s.2)) := x_reg (ops := r40_11) (by rfl) (by rfl) s
theorem r40_11_l : r40_11.toList = [o40_11_0] := nrfl rfl
theorem s40_11_0 : stepA E C B 109 r40_11 o40_11_0 (φ, H) = some (fput φ 11 (.int .i64 0), H) := nrfl rfl
noncomputable def c40_31 : Code := kR c40_29
noncomputable def c40_32 : Code := kL c40_31
noncomputable def c40_33 : Code := kL c40_32
noncomputable def r40_12 : Array Oper := kO c40_33
noncomputable def o40_12_0 : Oper := opN r40_12 0
noncomputable def o40_12_1 : Oper := opN r40_12 1
theorem x40_33 : execA E C (fg 40) B 109 E0 N c40_33 s = regX (runA E C B 109 r40_12 r40_12.toList s) (fun s => gcM E0 [9] (forget s.1 [9], s.2)) := x_reg (ops := r40_12) (by rfl) (by rfl) s
theorem r40_12_l : r40_12.toList = [o40_12_0, o40_12_1] := nrfl rfl
theorem s40_12_0 : stepA E C B 109 r40_12 o40_12_0 (φ, H) = some (fput φ 67 (fget φ 9), H) := nrfl rfl
theorem s40_12_1 : stepA E C B 109 r40_12 o40_12_1 (φ, H) = some (fput φ 68 (.int .i64 0), H) := nrfl rfl
noncomputable def c40_34 : Code := kR c40_32
noncomputable def c40_35 : Code := kB c40_34
noncomputable def c40_36 : Code := kB c40_35
noncomputable def c40_37 : Code := kL c40_36
noncomputable def r40_13 : Array Oper := kO c40_37
noncomputable def o40_13_0 : Oper := opN r40_13 0
theorem x40_37 : execA E C (fg 40) B 109 E0 N c40_37 s = regX (runA E C B 109 r40_13 r40_13.toList s) (fun s => gcM E0 [] (forget s.1 [], s.2)) := x_reg (ops := r40_13) (by rfl) (by rfl) s
theorem r40_13_l : r40_13.toList = [o40_13_0] := nrfl rfl
theorem s40_13_0 : stepA E C B 109 r40_13 o40_13_0 (φ, H) = stp (some 69) φ H (just (aBin E.T .lss 3 (fget φ 68) (fget φ 67))) := nrfl rfl
noncomputable def c40_38 : Code := kR c40_36
noncomputable def c40_39 : Code := kL c40_38
noncomputable def c40_40 : Code := kT c40_39
theorem x40_40 : execA E C (fg 40) B 109 E0 N c40_40 s = some (.normal, s) := x_skip (by rfl) s
noncomputable def c40_41 : Code := kE c40_39
theorem x40_41 : execA E C (fg 40) B 109 E0 N c40_41 s = some (.exit 2, s) := x_exit (by rfl) s
theorem x40_39 : execA E C (fg 40) B 109 E0 N c40_39 (φ, H) = condX (fget φ 69) (execA E C (fg 40) B 109 E0 N c40_40 (φ, H)) (execA E C (fg 40) B 109 E0 N c40_41 (φ, H)) := x_cond (by rfl) _
noncomputable def c40_42 : Code := kR c40_38
noncomputable def c40_43 : Code := kL c40_42
noncomputable def c40_44 : Code := kB c40_43
noncomputable def c40_45 : Code := kL c40_44
noncomputable def r40_14 : Array Oper := kO c40_45
noncomputable def o40_14_0 : Oper := opN r40_14 0
noncomputable def o40_14_1 : Oper := opN r40_14 1
theorem x40_45 : execA E C (fg 40) B 109 E0 N c40_45 s = regX (runA E C B 109 r40_14 r40_14.toList s) (fun s => gcM E0 [69, 70] (forget s.1 [69, 70], s.2)) := x_reg (ops := r40_14) (by rfl) (by rfl) s
theorem r40_14_l : r40_14.toList = [o40_14_0, o40_14_1] := nrfl rfl
theorem s40_14_0 : stepA E C B 109 r40_14 o40_14_0 (φ, H) = some (fput φ 70 (fget φ 68), H) := nrfl rfl
theorem s40_14_1 : stepA E C B 109 r40_14 o40_14_1 (φ, H) = some (fput φ 12 (fget φ 70), H) := nrfl rfl
noncomputable def c40_46 : Code := kR c40_44
noncomputable def c40_47 : Code := kL c40_46
noncomputable def r40_15 : Array Oper := kO c40_47
noncomputable def o40_15_0 : Oper := opN r40_15 0
noncomputable def o40_15_1 : Oper := opN r40_15 1
theorem x40_47 : execA E C (fg 40) B 109 E0 N c40_47 s = regX (runA E C B 109 r40_15 r40_15.toList s) (fun s => gcM E0 [] (forget s.1 [], s.2)) := x_reg (ops := r40_15) (by rfl) (by rfl) s
theorem r40_15_l : r40_15.toList = [o40_15_0, o40_15_1] := nrfl rfl
theorem s40_15_0 : stepA E C B 109 r40_15 o40_15_0 (φ, H) = some (fput φ 71 (fget φ 12), H) := nrfl rfl
theorem s40_15_1 : stepA E C B 109 r40_15 o40_15_1 (φ, H) = some (fput φ 72 (.int .i64 0), H) := nrfl rfl
noncomputable def c40_48 : Code := kR c40_46
noncomputable def c40_49 : Code := kB c40_48
noncomputable def c40_50 : Code := kB c40_49
noncomputable def c40_51 : Code := kL c40_50
noncomputable def r40_16 : Array Oper := kO c40_51
noncomputable def o40_16_0 : Oper := opN r40_16 0
theorem x40_51 : execA E C (fg 40) B 109 E0 N c40_51 s = regX (runA E C B 109 r40_16 r40_16.toList s) (fun s => gcM E0 [] (forget s.1 [], s.2)) := x_reg (ops := r40_16) (by rfl) (by rfl) s
theorem r40_16_l : r40_16.toList = [o40_16_0] := nrfl rfl
theorem s40_16_0 : stepA E C B 109 r40_16 o40_16_0 (φ, H) = stp (some 73) φ H (just (aBin E.T .lss 3 (fget φ 72) (fget φ 71))) := nrfl rfl
noncomputable def c40_52 : Code := kR c40_50
noncomputable def c40_53 : Code := kL c40_52
noncomputable def c40_54 : Code := kT c40_53
theorem x40_54 : execA E C (fg 40) B 109 E0 N c40_54 s = some (.normal, s) := x_skip (by rfl) s
noncomputable def c40_55 : Code := kE c40_53
theorem x40_55 : execA E C (fg 40) B 109 E0 N c40_55 s = some (.exit 4, s) := x_exit (by rfl) s
theorem x40_53 : execA E C (fg 40) B 109 E0 N c40_53 (φ, H) = condX (fget φ 73) (execA E C (fg 40) B 109 E0 N c40_54 (φ, H)) (execA E C (fg 40) B 109 E0 N c40_55 (φ, H)) := x_cond (by rfl) _
noncomputable def c40_56 : Code := kR c40_52
noncomputable def c40_57 : Code := kL c40_56
noncomputable def c40_58 : Code := kB c40_57
noncomputable def c40_59 : Code := kL c40_58
noncomputable def r40_17 : Array Oper := kO c40_59
noncomputable def o40_17_0 : Oper := opN r40_17 0
noncomputable def o40_17_1 : Oper := opN r40_17 1
theorem x40_59 : execA E C (fg 40) B 109 E0 N c40_59 s = regX (runA E C B 109 r40_17 r40_17.toList s) (fun s => gcM E0 [73, 74] (forget s.1 [73, 74], s.2)) := x_reg (ops := r40_17) (by rfl) (by rfl) s
theorem r40_17_l : r40_17.toList = [o40_17_0, o40_17_1] := nrfl rfl
theorem s40_17_0 : stepA E C B 109 r40_17 o40_17_0 (φ, H) = some (fput φ 74 (fget φ 72), H) := nrfl rfl
theorem s40_17_1 : stepA E C B 109 r40_17 o40_17_1 (φ, H) = some (fput φ 13 (fget φ 74), H) := nrfl rfl
noncomputable def c40_60 : Code := kR c40_58
noncomputable def c40_61 : Code := kL c40_60
noncomputable def c40_62 : Code := kL c40_61
noncomputable def r40_18 : Array Oper := kO c40_62
noncomputable def o40_18_0 : Oper := opN r40_18 0
noncomputable def o40_18_1 : Oper := opN r40_18 1
noncomputable def o40_18_2 : Oper := opN r40_18 2
noncomputable def o40_18_3 : Oper := opN r40_18 3
noncomputable def o40_18_4 : Oper := opN r40_18 4
noncomputable def o40_18_5 : Oper := opN r40_18 5
theorem x40_62 : execA E C (fg 40) B 109 E0 N c40_62 s = regX (runA E C B 109 r40_18 r40_18.toList s) (fun s => gcM E0 [75, 76, 77, 78, 79] (forget s.1 [75, 76, 77, 78, 79], s.2)) := x_reg (ops := r40_18) (by rfl) (by rfl) s
theorem r40_18_l : r40_18.toList = [o40_18_0, o40_18_1, o40_18_2, o40_18_3, o40_18_4, o40_18_5] := nrfl rfl
theorem s40_18_0 : stepA E C B 109 r40_18 o40_18_0 (φ, H) = stp (some 75) φ H (just (aFieldAddr E.T 58 (fget φ 2) 2)) := nrfl rfl
theorem s40_18_1 : stepA E C B 109 r40_18 o40_18_1 (φ, H) = stp (some 76) φ H (just (aLoad E.T 55 (fget φ 75))) := nrfl rfl
theorem s40_18_2 : stepA E C B 109 r40_18 o40_18_2 (φ, H) = some (fput φ 77 (fget φ 11), H) := nrfl rfl
theorem s40_18_3 : stepA E C B 109 r40_18 o40_18_3 (φ, H) = stp (some 78) φ H (just (aBin E.T .shr 55 (fget φ 76) (fget φ 77))) := nrfl rfl
theorem s40_18_4 : stepA E C B 109 r40_18 o40_18_4 (φ, H) = stp (some 79) φ H (just (aBin E.T .and 55 (fget φ 78) (.int .u16 1))) := nrfl rfl
theorem s40_18_5 : stepA E C B 109 r40_18 o40_18_5 (φ, H) = stp (some 80) φ H (just (aBin E.T .eql 55 (fget φ 79) (.int .u16 1))) := nrfl rfl
noncomputable def c40_63 : Code := kR c40_61
noncomputable def c40_64 : Code := kT c40_63
noncomputable def c40_65 : Code := kL c40_64
noncomputable def r40_19 : Array Oper := kO c40_65
noncomputable def o40_19_0 : Oper := opN r40_19 0
noncomputable def o40_19_1 : Oper := opN r40_19 1
noncomputable def o40_19_2 : Oper := opN r40_19 2
noncomputable def o40_19_3 : Oper := opN r40_19 3
noncomputable def o40_19_4 : Oper := opN r40_19 4
noncomputable def o40_19_5 : Oper := opN r40_19 5
noncomputable def o40_19_6 : Oper := opN r40_19 6
theorem x40_65 : execA E C (fg 40) B 109 E0 N c40_65 s = regX (runA E C B 109 r40_19 r40_19.toList s) (fun s => gcM E0 [80, 81, 82, 83, 84, 85, 86] (forget s.1 [80, 81, 82, 83, 84, 85, 86], s.2)) := x_reg (ops := r40_19) (by rfl) (by rfl) s
theorem r40_19_l : r40_19.toList = [o40_19_0, o40_19_1, o40_19_2, o40_19_3, o40_19_4, o40_19_5, o40_19_6] := nrfl rfl
theorem s40_19_0 : stepA E C B 109 r40_19 o40_19_0 (φ, H) = some (fput φ 81 (fget φ 10), H) := nrfl rfl
theorem s40_19_1 : stepA E C B 109 r40_19 o40_19_1 (φ, H) = some (fput φ 82 (fget φ 13), H) := nrfl rfl
theorem s40_19_2 : stepA E C B 109 r40_19 o40_19_2 (φ, H) = callV E C (B + 109 * 8) (some 83) (fun j => B + j * 109 + 83) φ H (fget φ 81) [(fget φ 82)] true := nrfl rfl
theorem s40_19_3 : stepA E C B 109 r40_19 o40_19_3 (φ, H) = some (fput φ 84 (fget φ 10), H) := nrfl rfl
theorem s40_19_4 : stepA E C B 109 r40_19 o40_19_4 (φ, H) = some (fput φ 85 (fget φ 12), H) := nrfl rfl
theorem s40_19_5 : stepA E C B 109 r40_19 o40_19_5 (φ, H) = callV E C (B + 109 * 8) (some 86) (fun j => B + j * 109 + 86) φ H (fget φ 84) [(fget φ 85)] true := nrfl rfl
theorem s40_19_6 : stepA E C B 109 r40_19 o40_19_6 (φ, H) = stp (some 87) φ H (just (aBin E.T .lss 3 (fget φ 83) (fget φ 86))) := nrfl rfl
noncomputable def c40_66 : Code := kR c40_64
noncomputable def c40_67 : Code := kT c40_66
noncomputable def r40_20 : Array Oper := kO c40_67
noncomputable def o40_20_0 : Oper := opN r40_20 0
noncomputable def o40_20_1 : Oper := opN r40_20 1
noncomputable def o40_20_2 : Oper := opN r40_20 2
noncomputable def o40_20_3 : Oper := opN r40_20 3
noncomputable def o40_20_4 : Oper := opN r40_20 4
noncomputable def o40_20_5 : Oper := opN r40_20 5
noncomputable def o40_20_6 : Oper := opN r40_20 6
noncomputable def o40_20_7 : Oper := opN r40_20 7
noncomputable def o40_20_8 : Oper := opN r40_20 8
theorem x40_67 : execA E C (fg 40) B 109 E0 N c40_67 s = regX (runA E C B 109 r40_20 r40_20.toList s) (fun s => gcM E0 [13, 87, 88, 89, 90, 91, 92, 93, 94, 95] (forget s.1 [13, 87, 88, 89, 90, 91, 92, 93, 94, 95], s.2)) := x_reg (ops := r40_20) (by rfl) (by rfl) s
theorem r40_20_l : r40_20.toList = [o40_20_0, o40_20_1, o40_20_2, o40_20_3, o40_20_4, o40_20_5, o40_20_6, o40_20_7, o40_20_8] := nrfl rfl
theorem s40_20_0 : stepA E C B 109 r40_20 o40_20_0 (φ, H) = stp (some 88) φ H (just (aFieldAddr E.T 25 (fget φ 5) 1)) := nrfl rfl
theorem s40_20_1 : stepA E C B 109 r40_20 o40_20_1 (φ, H) = stp (some 89) φ H (just (aLoad E.T 23 (fget φ 88))) := nrfl rfl
theorem s40_20_2 : stepA E C B 109 r40_20 o40_20_2 (φ, H) = some (fput φ 90 (fget φ 13), H) := nrfl rfl
theorem s40_20_3 : stepA E C B 109 r40_20 o40_20_3 (φ, H) = some (fput φ 91 (fget φ 12), H) := nrfl rfl
theorem s40_20_4 : stepA E C B 109 r40_20 o40_20_4 (φ, H) = stp (some 92) φ H (justO (aBuild E.T 64 (evO E φ) [(0, Operand.tmp 90), (1, Operand.tmp 91)])) := nrfl rfl
theorem s40_20_5 : stepA E C B 109 r40_20 o40_20_5 (φ, H) = stp (some 93) φ H (aBuildSlice E.T (B + 93) 23 1 (evO E φ) [(0, Operand.tmp 92)]) := nrfl rfl
theorem s40_20_6 : stepA E C B 109 r40_20 o40_20_6 (φ, H) = stp (some 94) φ H (aBuiltin E.T (B + 94) .append #[23, 23] [(fget φ 89), (fget φ 93)]) := nrfl rfl
theorem s40_20_7 : stepA E C B 109 r40_20 o40_20_7 (φ, H) = stp (some 95) φ H (just (aFieldAddr E.T 25 (fget φ 5) 1)) := nrfl rfl
theorem s40_20_8 : stepA E C B 109 r40_20 o40_20_8 (φ, H) = stp none φ H (opStore E.T 23 (fget φ 95) (fget φ 94)) := nrfl rfl
noncomputable def c40_68 : Code := kE c40_66
noncomputable def r40_21 : Array Oper := kO c40_68
noncomputable def o40_21_0 : Oper := opN r40_21 0
noncomputable def o40_21_1 : Oper := opN r40_21 1
noncomputable def o40_21_2 : Oper := opN r40_21 2
noncomputable def o40_21_3 : Oper := opN r40_21 3
noncomputable def o40_21_4 : Oper := opN r40_21 4
noncomputable def o40_21_5 : Oper := opN r40_21 5
noncomputable def o40_21_6 : Oper := opN r40_21 6
noncomputable def o40_21_7 : Oper := opN r40_21 7
noncomputable def o40_21_8 : Oper := opN r40_21 8
theorem x40_68 : execA E C (fg 40) B 109 E0 N c40_68 s = regX (runA E C B 109 r40_21 r40_21.toList s) (fun s => gcM E0 [13, 87, 96, 97, 98, 99, 100, 101, 102, 103] (forget s.1 [13, 87, 96, 97, 98, 99, 100, 101, 102, 103], s.2)) := x_reg (ops := r40_21) (by rfl) (by rfl) s
theorem r40_21_l : r40_21.toList = [o40_21_0, o40_21_1, o40_21_2, o40_21_3, o40_21_4, o40_21_5, o40_21_6, o40_21_7, o40_21_8] := nrfl rfl
theorem s40_21_0 : stepA E C B 109 r40_21 o40_21_0 (φ, H) = stp (some 96) φ H (just (aFieldAddr E.T 25 (fget φ 5) 1)) := nrfl rfl
theorem s40_21_1 : stepA E C B 109 r40_21 o40_21_1 (φ, H) = stp (some 97) φ H (just (aLoad E.T 23 (fget φ 96))) := nrfl rfl
theorem s40_21_2 : stepA E C B 109 r40_21 o40_21_2 (φ, H) = some (fput φ 98 (fget φ 12), H) := nrfl rfl
theorem s40_21_3 : stepA E C B 109 r40_21 o40_21_3 (φ, H) = some (fput φ 99 (fget φ 13), H) := nrfl rfl
theorem s40_21_4 : stepA E C B 109 r40_21 o40_21_4 (φ, H) = stp (some 100) φ H (justO (aBuild E.T 64 (evO E φ) [(0, Operand.tmp 98), (1, Operand.tmp 99)])) := nrfl rfl
theorem s40_21_5 : stepA E C B 109 r40_21 o40_21_5 (φ, H) = stp (some 101) φ H (aBuildSlice E.T (B + 101) 23 1 (evO E φ) [(0, Operand.tmp 100)]) := nrfl rfl
theorem s40_21_6 : stepA E C B 109 r40_21 o40_21_6 (φ, H) = stp (some 102) φ H (aBuiltin E.T (B + 102) .append #[23, 23] [(fget φ 97), (fget φ 101)]) := nrfl rfl
theorem s40_21_7 : stepA E C B 109 r40_21 o40_21_7 (φ, H) = stp (some 103) φ H (just (aFieldAddr E.T 25 (fget φ 5) 1)) := nrfl rfl
theorem s40_21_8 : stepA E C B 109 r40_21 o40_21_8 (φ, H) = stp none φ H (opStore E.T 23 (fget φ 103) (fget φ 102)) := nrfl rfl
theorem x40_66 : execA E C (fg 40) B 109 E0 N c40_66 (φ, H) = condX (fget φ 87) (execA E C (fg 40) B 109 E0 N c40_67 (φ, H)) (execA E C (fg 40) B 109 E0 N c40_68 (φ, H)) := x_cond (by rfl) _
theorem x40_64 : execA E C (fg 40) B 109 E0 N c40_64 s = seqX (execA E C (fg 40) B 109 E0 N c40_65 s) (execA E C (fg 40) B 109 E0 N c40_66) := x_seq (by rfl) s
noncomputable def c40_69 : Code := kE c40_63
theorem x40_69 : execA E C (fg 40) B 109 E0 N c40_69 s = some (.normal, s) := x_skip (by rfl) s
theorem x40_63 : execA E C (fg 40) B 109 E0 N c40_63 (φ, H) = condX (fget φ 80) (execA E C (fg 40) B 109 E0 N c40_64 (φ, H)) (execA E C (fg 40) B 109 E0 N c40_69 (φ, H)) := x_cond (by rfl) _
theorem x40_61 : execA E C (fg 40) B 109 E0 N c40_61 s = seqX (execA E C (fg 40) B 109 E0 N c40_62 s) (execA E C (fg 40) B 109 E0 N c40_63) := x_seq (by rfl) s
noncomputable def c40_70 : Code := kR c40_60
noncomputable def r40_22 : Array Oper := kO c40_70
noncomputable def o40_22_0 : Oper := opN r40_22 0
noncomputable def o40_22_1 : Oper := opN r40_22 1
noncomputable def o40_22_2 : Oper := opN r40_22 2
theorem x40_70 : execA E C (fg 40) B 109 E0 N c40_70 s = regX (runA E C B 109 r40_22 r40_22.toList s) (fun s => gcM E0 [13, 80, 104, 105] (forget s.1 [13, 80, 104, 105], s.2)) := x_reg (ops := r40_22) (by rfl) (by rfl) s
theorem r40_22_l : r40_22.toList = [o40_22_0, o40_22_1, o40_22_2] := nrfl rfl
theorem s40_22_0 : stepA E C B 109 r40_22 o40_22_0 (φ, H) = some (fput φ 104 (fget φ 11), H) := nrfl rfl
theorem s40_22_1 : stepA E C B 109 r40_22 o40_22_1 (φ, H) = stp (some 105) φ H (just (aBin E.T .add 3 (fget φ 104) (.int .i64 1))) := nrfl rfl
theorem s40_22_2 : stepA E C B 109 r40_22 o40_22_2 (φ, H) = some (fput φ 11 (fget φ 105), H) := nrfl rfl
theorem x40_60 : execA E C (fg 40) B 109 E0 N c40_60 s = seqX (execA E C (fg 40) B 109 E0 N c40_61 s) (execA E C (fg 40) B 109 E0 N c40_70) := x_seq (by rfl) s
theorem x40_58 : execA E C (fg 40) B 109 E0 N c40_58 s = seqX (execA E C (fg 40) B 109 E0 N c40_59 s) (execA E C (fg 40) B 109 E0 N c40_60) := x_seq (by rfl) s
theorem x40_57 : execA E C (fg 40) B 109 E0 N c40_57 s = blockX 5 (fun s => (forget s.1 [], s.2)) (execA E C (fg 40) B 109 E0 N c40_58 s) := x_block (by rfl) (by rfl) s
noncomputable def c40_71 : Code := kR c40_56
noncomputable def r40_23 : Array Oper := kO c40_71
noncomputable def o40_23_0 : Oper := opN r40_23 0
noncomputable def o40_23_1 : Oper := opN r40_23 1
theorem x40_71 : execA E C (fg 40) B 109 E0 N c40_71 s = regX (runA E C B 109 r40_23 r40_23.toList s) (fun s => gcM E0 [106] (forget s.1 [106], s.2)) := x_reg (ops := r40_23) (by rfl) (by rfl) s
theorem r40_23_l : r40_23.toList = [o40_23_0, o40_23_1] := nrfl rfl
theorem s40_23_0 : stepA E C B 109 r40_23 o40_23_0 (φ, H) = stp (some 106) φ H (just (aBin E.T .add 3 (fget φ 72) (.int .i64 1))) := nrfl rfl
theorem s40_23_1 : stepA E C B 109 r40_23 o40_23_1 (φ, H) = some (fput φ 72 (fget φ 106), H) := nrfl rfl
theorem x40_56 : execA E C (fg 40) B 109 E0 N c40_56 s = seqX (execA E C (fg 40) B 109 E0 N c40_57 s) (execA E C (fg 40) B 109 E0 N c40_71) := x_seq (by rfl) s
theorem x40_52 : execA E C (fg 40) B 109 E0 N c40_52 s = seqX (execA E C (fg 40) B 109 E0 N c40_53 s) (execA E C (fg 40) B 109 E0 N c40_56) := x_seq (by rfl) s
theorem x40_50 : execA E C (fg 40) B 109 E0 N c40_50 s = seqX (execA E C (fg 40) B 109 E0 N c40_51 s) (execA E C (fg 40) B 109 E0 N c40_52) := x_seq (by rfl) s
theorem x40_49 : execA E C (fg 40) B 109 E0 N c40_49 s = iterA (execA E C (fg 40) B 109 E0 N c40_50) (headA E0) N s := x_loop (by rfl) s
theorem x40_48 : execA E C (fg 40) B 109 E0 N c40_48 s = blockX 4 (fun s => (forget s.1 [12, 71, 72, 73], s.2)) (execA E C (fg 40) B 109 E0 N c40_49 s) := x_block (by rfl) (by rfl) s
theorem x40_46 : execA E C (fg 40) B 109 E0 N c40_46 s = seqX (execA E C (fg 40) B 109 E0 N c40_47 s) (execA E C (fg 40) B 109 E0 N c40_48) := x_seq (by rfl) s
theorem x40_44 : execA E C (fg 40) B 109 E0 N c40_44 s = seqX (execA E C (fg 40) B 109 E0 N c40_45 s) (execA E C (fg 40) B 109 E0 N c40_46) := x_seq (by rfl) s
theorem x40_43 : execA E C (fg 40) B 109 E0 N c40_43 s = blockX 3 (fun s => (forget s.1 [], s.2)) (execA E C (fg 40) B 109 E0 N c40_44 s) := x_block (by rfl) (by rfl) s
noncomputable def c40_72 : Code := kR c40_42
noncomputable def r40_24 : Array Oper := kO c40_72
noncomputable def o40_24_0 : Oper := opN r40_24 0
noncomputable def o40_24_1 : Oper := opN r40_24 1
theorem x40_72 : execA E C (fg 40) B 109 E0 N c40_72 s = regX (runA E C B 109 r40_24 r40_24.toList s) (fun s => gcM E0 [107] (forget s.1 [107], s.2)) := x_reg (ops := r40_24) (by rfl) (by rfl) s
theorem r40_24_l : r40_24.toList = [o40_24_0, o40_24_1] := nrfl rfl
theorem s40_24_0 : stepA E C B 109 r40_24 o40_24_0 (φ, H) = stp (some 107) φ H (just (aBin E.T .add 3 (fget φ 68) (.int .i64 1))) := nrfl rfl
theorem s40_24_1 : stepA E C B 109 r40_24 o40_24_1 (φ, H) = some (fput φ 68 (fget φ 107), H) := nrfl rfl
theorem x40_42 : execA E C (fg 40) B 109 E0 N c40_42 s = seqX (execA E C (fg 40) B 109 E0 N c40_43 s) (execA E C (fg 40) B 109 E0 N c40_72) := x_seq (by rfl) s
theorem x40_38 : execA E C (fg 40) B 109 E0 N c40_38 s = seqX (execA E C (fg 40) B 109 E0 N c40_39 s) (execA E C (fg 40) B 109 E0 N c40_42) := x_seq (by rfl) s
theorem x40_36 : execA E C (fg 40) B 109 E0 N c40_36 s = seqX (execA E C (fg 40) B 109 E0 N c40_37 s) (execA E C (fg 40) B 109 E0 N c40_38) := x_seq (by rfl) s
theorem x40_35 : execA E C (fg 40) B 109 E0 N c40_35 s = iterA (execA E C (fg 40) B 109 E0 N c40_36) (headA E0) N s := x_loop (by rfl) s
theorem x40_34 : execA E C (fg 40) B 109 E0 N c40_34 s = blockX 2 (fun s => (forget s.1 [2, 10, 11, 67, 68, 69], s.2)) (execA E C (fg 40) B 109 E0 N c40_35 s) := x_block (by rfl) (by rfl) s
theorem x40_32 : execA E C (fg 40) B 109 E0 N c40_32 s = seqX (execA E C (fg 40) B 109 E0 N c40_33 s) (execA E C (fg 40) B 109 E0 N c40_34) := x_seq (by rfl) s
noncomputable def c40_73 : Code := kR c40_31
noncomputable def c40_74 : Code := kL c40_73
noncomputable def r40_25 : Array Oper := kO c40_74
noncomputable def o40_25_0 : Oper := opN r40_25 0
noncomputable def o40_25_1 : Oper := opN r40_25 1
theorem x40_74 : execA E C (fg 40) B 109 E0 N c40_74 s = regX (runA E C B 109 r40_25 r40_25.toList s) (fun s => gcM E0 [5, 108] (forget s.1 [5, 108], s.2)) := x_reg (ops := r40_25) (by rfl) (by rfl) s
theorem r40_25_l : r40_25.toList = [o40_25_0, o40_25_1] := nrfl rfl
theorem s40_25_0 : stepA E C B 109 r40_25 o40_25_0 (φ, H) = stp (some 108) φ H (just (aLoad E.T 25 (fget φ 5))) := nrfl rfl
theorem s40_25_1 : stepA E C B 109 r40_25 o40_25_1 (φ, H) = stp none φ H (opStore E.T 25 (fget φ 4) (fget φ 108)) := nrfl rfl
noncomputable def c40_75 : Code := kR c40_73
theorem x40_75 : execA E C (fg 40) B 109 E0 N c40_75 s = some (.ret, s) := x_ret (by rfl) s
theorem x40_73 : execA E C (fg 40) B 109 E0 N c40_73 s = seqX (execA E C (fg 40) B 109 E0 N c40_74 s) (execA E C (fg 40) B 109 E0 N c40_75) := x_seq (by rfl) s
theorem x40_31 : execA E C (fg 40) B 109 E0 N c40_31 s = seqX (execA E C (fg 40) B 109 E0 N c40_32 s) (execA E C (fg 40) B 109 E0 N c40_73) := x_seq (by rfl) s
theorem x40_29 : execA E C (fg 40) B 109 E0 N c40_29 s = seqX (execA E C (fg 40) B 109 E0 N c40_30 s) (execA E C (fg 40) B 109 E0 N c40_31) := x_seq (by rfl) s
theorem x40_27 : execA E C (fg 40) B 109 E0 N c40_27 s = seqX (execA E C (fg 40) B 109 E0 N c40_28 s) (execA E C (fg 40) B 109 E0 N c40_29) := x_seq (by rfl) s
theorem x40_25 : execA E C (fg 40) B 109 E0 N c40_25 s = seqX (execA E C (fg 40) B 109 E0 N c40_26 s) (execA E C (fg 40) B 109 E0 N c40_27) := x_seq (by rfl) s
theorem x40_4 : execA E C (fg 40) B 109 E0 N c40_4 s = seqX (execA E C (fg 40) B 109 E0 N c40_5 s) (execA E C (fg 40) B 109 E0 N c40_25) := x_seq (by rfl) s
theorem x40_2 : execA E C (fg 40) B 109 E0 N c40_2 s = seqX (execA E C (fg 40) B 109 E0 N c40_3 s) (execA E C (fg 40) B 109 E0 N c40_4) := x_seq (by rfl) s
theorem x40_0 : execA E C (fg 40) B 109 E0 N c40_0 s = seqX (execA E C (fg 40) B 109 E0 N c40_1 s) (execA E C (fg 40) B 109 E0 N c40_2) := x_seq (by rfl) s
theorem fi_40 : fInfo E 40 = some ⟨109, #[.cell 4 25], c40_0⟩ := nrfl rfl
theorem b_40 (args : List AV) : bodyA E C fg N 40 args H B = bodyX E [.cell 4 25] (execA E C (fg 40) B 109 H N c40_0 (frame0 args 0 [], H)) := bodyA_eq fi_40 args H
noncomputable def c111_0 : Code := kBody Proofs.Tryd.f111
noncomputable def c111_1 : Code := kL c111_0
noncomputable def r111_0 : Array Oper := kO c111_1
noncomputable def o111_0_0 : Oper := opN r111_0 0
theorem x111_1 : execA E C (fg 111) B 12 E0 N c111_1 s = regX (runA E C B 12 r111_0 r111_0.toList s) (fun s => gcM E0 [3] (forget s.1 [3], s.2)) := x_reg (ops := r111_0) (by rfl) (by rfl) s
theorem r111_0_l : r111_0.toList = [o111_0_0] := nrfl rfl
theorem s111_0_0 : stepA E C B 12 r111_0 o111_0_0 (φ, H) = some (fput φ 3 (.int .i64 0), H) := nrfl rfl
noncomputable def c111_2 : Code := kR c111_0
noncomputable def c111_3 : Code := kL c111_2
noncomputable def r111_1 : Array Oper := kO c111_3
noncomputable def o111_1_0 : Oper := opN r111_1 0
noncomputable def o111_1_1 : Oper := opN r111_1 1
noncomputable def o111_1_2 : Oper := opN r111_1 2
noncomputable def o111_1_3 : Oper := opN r111_1 3
noncomputable def o111_1_4 : Oper := opN r111_1 4
noncomputable def o111_1_5 : Oper := opN r111_1 5
noncomputable def o111_1_6 : Oper := opN r111_1 6
noncomputable def o111_1_7 : Oper := opN r111_1 7
noncomputable def o111_1_8 : Oper := opN r111_1 8
theorem x111_3 : execA E C (fg 111) B 12 E0 N c111_3 s = regX (runA E C B 12 r111_1 r111_1.toList s) (fun s => gcM E0 [0, 1, 4, 5, 6, 7, 8, 9, 10, 11] (forget s.1 [0, 1, 4, 5, 6, 7, 8, 9, 10, 11], s.2)) := x_reg (ops := r111_1) (by rfl) (by rfl) s
theorem r111_1_l : r111_1.toList = [o111_1_0, o111_1_1, o111_1_2, o111_1_3, o111_1_4, o111_1_5, o111_1_6, o111_1_7, o111_1_8] := nrfl rfl
theorem s111_1_0 : stepA E C B 12 r111_1 o111_1_0 (φ, H) = some (fput φ 4 (fget φ 0), H) := nrfl rfl
theorem s111_1_1 : stepA E C B 12 r111_1 o111_1_1 (φ, H) = stp (some 5) φ H (just (aFieldAddr E.T 58 (fget φ 1) 3)) := nrfl rfl
theorem s111_1_2 : stepA E C B 12 r111_1 o111_1_2 (φ, H) = stp (some 6) φ H (just (aIndexAddr E.T 56 (fget φ 5) (fget φ 4))) := nrfl rfl
theorem s111_1_3 : stepA E C B 12 r111_1 o111_1_3 (φ, H) = stp (some 7) φ H (just (aLoad E.T 5 (fget φ 6))) := nrfl rfl
theorem s111_1_4 : stepA E C B 12 r111_1 o111_1_4 (φ, H) = stp (some 8) φ H (justO (aConv E.T 5 3 (fget φ 7))) := nrfl rfl
theorem s111_1_5 : stepA E C B 12 r111_1 o111_1_5 (φ, H) = stp (some 9) φ H (just (aBin E.T .mul 3 (fget φ 8) (.int .i64 8))) := nrfl rfl
theorem s111_1_6 : stepA E C B 12 r111_1 o111_1_6 (φ, H) = some (fput φ 10 (fget φ 0), H) := nrfl rfl
theorem s111_1_7 : stepA E C B 12 r111_1 o111_1_7 (φ, H) = stp (some 11) φ H (just (aBin E.T .add 3 (fget φ 9) (fget φ 10))) := nrfl rfl
theorem s111_1_8 : stepA E C B 12 r111_1 o111_1_8 (φ, H) = some (fput φ 3 (fget φ 11), H) := nrfl rfl
noncomputable def c111_4 : Code := kR c111_2
theorem x111_4 : execA E C (fg 111) B 12 E0 N c111_4 s = some (.ret, s) := x_ret (by rfl) s
theorem x111_2 : execA E C (fg 111) B 12 E0 N c111_2 s = seqX (execA E C (fg 111) B 12 E0 N c111_3 s) (execA E C (fg 111) B 12 E0 N c111_4) := x_seq (by rfl) s
theorem x111_0 : execA E C (fg 111) B 12 E0 N c111_0 s = seqX (execA E C (fg 111) B 12 E0 N c111_1 s) (execA E C (fg 111) B 12 E0 N c111_2) := x_seq (by rfl) s
theorem fi_111 : fInfo E 111 = some ⟨12, #[.tmp 3], c111_0⟩ := nrfl rfl
theorem b_111 (args : List AV) : bodyA E C fg N 111 args H B = bodyX E [.tmp 3] (execA E C (fg 111) B 12 H N c111_0 (frame0 args 0 [], H)) := bodyA_eq fi_111 args H
noncomputable def c44_0 : Code := kBody Proofs.Tryd.f44
noncomputable def c44_1 : Code := kL c44_0
noncomputable def r44_0 : Array Oper := kO c44_1
noncomputable def o44_0_0 : Oper := opN r44_0 0
noncomputable def o44_0_1 : Oper := opN r44_0 1
theorem x44_1 : execA E C (fg 44) B 21 E0 N c44_1 s = regX (runA E C B 21 r44_0 r44_0.toList s) (fun s => gcM E0 [0, 4] (forget s.1 [0, 4], s.2)) := x_reg (ops := r44_0) (by rfl) (by rfl) s
theorem r44_0_l : r44_0.toList = [o44_0_0, o44_0_1] := nrfl rfl
theorem s44_0_0 : stepA E C B 21 r44_0 o44_0_0 (φ, H) = stp (some 2) φ H (opBox (B + 2) (acells (fget φ 0))) := nrfl rfl
theorem s44_0_1 : stepA E C B 21 r44_0 o44_0_1 (φ, H) = some (fput φ 4 (.int .i64 0), H) := nrfl rfl
noncomputable def c44_2 : Code := kR c44_0
noncomputable def c44_3 : Code := kL c44_2
noncomputable def c44_4 : Code := kL c44_3
noncomputable def r44_1 : Array Oper := kO c44_4
noncomputable def o44_1_0 : Oper := opN r44_1 0
noncomputable def o44_1_1 : Oper := opN r44_1 1
noncomputable def o44_1_2 : Oper := opN r44_1 2
noncomputable def o44_1_3 : Oper := opN r44_1 3
theorem x44_4 : execA E C (fg 44) B 21 E0 N c44_4 s = regX (runA E C B 21 r44_1 r44_1.toList s) (fun s => gcM E0 [5, 6, 7] (forget s.1 [5, 6, 7], s.2)) := x_reg (ops := r44_1) (by rfl) (by rfl) s
theorem r44_1_l : r44_1.toList = [o44_1_0, o44_1_1, o44_1_2, o44_1_3] := nrfl rfl
theorem s44_1_0 : stepA E C B 21 r44_1 o44_1_0 (φ, H) = some (fput φ 5 (fget φ 1), H) := nrfl rfl
theorem s44_1_1 : stepA E C B 21 r44_1 o44_1_1 (φ, H) = stp (some 6) φ H (just (aFieldAddr E.T 62 (fget φ 2) 2)) := nrfl rfl
theorem s44_1_2 : stepA E C B 21 r44_1 o44_1_2 (φ, H) = stp (some 7) φ H (just (aLoad E.T 3 (fget φ 6))) := nrfl rfl
theorem s44_1_3 : stepA E C B 21 r44_1 o44_1_3 (φ, H) = stp (some 8) φ H (just (aBin E.T .leq 3 (fget φ 5) (fget φ 7))) := nrfl rfl
noncomputable def c44_5 : Code := kR c44_3
noncomputable def c44_6 : Code := kT c44_5
noncomputable def c44_7 : Code := kL c44_6
noncomputable def r44_2 : Array Oper := kO c44_7
noncomputable def o44_2_0 : Oper := opN r44_2 0
noncomputable def o44_2_1 : Oper := opN r44_2 1
noncomputable def o44_2_2 : Oper := opN r44_2 2
theorem x44_7 : execA E C (fg 44) B 21 E0 N c44_7 s = regX (runA E C B 21 r44_2 r44_2.toList s) (fun s => gcM E0 [1, 2, 8, 9, 10] (forget s.1 [1, 2, 8, 9, 10], s.2)) := x_reg (ops := r44_2) (by rfl) (by rfl) s
theorem r44_2_l : r44_2.toList = [o44_2_0, o44_2_1, o44_2_2] := nrfl rfl
theorem s44_2_0 : stepA E C B 21 r44_2 o44_2_0 (φ, H) = stp (some 9) φ H (just (aFieldAddr E.T 62 (fget φ 2) 4)) := nrfl rfl
theorem s44_2_1 : stepA E C B 21 r44_2 o44_2_1 (φ, H) = stp (some 10) φ H (just (aLoad E.T 3 (fget φ 9))) := nrfl rfl
theorem s44_2_2 : stepA E C B 21 r44_2 o44_2_2 (φ, H) = some (fput φ 4 (fget φ 10), H) := nrfl rfl
noncomputable def c44_8 : Code := kR c44_6
theorem x44_8 : execA E C (fg 44) B 21 E0 N c44_8 s = some (.ret, s) := x_ret (by rfl) s
theorem x44_6 : execA E C (fg 44) B 21 E0 N c44_6 s = seqX (execA E C (fg 44) B 21 E0 N c44_7 s) (execA E C (fg 44) B 21 E0 N c44_8) := x_seq (by rfl) s
noncomputable def c44_9 : Code := kE c44_5
theorem x44_9 : execA E C (fg 44) B 21 E0 N c44_9 s = some (.normal, s) := x_skip (by rfl) s
theorem x44_5 : execA E C (fg 44) B 21 E0 N c44_5 (φ, H) = condX (fget φ 8) (execA E C (fg 44) B 21 E0 N c44_6 (φ, H)) (execA E C (fg 44) B 21 E0 N c44_9 (φ, H)) := x_cond (by rfl) _
theorem x44_3 : execA E C (fg 44) B 21 E0 N c44_3 s = seqX (execA E C (fg 44) B 21 E0 N c44_4 s) (execA E C (fg 44) B 21 E0 N c44_5) := x_seq (by rfl) s
noncomputable def c44_10 : Code := kR c44_2
noncomputable def c44_11 : Code := kL c44_10
noncomputable def r44_3 : Array Oper := kO c44_11
noncomputable def o44_3_0 : Oper := opN r44_3 0
noncomputable def o44_3_1 : Oper := opN r44_3 1
noncomputable def o44_3_2 : Oper := opN r44_3 2
noncomputable def o44_3_3 : Oper := opN r44_3 3
noncomputable def o44_3_4 : Oper := opN r44_3 4
noncomputable def o44_3_5 : Oper := opN r44_3 5
noncomputable def o44_3_6 : Oper := opN r44_3 6
noncomputable def o44_3_7 : Oper := opN r44_3 7
noncomputable def o44_3_8 : Oper := opN r44_3 8
noncomputable def o44_3_9 : Oper := opN r44_3 9
noncomputable def o44_3_10 : Oper := opN r44_3 10
theorem x44_11 : execA E C (fg 44) B 21 E0 N c44_11 s = regX (runA E C B 21 r44_3 r44_3.toList s) (fun s => gcM E0 [1, 2, 8, 11, 12, 13, 14, 15, 16, 17, 18, 19, 20] (forget s.1 [1, 2, 8, 11, 12, 13, 14, 15, 16, 17, 18, 19, 20], s.2)) := x_reg (ops := r44_3) (by rfl) (by rfl) s
theorem r44_3_l : r44_3.toList = [o44_3_0, o44_3_1, o44_3_2, o44_3_3, o44_3_4, o44_3_5, o44_3_6, o44_3_7, o44_3_8, o44_3_9, o44_3_10] := nrfl rfl
theorem s44_3_0 : stepA E C B 21 r44_3 o44_3_0 (φ, H) = stp (some 11) φ H (just (aFieldAddr E.T 62 (fget φ 2) 4)) := nrfl rfl
theorem s44_3_1 : stepA E C B 21 r44_3 o44_3_1 (φ, H) = stp (some 12) φ H (just (aLoad E.T 3 (fget φ 11))) := nrfl rfl
theorem s44_3_2 : stepA E C B 21 r44_3 o44_3_2 (φ, H) = stp (some 13) φ H (just (aFieldAddr E.T 62 (fget φ 2) 3)) := nrfl rfl
theorem s44_3_3 : stepA E C B 21 r44_3 o44_3_3 (φ, H) = stp (some 14) φ H (just (aLoad E.T 3 (fget φ 13))) := nrfl rfl
theorem s44_3_4 : stepA E C B 21 r44_3 o44_3_4 (φ, H) = some (fput φ 15 (fget φ 1), H) := nrfl rfl
theorem s44_3_5 : stepA E C B 21 r44_3 o44_3_5 (φ, H) = stp (some 16) φ H (just (aFieldAddr E.T 62 (fget φ 2) 2)) := nrfl rfl
theorem s44_3_6 : stepA E C B 21 r44_3 o44_3_6 (φ, H) = stp (some 17) φ H (just (aLoad E.T 3 (fget φ 16))) := nrfl rfl
theorem s44_3_7 : stepA E C B 21 r44_3 o44_3_7 (φ, H) = stp (some 18) φ H (just (aBin E.T .sub 3 (fget φ 15) (fget φ 17))) := nrfl rfl
theorem s44_3_8 : stepA E C B 21 r44_3 o44_3_8 (φ, H) = stp (some 19) φ H (just (aBin E.T .mul 3 (fget φ 14) (fget φ 18))) := nrfl rfl
theorem s44_3_9 : stepA E C B 21 r44_3 o44_3_9 (φ, H) = stp (some 20) φ H (just (aBin E.T .add 3 (fget φ 12) (fget φ 19))) := nrfl rfl
theorem s44_3_10 : stepA E C B 21 r44_3 o44_3_10 (φ, H) = some (fput φ 4 (fget φ 20), H) := nrfl rfl
noncomputable def c44_12 : Code := kR c44_10
theorem x44_12 : execA E C (fg 44) B 21 E0 N c44_12 s = some (.ret, s) := x_ret (by rfl) s
theorem x44_10 : execA E C (fg 44) B 21 E0 N c44_10 s = seqX (execA E C (fg 44) B 21 E0 N c44_11 s) (execA E C (fg 44) B 21 E0 N c44_12) := x_seq (by rfl) s
theorem x44_2 : execA E C (fg 44) B 21 E0 N c44_2 s = seqX (execA E C (fg 44) B 21 E0 N c44_3 s) (execA E C (fg 44) B 21 E0 N c44_10) := x_seq (by rfl) s
theorem x44_0 : execA E C (fg 44) B 21 E0 N c44_0 s = seqX (execA E C (fg 44) B 21 E0 N c44_1 s) (execA E C (fg 44) B 21 E0 N c44_2) := x_seq (by rfl) s
theorem fi_44 : fInfo E 44 = some ⟨21, #[.tmp 4], c44_0⟩ := nrfl rfl
theorem b_44 (args : List AV) : bodyA E C fg N 44 args H B = bodyX E [.tmp 4] (execA E C (fg 44) B 21 H N c44_0 (frame0 args 0 [], H)) := bodyA_eq fi_44 args H
noncomputable def c42_0 : Code := kBody Proofs.Tryd.f42
noncomputable def c42_1 : Code := kL c42_0
noncomputable def r42_0 : Array Oper := kO c42_1
noncomputable def o42_0_0 : Oper := opN r42_0 0
theorem x42_1 : execA E C (fg 42) B 9 E0 N c42_1 s = regX (runA E C B 9 r42_0 r42_0.toList s) (fun s => gcM E0 [4] (forget s.1 [4], s.2)) := x_reg (ops := r42_0) (by rfl) (by rfl) s
theorem r42_0_l : r42_0.toList = [o42_0_0] := nrfl rfl
theorem s42_0_0 : stepA E C B 9 r42_0 o42_0_0 (φ, H) = some (fput φ 4 (.bool false), H) := nrfl rfl
noncomputable def c42_2 : Code := kR c42_0
noncomputable def c42_3 : Code := kL c42_2
noncomputable def r42_1 : Array Oper := kO c42_3
noncomputable def o42_1_0 : Oper := opN r42_1 0
noncomputable def o42_1_1 : Oper := opN r42_1 1
noncomputable def o42_1_2 : Oper := opN r42_1 2
noncomputable def o42_1_3 : Oper := opN r42_1 3
noncomputable def o42_1_4 : Oper := opN r42_1 4
theorem x42_3 : execA E C (fg 42) B 9 E0 N c42_3 s = regX (runA E C B 9 r42_1 r42_1.toList s) (fun s => gcM E0 [0, 1, 5, 6, 7, 8] (forget s.1 [0, 1, 5, 6, 7, 8], s.2)) := x_reg (ops := r42_1) (by rfl) (by rfl) s
theorem r42_1_l : r42_1.toList = [o42_1_0, o42_1_1, o42_1_2, o42_1_3, o42_1_4] := nrfl rfl
theorem s42_1_0 : stepA E C B 9 r42_1 o42_1_0 (φ, H) = some (fput φ 5 (fget φ 0), H) := nrfl rfl
theorem s42_1_1 : stepA E C B 9 r42_1 o42_1_1 (φ, H) = some (fput φ 6 (fget φ 1), H) := nrfl rfl
theorem s42_1_2 : stepA E C B 9 r42_1 o42_1_2 (φ, H) = stp (some 7) φ H (aCall C (fun j => B + j * 9 + 7) true 112 [(fget φ 5), (fget φ 6)]) := nrfl rfl
theorem s42_1_3 : stepA E C B 9 r42_1 o42_1_3 (φ, H) = stp (some 8) φ H (just (aBin E.T .geq 3 (fget φ 7) (.int .i64 0))) := nrfl rfl
theorem s42_1_4 : stepA E C B 9 r42_1 o42_1_4 (φ, H) = some (fput φ 4 (fget φ 8), H) := nrfl rfl
noncomputable def c42_4 : Code := kR c42_2
theorem x42_4 : execA E C (fg 42) B 9 E0 N c42_4 s = some (.ret, s) := x_ret (by rfl) s
theorem x42_2 : execA E C (fg 42) B 9 E0 N c42_2 s = seqX (execA E C (fg 42) B 9 E0 N c42_3 s) (execA E C (fg 42) B 9 E0 N c42_4) := x_seq (by rfl) s
theorem x42_0 : execA E C (fg 42) B 9 E0 N c42_0 s = seqX (execA E C (fg 42) B 9 E0 N c42_1 s) (execA E C (fg 42) B 9 E0 N c42_2) := x_seq (by rfl) s
theorem fi_42 : fInfo E 42 = some ⟨9, #[.tmp 4], c42_0⟩ := nrfl rfl
theorem b_42 (args : List AV) : bodyA E C fg N 42 args H B = bodyX E [.tmp 4] (execA E C (fg 42) B 9 H N c42_0 (frame0 args 0 [], H)) := bodyA_eq fi_42 args H
noncomputable def c112_0 : Code := kBody Proofs.Tryd.f112
noncomputable def c112_1 : Code := kL c112_0
noncomputable def r112_0 : Array Oper := kO c112_1
noncomputable def o112_0_0 : Oper := opN r112_0 0
theorem x112_1 : execA E C (fg 112) B 19 E0 N c112_1 s = regX (runA E C B 19 r112_0 r112_0.toList s) (fun s => gcM E0 [4] (forget s.1 [4], s.2)) := x_reg (ops := r112_0) (by rfl) (by rfl) s
theorem r112_0_l : r112_0.toList = [o112_0_0] := nrfl rfl
theorem s112_0_0 : stepA E C B 19 r112_0 o112_0_0 (φ, H) = some (fput φ 4 (.int .i64 0), H) := nrfl rfl
noncomputable def c112_2 : Code := kR c112_0
noncomputable def c112_3 : Code := kL c112_2
noncomputable def c112_4 : Code := kL c112_3
noncomputable def r112_1 : Array Oper := kO c112_4
noncomputable def o112_1_0 : Oper := opN r112_1 0
noncomputable def o112_1_1 : Oper := opN r112_1 1
noncomputable def o112_1_2 : Oper := opN r112_1 2
theorem x112_4 : execA E C (fg 112) B 19 E0 N c112_4 s = regX (runA E C B 19 r112_1 r112_1.toList s) (fun s => gcM E0 [6] (forget s.1 [6], s.2)) := x_reg (ops := r112_1) (by rfl) (by rfl) s
theorem r112_1_l : r112_1.toList = [o112_1_0, o112_1_1, o112_1_2] := nrfl rfl
theorem s112_1_0 : stepA E C B 19 r112_1 o112_1_0 (φ, H) = some (fput φ 6 (fget φ 0), H) := nrfl rfl
theorem s112_1_1 : stepA E C B 19 r112_1 o112_1_1 (φ, H) = stp (some 7) φ H (aBuiltin E.T (B + 7) .len #[23] [(fget φ 6)]) := nrfl rfl
theorem s112_1_2 : stepA E C B 19 r112_1 o112_1_2 (φ, H) = some (fput φ 8 (.int .i64 0), H) := nrfl rfl
noncomputable def c112_5 : Code := kR c112_3
noncomputable def c112_6 : Code := kB c112_5
noncomputable def c112_7 : Code := kB c112_6
noncomputable def c112_8 : Code := kL c112_7
noncomputable def r112_2 : Array Oper := kO c112_8
noncomputable def o112_2_0 : Oper := opN r112_2 0
theorem x112_8 : execA E C (fg 112) B 19 E0 N c112_8 s = regX (runA E C B 19 r112_2 r112_2.toList s) (fun s => gcM E0 [] (forget s.1 [], s.2)) := x_reg (ops := r112_2) (by rfl) (by rfl) s
theorem r112_2_l : r112_2.toList = [o112_2_0] := nrfl rfl
theorem s112_2_0 : stepA E C B 19 r112_2 o112_2_0 (φ, H) = stp (some 9) φ H (just (aBin E.T .lss 3 (fget φ 8) (fget φ 7))) := nrfl rfl
noncomputable def c112_9 : Code := kR c112_7
noncomputable def c112_10 : Code := kL c112_9
noncomputable def c112_11 : Code := kT c112_10
theorem x112_11 : execA E C (fg 112) B 19 E0 N c112_11 s = some (.normal, s) := x_skip (by rfl) s
noncomputable def c112_12 : Code := kE c112_10
theorem x112_12 : execA E C (fg 112) B 19 E0 N c112_12 s = some (.exit 0, s) := x_exit (by rfl) s
theorem x112_10 : execA E C (fg 112) B 19 E0 N c112_10 (φ, H) = condX (fget φ 9) (execA E C (fg 112) B 19 E0 N c112_11 (φ, H)) (execA E C (fg 112) B 19 E0 N c112_12 (φ, H)) := x_cond (by rfl) _
noncomputable def c112_13 : Code := kR c112_9
noncomputable def c112_14 : Code := kL c112_13
noncomputable def c112_15 : Code := kB c112_14
noncomputable def c112_16 : Code := kL c112_15
noncomputable def r112_3 : Array Oper := kO c112_16
noncomputable def o112_3_0 : Oper := opN r112_3 0
noncomputable def o112_3_1 : Oper := opN r112_3 1
theorem x112_16 : execA E C (fg 112) B 19 E0 N c112_16 s = regX (runA E C B 19 r112_3 r112_3.toList s) (fun s => gcM E0 [9, 10] (forget s.1 [9, 10], s.2)) := x_reg (ops := r112_3) (by rfl) (by rfl) s
theorem r112_3_l : r112_3.toList = [o112_3_0, o112_3_1] := nrfl rfl
theorem s112_3_0 : stepA E C B 19 r112_3 o112_3_0 (φ, H) = some (fput φ 10 (fget φ 8), H) := nrfl rfl
theorem s112_3_1 : stepA E C B 19 r112_3 o112_3_1 (φ, H) = some (fput φ 5 (fget φ 10), H) := nrfl rfl
noncomputable def c112_17 : Code := kR c112_15
noncomputable def c112_18 : Code := kL c112_17
noncomputable def r112_4 : Array Oper := kO c112_18
noncomputable def o112_4_0 : Oper := opN r112_4 0
noncomputable def o112_4_1 : Oper := opN r112_4 1
noncomputable def o112_4_2 : Oper := opN r112_4 2
noncomputable def o112_4_3 : Oper := opN r112_4 3
noncomputable def o112_4_4 : Oper := opN r112_4 4
noncomputable def o112_4_5 : Oper := opN r112_4 5
theorem x112_18 : execA E C (fg 112) B 19 E0 N c112_18 s = regX (runA E C B 19 r112_4 r112_4.toList s) (fun s => gcM E0 [11, 12, 13, 14, 15] (forget s.1 [11, 12, 13, 14, 15], s.2)) := x_reg (ops := r112_4) (by rfl) (by rfl) s
theorem r112_4_l : r112_4.toList = [o112_4_0, o112_4_1, o112_4_2, o112_4_3, o112_4_4, o112_4_5] := nrfl rfl
theorem s112_4_0 : stepA E C B 19 r112_4 o112_4_0 (φ, H) = some (fput φ 11 (fget φ 1), H) := nrfl rfl
theorem s112_4_1 : stepA E C B 19 r112_4 o112_4_1 (φ, H) = some (fput φ 12 (fget φ 0), H) := nrfl rfl
theorem s112_4_2 : stepA E C B 19 r112_4 o112_4_2 (φ, H) = some (fput φ 13 (fget φ 5), H) := nrfl rfl
theorem s112_4_3 : stepA E C B 19 r112_4 o112_4_3 (φ, H) = stp (some 14) φ H (just (aIndexAddr E.T 23 (fget φ 12) (fget φ 13))) := nrfl rfl
theorem s112_4_4 : stepA E C B 19 r112_4 o112_4_4 (φ, H) = stp (some 15) φ H (just (aLoad E.T 64 (fget φ 14))) := nrfl rfl
theorem s112_4_5 : stepA E C B 19 r112_4 o112_4_5 (φ, H) = callV E C (B + 19 * 8) (some 16) (fun j => B + j * 19 + 16) φ H (fget φ 11) [(fget φ 15)] true := nrfl rfl
noncomputable def c112_19 : Code := kR c112_17
noncomputable def c112_20 : Code := kT c112_19
noncomputable def c112_21 : Code := kL c112_20
noncomputable def r112_5 : Array Oper := kO c112_21
noncomputable def o112_5_0 : Oper := opN r112_5 0
noncomputable def o112_5_1 : Oper := opN r112_5 1
theorem x112_21 : execA E C (fg 112) B 19 E0 N c112_21 s = regX (runA E C B 19 r112_5 r112_5.toList s) (fun s => gcM E0 [0, 1, 5, 7, 8, 16, 17] (forget s.1 [0, 1, 5, 7, 8, 16, 17], s.2)) := x_reg (ops := r112_5) (by rfl) (by rfl) s
theorem r112_5_l : r112_5.toList = [o112_5_0, o112_5_1] := nrfl rfl
theorem s112_5_0 : stepA E C B 19 r112_5 o112_5_0 (φ, H) = some (fput φ 17 (fget φ 5), H) := nrfl rfl
theorem s112_5_1 : stepA E C B 19 r112_5 o112_5_1 (φ, H) = some (fput φ 4 (fget φ 17), H) := nrfl rfl
noncomputable def c112_22 : Code := kR c112_20
theorem x112_22 : execA E C (fg 112) B 19 E0 N c112_22 s = some (.ret, s) := x_ret (by rfl) s
theorem x112_20 : execA E C (fg 112) B 19 E0 N c112_20 s = seqX (execA E C (fg 112) B 19 E0 N c112_21 s) (execA E C (fg 112) B 19 E0 N c112_22) := x_seq (by rfl) s
noncomputable def c112_23 : Code := kE c112_19
theorem x112_23 : execA E C (fg 112) B 19 E0 N c112_23 s = some (.normal, s) := x_skip (by rfl) s
theorem x112_19 : execA E C (fg 112) B 19 E0 N c112_19 (φ, H) = condX (fget φ 16) (execA E C (fg 112) B 19 E0 N c112_20 (φ, H)) (execA E C (fg 112) B 19 E0 N c112_23 (φ, H)) := x_cond (by rfl) _
theorem x112_17 : execA E C (fg 112) B 19 E0 N c112_17 s = seqX (execA E C (fg 112) B 19 E0 N c112_18 s) (execA E C (fg 112) B 19 E0 N c112_19) := x_seq (by rfl) s
theorem x112_15 : execA E C (fg 112) B 19 E0 N c112_15 s = seqX (execA E C (fg 112) B 19 E0 N c112_16 s) (execA E C (fg 112) B 19 E0 N c112_17) := x_seq (by rfl) s
theorem x112_14 : execA E C (fg 112) B 19 E0 N c112_14 s = blockX 1 (fun s => (forget s.1 [5, 16], s.2)) (execA E C (fg 112) B 19 E0 N c112_15 s) := x_block (by rfl) (by rfl) s
noncomputable def c112_24 : Code := kR c112_13
noncomputable def r112_6 : Array Oper := kO c112_24
noncomputable def o112_6_0 : Oper := opN r112_6 0
noncomputable def o112_6_1 : Oper := opN r112_6 1
theorem x112_24 : execA E C (fg 112) B 19 E0 N c112_24 s = regX (runA E C B 19 r112_6 r112_6.toList s) (fun s => gcM E0 [18] (forget s.1 [18], s.2)) := x_reg (ops := r112_6) (by rfl) (by rfl) s
theorem r112_6_l : r112_6.toList = [o112_6_0, o112_6_1] := nrfl rfl
theorem s112_6_0 : stepA E C B 19 r112_6 o112_6_0 (φ, H) = stp (some 18) φ H (just (aBin E.T .add 3 (fget φ 8) (.int .i64 1))) := nrfl rfl
theorem s112_6_1 : stepA E C B 19 r112_6 o112_6_1 (φ, H) = some (fput φ 8 (fget φ 18), H) := nrfl rfl
theorem x112_13 : execA E C (fg 112) B 19 E0 N c112_13 s = seqX (execA E C (fg 112) B 19 E0 N c112_14 s) (execA E C (fg 112) B 19 E0 N c112_24) := x_seq (by rfl) s
theorem x112_9 : execA E C (fg 112) B 19 E0 N c112_9 s = seqX (execA E C (fg 112) B 19 E0 N c112_10 s) (execA E C (fg 112) B 19 E0 N c112_13) := x_seq (by rfl) s
theorem x112_7 : execA E C (fg 112) B 19 E0 N c112_7 s = seqX (execA E C (fg 112) B 19 E0 N c112_8 s) (execA E C (fg 112) B 19 E0 N c112_9) := x_seq (by rfl) s
theorem x112_6 : execA E C (fg 112) B 19 E0 N c112_6 s = iterA (execA E C (fg 112) B 19 E0 N c112_7) (headA E0) N s := x_loop (by rfl) s
theorem x112_5 : execA E C (fg 112) B 19 E0 N c112_5 s = blockX 0 (fun s => (forget s.1 [0, 1, 7, 8, 9], s.2)) (execA E C (fg 112) B 19 E0 N c112_6 s) := x_block (by rfl) (by rfl) s
theorem x112_3 : execA E C (fg 112) B 19 E0 N c112_3 s = seqX (execA E C (fg 112) B 19 E0 N c112_4 s) (execA E C (fg 112) B 19 E0 N c112_5) := x_seq (by rfl) s
noncomputable def c112_25 : Code := kR c112_2
noncomputable def c112_26 : Code := kL c112_25
noncomputable def r112_7 : Array Oper := kO c112_26
noncomputable def o112_7_0 : Oper := opN r112_7 0
theorem x112_26 : execA E C (fg 112) B 19 E0 N c112_26 s = regX (runA E C B 19 r112_7 r112_7.toList s) (fun s => gcM E0 [] (forget s.1 [], s.2)) := x_reg (ops := r112_7) (by rfl) (by rfl) s
theorem r112_7_l : r112_7.toList = [o112_7_0] := nrfl rfl
theorem s112_7_0 : stepA E C B 19 r112_7 o112_7_0 (φ, H) = some (fput φ 4 (.int .i64 (-1)), H) := nrfl rfl
noncomputable def c112_27 : Code := kR c112_25
theorem x112_27 : execA E C (fg 112) B 19 E0 N c112_27 s = some (.ret, s) := x_ret (by rfl) s
theorem x112_25 : execA E C (fg 112) B 19 E0 N c112_25 s = seqX (execA E C (fg 112) B 19 E0 N c112_26 s) (execA E C (fg 112) B 19 E0 N c112_27) := x_seq (by rfl) s
theorem x112_2 : execA E C (fg 112) B 19 E0 N c112_2 s = seqX (execA E C (fg 112) B 19 E0 N c112_3 s) (execA E C (fg 112) B 19 E0 N c112_25) := x_seq (by rfl) s
theorem x112_0 : execA E C (fg 112) B 19 E0 N c112_0 s = seqX (execA E C (fg 112) B 19 E0 N c112_1 s) (execA E C (fg 112) B 19 E0 N c112_2) := x_seq (by rfl) s
theorem fi_112 : fInfo E 112 = some ⟨19, #[.tmp 4], c112_0⟩ := nrfl rfl
theorem b_112 (args : List AV) : bodyA E C fg N 112 args H B = bodyX E [.tmp 4] (execA E C (fg 112) B 19 H N c112_0 (frame0 args 0 [], H)) := bodyA_eq fi_112 args H
noncomputable def c6_0 : Code := kBody Proofs.Tryd.f6
noncomputable def c6_1 : Code := kL c6_0
noncomputable def r6_0 : Array Oper := kO c6_1
noncomputable def o6_0_0 : Oper := opN r6_0 0
noncomputable def o6_0_1 : Oper := opN r6_0 1
theorem x6_1 : execA E C (fg 6) B 99 E0 N c6_1 s = regX (runA E C B 99 r6_0 r6_0.toList s) (fun s => gcM E0 [0, 2] (forget s.1 [0, 2], s.2)) := x_reg (ops := r6_0) (by rfl) (by rfl) s
theorem r6_0_l : r6_0.toList = [o6_0_0, o6_0_1] := nrfl rfl
theorem s6_0_0 : stepA E C B 99 r6_0 o6_0_0 (φ, H) = stp (some 1) φ H (opBox (B + 1) (acells (fget φ 0))) := nrfl rfl
theorem s6_0_1 : stepA E C B 99 r6_0 o6_0_1 (φ, H) = some (fput φ 2 (.bool false), H) := nrfl rfl
noncomputable def c6_2 : Code := kR c6_0
noncomputable def c6_3 : Code := kL c6_2
noncomputable def r6_1 : Array Oper := kO c6_3
noncomputable def o6_1_0 : Oper := opN r6_1 0
noncomputable def o6_1_1 : Oper := opN r6_1 1
noncomputable def o6_1_2 : Oper := opN r6_1 2
noncomputable def o6_1_3 : Oper := opN r6_1 3
theorem x6_3 : execA E C (fg 6) B 99 E0 N c6_3 s = regX (runA E C B 99 r6_1 r6_1.toList s) (fun s => gcM E0 [1, 17, 18] (forget s.1 [1, 17, 18], s.2)) := x_reg (ops := r6_1) (by rfl) (by rfl) s
theorem r6_1_l : r6_1.toList = [o6_1_0, o6_1_1, o6_1_2, o6_1_3] := nrfl rfl
theorem s6_1_0 : stepA E C B 99 r6_1 o6_1_0 (φ, H) = stp (some 17) φ H (just (aLoad E.T 58 (fget φ 1))) := nrfl rfl
theorem s6_1_1 : stepA E C B 99 r6_1 o6_1_1 (φ, H) = stp (some 18) φ H (aCall C (fun j => B + j * 99 + 18) true 40 [(fget φ 17), (.int .i64 6)]) := nrfl rfl
theorem s6_1_2 : stepA E C B 99 r6_1 o6_1_2 (φ, H) = stp (some 3) φ H (opBox (B + 3) (zeroCells E.T 25)) := nrfl rfl
theorem s6_1_3 : stepA E C B 99 r6_1 o6_1_3 (φ, H) = stp none φ H (opStore E.T 25 (fget φ 3) (fget φ 18)) := nrfl rfl
noncomputable def c6_4 : Code := kR c6_2
noncomputable def c6_5 : Code := kL c6_4
noncomputable def r6_2 : Array Oper := kO c6_5
noncomputable def o6_2_0 : Oper := opN r6_2 0
noncomputable def o6_2_1 : Oper := opN r6_2 1
noncomputable def o6_2_2 : Oper := opN r6_2 2
noncomputable def o6_2_3 : Oper := opN r6_2 3
theorem x6_5 : execA E C (fg 6) B 99 E0 N c6_5 s = regX (runA E C B 99 r6_2 r6_2.toList s) (fun s => gcM E0 [19, 20, 21] (forget s.1 [19, 20, 21], s.2)) := x_reg (ops := r6_2) (by rfl) (by rfl) s
theorem r6_2_l : r6_2.toList = [o6_2_0, o6_2_1, o6_2_2, o6_2_3] := nrfl rfl
theorem s6_2_0 : stepA E C B 99 r6_2 o6_2_0 (φ, H) = stp (some 19) φ H (just (aFieldAddr E.T 25 (fget φ 3) 0)) := nrfl rfl
theorem s6_2_1 : stepA E C B 99 r6_2 o6_2_1 (φ, H) = stp (some 20) φ H (just (aLoad E.T 22 (fget φ 19))) := nrfl rfl
theorem s6_2_2 : stepA E C B 99 r6_2 o6_2_2 (φ, H) = stp (some 21) φ H (aBuiltin E.T (B + 21) .len #[22] [(fget φ 20)]) := nrfl rfl
theorem s6_2_3 : stepA E C B 99 r6_2 o6_2_3 (φ, H) = some (fput φ 4 (fget φ 21), H) := nrfl rfl
noncomputable def c6_6 : Code := kR c6_4
noncomputable def c6_7 : Code := kL c6_6
noncomputable def r6_3 : Array Oper := kO c6_7
noncomputable def o6_3_0 : Oper := opN r6_3 0
noncomputable def o6_3_1 : Oper := opN r6_3 1
noncomputable def o6_3_2 : Oper := opN r6_3 2
noncomputable def o6_3_3 : Oper := opN r6_3 3
noncomputable def o6_3_4 : Oper := opN r6_3 4
noncomputable def o6_3_5 : Oper := opN r6_3 5
noncomputable def o6_3_6 : Oper := opN r6_3 6
theorem x6_7 : execA E C (fg 6) B 99 E0 N c6_7 s = regX (runA E C B 99 r6_3 r6_3.toList s) (fun s => gcM E0 [22, 23, 24, 25, 26] (forget s.1 [22, 23, 24, 25, 26], s.2)) := x_reg (ops := r6_3) (by rfl) (by rfl) s
theorem r6_3_l : r6_3.toList = [o6_3_0, o6_3_1, o6_3_2, o6_3_3, o6_3_4, o6_3_5, o6_3_6] := nrfl rfl
theorem s6_3_0 : stepA E C B 99 r6_3 o6_3_0 (φ, H) = stp (some 23) φ H (just (aLoad E.T 25 (fget φ 3))) := nrfl rfl
theorem s6_3_1 : stepA E C B 99 r6_3 o6_3_1 (φ, H) = stp (some 24) φ H (aCall C (fun j => B + j * 99 + 24) true 21 [(fget φ 23)]) := nrfl rfl
theorem s6_3_2 : stepA E C B 99 r6_3 o6_3_2 (φ, H) = some (fput φ 22 (fget φ 24), H) := nrfl rfl
theorem s6_3_3 : stepA E C B 99 r6_3 o6_3_3 (φ, H) = stp (some 25) φ H (opExtract (fget φ 22) 0) := nrfl rfl
theorem s6_3_4 : stepA E C B 99 r6_3 o6_3_4 (φ, H) = stp (some 26) φ H (opExtract (fget φ 22) 1) := nrfl rfl
theorem s6_3_5 : stepA E C B 99 r6_3 o6_3_5 (φ, H) = some (fput φ 5 (fget φ 25), H) := nrfl rfl
theorem s6_3_6 : stepA E C B 99 r6_3 o6_3_6 (φ, H) = some (fput φ 6 (fget φ 26), H) := nrfl rfl
noncomputable def c6_8 : Code := kR c6_6
noncomputable def c6_9 : Code := kL c6_8
noncomputable def c6_10 : Code := kL c6_9
noncomputable def r6_4 : Array Oper := kO c6_10
noncomputable def o6_4_0 : Oper := opN r6_4 0
noncomputable def o6_4_1 : Oper := opN r6_4 1
noncomputable def o6_4_2 : Oper := opN r6_4 2
noncomputable def o6_4_3 : Oper := opN r6_4 3
noncomputable def o6_4_4 : Oper := opN r6_4 4
noncomputable def o6_4_5 : Oper := opN r6_4 5
noncomputable def o6_4_6 : Oper := opN r6_4 6
noncomputable def o6_4_7 : Oper := opN r6_4 7
theorem x6_10 : execA E C (fg 6) B 99 E0 N c6_10 s = regX (runA E C B 99 r6_4 r6_4.toList s) (fun s => gcM E0 [6, 27, 28, 29, 30, 31, 32, 33] (forget s.1 [6, 27, 28, 29, 30, 31, 32, 33], s.2)) := x_reg (ops := r6_4) (by rfl) (by rfl) s
theorem r6_4_l : r6_4.toList = [o6_4_0, o6_4_1, o6_4_2, o6_4_3, o6_4_4, o6_4_5, o6_4_6, o6_4_7] := nrfl rfl
theorem s6_4_0 : stepA E C B 99 r6_4 o6_4_0 (φ, H) = some (fput φ 27 (fget φ 6), H) := nrfl rfl
theorem s6_4_1 : stepA E C B 99 r6_4 o6_4_1 (φ, H) = stp (some 28) φ H (just (aBin E.T .neq 32 (fget φ 27) (.int .i64 0))) := nrfl rfl
theorem s6_4_2 : stepA E C B 99 r6_4 o6_4_2 (φ, H) = some (fput φ 29 (fget φ 28), H) := nrfl rfl
theorem s6_4_3 : stepA E C B 99 r6_4 o6_4_3 (φ, H) = gd φ 29 false (fun φ => some (fput φ 30 (.tup []), H)) (fun φ => some (fput φ 30 (fget φ 5), H)) := s_gd (j := 2) (oj := o6_4_2) rfl rfl rfl (fun _ => rfl) (fun _ => rfl)
theorem s6_4_4 : stepA E C B 99 r6_4 o6_4_4 (φ, H) = gd φ 29 false (fun φ => some (fput φ 31 (.tup []), H)) (fun φ => stp (some 31) φ H (aBuiltin E.T (B + 31) .len #[36] [(fget φ 30)])) := s_gd (j := 2) (oj := o6_4_2) rfl rfl rfl (fun _ => rfl) (fun _ => rfl)
theorem s6_4_5 : stepA E C B 99 r6_4 o6_4_5 (φ, H) = gd φ 29 false (fun φ => some (fput φ 32 (.tup []), H)) (fun φ => some (fput φ 32 (fget φ 4), H)) := s_gd (j := 2) (oj := o6_4_2) rfl rfl rfl (fun _ => rfl) (fun _ => rfl)
theorem s6_4_6 : stepA E C B 99 r6_4 o6_4_6 (φ, H) = gd φ 29 false (fun φ => some (fput φ 33 (.tup []), H)) (fun φ => stp (some 33) φ H (just (aBin E.T .neq 3 (fget φ 31) (fget φ 32)))) := s_gd (j := 2) (oj := o6_4_2) rfl rfl rfl (fun _ => rfl) (fun _ => rfl)
theorem s6_4_7 : stepA E C B 99 r6_4 o6_4_7 (φ, H) = stp (some 34) φ H (opPick (fget φ 29) (.bool true) (fget φ 33)) := nrfl rfl
noncomputable def c6_11 : Code := kR c6_9
noncomputable def c6_12 : Code := kT c6_11
noncomputable def c6_13 : Code := kL c6_12
noncomputable def r6_5 : Array Oper := kO c6_13
noncomputable def o6_5_0 : Oper := opN r6_5 0
theorem x6_13 : execA E C (fg 6) B 99 E0 N c6_13 s = regX (runA E C B 99 r6_5 r6_5.toList s) (fun s => gcM E0 [3, 4, 5, 34] (forget s.1 [3, 4, 5, 34], s.2)) := x_reg (ops := r6_5) (by rfl) (by rfl) s
theorem r6_5_l : r6_5.toList = [o6_5_0] := nrfl rfl
theorem s6_5_0 : stepA E C B 99 r6_5 o6_5_0 (φ, H) = some (fput φ 2 (.bool false), H) := nrfl rfl
noncomputable def c6_14 : Code := kR c6_12
theorem x6_14 : execA E C (fg 6) B 99 E0 N c6_14 s = some (.ret, s) := x_ret (by rfl) s
theorem x6_12 : execA E C (fg 6) B 99 E0 N c6_12 s = seqX (execA E C (fg 6) B 99 E0 N c6_13 s) (execA E C (fg 6) B 99 E0 N c6_14) := x_seq (by rfl) s
noncomputable def c6_15 : Code := kE c6_11
theorem x6_15 : execA E C (fg 6) B 99 E0 N c6_15 s = some (.normal, s) := x_skip (by rfl) s
theorem x6_11 : execA E C (fg 6) B 99 E0 N c6_11 (φ, H) = condX (fget φ 34) (execA E C (fg 6) B 99 E0 N c6_12 (φ, H)) (execA E C (fg 6) B 99 E0 N c6_15 (φ, H)) := x_cond (by rfl) _
theorem x6_9 : execA E C (fg 6) B 99 E0 N c6_9 s = seqX (execA E C (fg 6) B 99 E0 N c6_10 s) (execA E C (fg 6) B 99 E0 N c6_11) := x_seq (by rfl) s
noncomputable def c6_16 : Code := kR c6_8
noncomputable def c6_17 : Code := kL c6_16
noncomputable def r6_6 : Array Oper := kO c6_17
noncomputable def o6_6_0 : Oper := opN r6_6 0
noncomputable def o6_6_1 : Oper := opN r6_6 1
noncomputable def o6_6_2 : Oper := opN r6_6 2
noncomputable def o6_6_3 : Oper := opN r6_6 3
noncomputable def o6_6_4 : Oper := opN r6_6 4
theorem x6_17 : execA E C (fg 6) B 99 E0 N c6_17 s = regX (runA E C B 99 r6_6 r6_6.toList s) (fun s => gcM E0 [34, 35, 36, 37] (forget s.1 [34, 35, 36, 37], s.2)) := x_reg (ops := r6_6) (by rfl) (by rfl) s
theorem r6_6_l : r6_6.toList = [o6_6_0, o6_6_1, o6_6_2, o6_6_3, o6_6_4] := nrfl rfl
theorem s6_6_0 : stepA E C B 99 r6_6 o6_6_0 (φ, H) = some (fput φ 35 (fget φ 4), H) := nrfl rfl
theorem s6_6_1 : stepA E C B 99 r6_6 o6_6_1 (φ, H) = stp (some 36) φ H (just (aBin E.T .shl 3 (.int .i64 1) (fget φ 35))) := nrfl rfl
theorem s6_6_2 : stepA E C B 99 r6_6 o6_6_2 (φ, H) = stp (some 37) φ H (just (aBin E.T .sub 3 (fget φ 36) (.int .i64 1))) := nrfl rfl
theorem s6_6_3 : stepA E C B 99 r6_6 o6_6_3 (φ, H) = stp (some 7) φ H (opBox (B + 7) (zeroCells E.T 3)) := nrfl rfl
theorem s6_6_4 : stepA E C B 99 r6_6 o6_6_4 (φ, H) = stp none φ H (opStore E.T 3 (fget φ 7) (fget φ 37)) := nrfl rfl
noncomputable def c6_18 : Code := kR c6_16
noncomputable def c6_19 : Code := kL c6_18
noncomputable def c6_20 : Code := kL c6_19
noncomputable def r6_7 : Array Oper := kO c6_20
noncomputable def o6_7_0 : Oper := opN r6_7 0
noncomputable def o6_7_1 : Oper := opN r6_7 1
noncomputable def o6_7_2 : Oper := opN r6_7 2
theorem x6_20 : execA E C (fg 6) B 99 E0 N c6_20 s = regX (runA E C B 99 r6_7 r6_7.toList s) (fun s => gcM E0 [4, 38, 39] (forget s.1 [4, 38, 39], s.2)) := x_reg (ops := r6_7) (by rfl) (by rfl) s
theorem r6_7_l : r6_7.toList = [o6_7_0, o6_7_1, o6_7_2] := nrfl rfl
theorem s6_7_0 : stepA E C B 99 r6_7 o6_7_0 (φ, H) = some (fput φ 38 (fget φ 4), H) := nrfl rfl
theorem s6_7_1 : stepA E C B 99 r6_7 o6_7_1 (φ, H) = stp (some 39) φ H (just (aBin E.T .sub 3 (fget φ 38) (.int .i64 1))) := nrfl rfl
theorem s6_7_2 : stepA E C B 99 r6_7 o6_7_2 (φ, H) = some (fput φ 8 (fget φ 39), H) := nrfl rfl
noncomputable def c6_21 : Code := kR c6_19
noncomputable def c6_22 : Code := kB c6_21
noncomputable def c6_23 : Code := kB c6_22
noncomputable def c6_24 : Code := kL c6_23
noncomputable def c6_25 : Code := kL c6_24
noncomputable def r6_8 : Array Oper := kO c6_25
noncomputable def o6_8_0 : Oper := opN r6_8 0
noncomputable def o6_8_1 : Oper := opN r6_8 1
theorem x6_25 : execA E C (fg 6) B 99 E0 N c6_25 s = regX (runA E C B 99 r6_8 r6_8.toList s) (fun s => gcM E0 [40] (forget s.1 [40], s.2)) := x_reg (ops := r6_8) (by rfl) (by rfl) s
theorem r6_8_l : r6_8.toList = [o6_8_0, o6_8_1] := nrfl rfl
theorem s6_8_0 : stepA E C B 99 r6_8 o6_8_0 (φ, H) = some (fput φ 40 (fget φ 8), H) := nrfl rfl
theorem s6_8_1 : stepA E C B 99 r6_8 o6_8_1 (φ, H) = stp (some 41) φ H (just (aBin E.T .geq 3 (fget φ 40) (.int .i64 0))) := nrfl rfl
noncomputable def c6_26 : Code := kR c6_24
noncomputable def c6_27 : Code := kT c6_26
theorem x6_27 : execA E C (fg 6) B 99 E0 N c6_27 s = some (.normal, s) := x_skip (by rfl) s
noncomputable def c6_28 : Code := kE c6_26
theorem x6_28 : execA E C (fg 6) B 99 E0 N c6_28 s = some (.exit 0, s) := x_exit (by rfl) s
theorem x6_26 : execA E C (fg 6) B 99 E0 N c6_26 (φ, H) = condX (fget φ 41) (execA E C (fg 6) B 99 E0 N c6_27 (φ, H)) (execA E C (fg 6) B 99 E0 N c6_28 (φ, H)) := x_cond (by rfl) _
theorem x6_24 : execA E C (fg 6) B 99 E0 N c6_24 s = seqX (execA E C (fg 6) B 99 E0 N c6_25 s) (execA E C (fg 6) B 99 E0 N c6_26) := x_seq (by rfl) s
noncomputable def c6_29 : Code := kR c6_23
noncomputable def c6_30 : Code := kL c6_29
noncomputable def c6_31 : Code := kB c6_30
noncomputable def c6_32 : Code := kL c6_31
noncomputable def r6_10 : Array Oper := kO c6_32
noncomputable def o6_10_0 : Oper := opN r6_10 0
theorem x6_32 : execA E C (fg 6) B 99 E0 N c6_32 s = regX (runA E C B 99 r6_10 r6_10.toList s) (fun s => gcM E0 [41] (forget s.1 [41], s.2)) := x_reg (ops := r6_10) (by rfl) (by rfl) s
theorem r6_10_l : r6_10.toList = [o6_10_0] := nrfl rfl
theorem s6_10_0 : stepA E C B 99 r6_10 o6_10_0 (φ, H) = some (fput φ 9 (.int .i64 0), H) := nrfl rfl
noncomputable def c6_33 : Code := kR c6_31
noncomputable def c6_34 : Code := kL c6_33
noncomputable def c6_35 : Code := kL c6_34
noncomputable def r6_11 : Array Oper := kO c6_35
noncomputable def o6_11_0 : Oper := opN r6_11 0
noncomputable def o6_11_1 : Oper := opN r6_11 1
noncomputable def o6_11_2 : Oper := opN r6_11 2
noncomputable def o6_11_3 : Oper := opN r6_11 3
theorem x6_35 : execA E C (fg 6) B 99 E0 N c6_35 s = regX (runA E C B 99 r6_11 r6_11.toList s) (fun s => gcM E0 [44] (forget s.1 [44], s.2)) := x_reg (ops := r6_11) (by rfl) (by rfl) s
theorem r6_11_l : r6_11.toList = [o6_11_0, o6_11_1, o6_11_2, o6_11_3] := nrfl rfl
theorem s6_11_0 : stepA E C B 99 r6_11 o6_11_0 (φ, H) = stp (some 44) φ H (just (aLoad E.T 3 (fget φ 7))) := nrfl rfl
theorem s6_11_1 : stepA E C B 99 r6_11 o6_11_1 (φ, H) = stp (some 45) φ H (aCall C (fun j => B + j * 99 + 45) true 41 [(fget φ 44)]) := nrfl rfl
theorem s6_11_2 : stepA E C B 99 r6_11 o6_11_2 (φ, H) = stp (some 46) φ H (aBuiltin E.T (B + 46) .len #[36] [(fget φ 45)]) := nrfl rfl
theorem s6_11_3 : stepA E C B 99 r6_11 o6_11_3 (φ, H) = some (fput φ 47 (.int .i64 0), H) := nrfl rfl
noncomputable def c6_36 : Code := kR c6_34
noncomputable def c6_37 : Code := kB c6_36
noncomputable def c6_38 : Code := kB c6_37
noncomputable def c6_39 : Code := kL c6_38
noncomputable def r6_12 : Array Oper := kO c6_39
noncomputable def o6_12_0 : Oper := opN r6_12 0
theorem x6_39 : execA E C (fg 6) B 99 E0 N c6_39 s = regX (runA E C B 99 r6_12 r6_12.toList s) (fun s => gcM E0 [] (forget s.1 [], s.2)) := x_reg (ops := r6_12) (by rfl) (by rfl) s
theorem r6_12_l : r6_12.toList = [o6_12_0] := nrfl rfl
theorem s6_12_0 : stepA E C B 99 r6_12 o6_12_0 (φ, H) = stp (some 48) φ H (just (aBin E.T .lss 3 (fget φ 47) (fget φ 46))) := nrfl rfl
noncomputable def c6_40 : Code := kR c6_38
noncomputable def c6_41 : Code := kL c6_40
noncomputable def c6_42 : Code := kT c6_41
theorem x6_42 : execA E C (fg 6) B 99 E0 N c6_42 s = some (.normal, s) := x_skip (by rfl) s
noncomputable def c6_43 : Code := kE c6_41
theorem x6_43 : execA E C (fg 6) B 99 E0 N c6_43 s = some (.exit 2, s) := x_exit (by rfl) s
theorem x6_41 : execA E C (fg 6) B 99 E0 N c6_41 (φ, H) = condX (fget φ 48) (execA E C (fg 6) B 99 E0 N c6_42 (φ, H)) (execA E C (fg 6) B 99 E0 N c6_43 (φ, H)) := x_cond (by rfl) _
noncomputable def c6_44 : Code := kR c6_40
noncomputable def c6_45 : Code := kL c6_44
noncomputable def c6_46 : Code := kB c6_45
noncomputable def c6_47 : Code := kL c6_46
noncomputable def r6_13 : Array Oper := kO c6_47
noncomputable def o6_13_0 : Oper := opN r6_13 0
noncomputable def o6_13_1 : Oper := opN r6_13 1
noncomputable def o6_13_2 : Oper := opN r6_13 2
theorem x6_47 : execA E C (fg 6) B 99 E0 N c6_47 s = regX (runA E C B 99 r6_13 r6_13.toList s) (fun s => gcM E0 [48, 49, 50] (forget s.1 [48, 49, 50], s.2)) := x_reg (ops := r6_13) (by rfl) (by rfl) s
theorem r6_13_l : r6_13.toList = [o6_13_0, o6_13_1, o6_13_2] := nrfl rfl
theorem s6_13_0 : stepA E C B 99 r6_13 o6_13_0 (φ, H) = stp (some 49) φ H (just (aIndexAddr E.T 36 (fget φ 45) (fget φ 47))) := nrfl rfl
theorem s6_13_1 : stepA E C B 99 r6_13 o6_13_1 (φ, H) = stp (some 50) φ H (just (aLoad E.T 3 (fget φ 49))) := nrfl rfl
theorem s6_13_2 : stepA E C B 99 r6_13 o6_13_2 (φ, H) = some (fput φ 11 (fget φ 50), H) := nrfl rfl
noncomputable def c6_48 : Code := kR c6_46
noncomputable def r6_14 : Array Oper := kO c6_48
noncomputable def o6_14_0 : Oper := opN r6_14 0
noncomputable def o6_14_1 : Oper := opN r6_14 1
noncomputable def o6_14_2 : Oper := opN r6_14 2
noncomputable def o6_14_3 : Oper := opN r6_14 3
noncomputable def o6_14_4 : Oper := opN r6_14 4
noncomputable def o6_14_5 : Oper := opN r6_14 5
noncomputable def o6_14_6 : Oper := opN r6_14 6
noncomputable def o6_14_7 : Oper := opN r6_14 7
noncomputable def o6_14_8 : Oper := opN r6_14 8
theorem x6_48 : execA E C (fg 6) B 99 E0 N c6_48 s = regX (runA E C B 99 r6_14 r6_14.toList s) (fun s => gcM E0 [11, 51, 52, 53, 54, 55, 56, 57, 58] (forget s.1 [11, 51, 52, 53, 54, 55, 56, 57, 58], s.2)) := x_reg (ops := r6_14) (by rfl) (by rfl) s
theorem r6_14_l : r6_14.toList = [o6_14_0, o6_14_1, o6_14_2, o6_14_3, o6_14_4, o6_14_5, o6_14_6, o6_14_7, o6_14_8] := nrfl rfl
theorem s6_14_0 : stepA E C B 99 r6_14 o6_14_0 (φ, H) = some (fput φ 51 (fget φ 9), H) := nrfl rfl
theorem s6_14_1 : stepA E C B 99 r6_14 o6_14_1 (φ, H) = stp (some 52) φ H (just (aFieldAddr E.T 25 (fget φ 3) 0)) := nrfl rfl
theorem s6_14_2 : stepA E C B 99 r6_14 o6_14_2 (φ, H) = stp (some 53) φ H (just (aLoad E.T 22 (fget φ 52))) := nrfl rfl
theorem s6_14_3 : stepA E C B 99 r6_14 o6_14_3 (φ, H) = some (fput φ 54 (fget φ 11), H) := nrfl rfl
theorem s6_14_4 : stepA E C B 99 r6_14 o6_14_4 (φ, H) = stp (some 55) φ H (just (aIndexAddr E.T 22 (fget φ 53) (fget φ 54))) := nrfl rfl
theorem s6_14_5 : stepA E C B 99 r6_14 o6_14_5 (φ, H) = stp (some 56) φ H (just (aFieldAddr E.T 62 (fget φ 55) 1)) := nrfl rfl
theorem s6_14_6 : stepA E C B 99 r6_14 o6_14_6 (φ, H) = stp (some 57) φ H (just (aLoad E.T 3 (fget φ 56))) := nrfl rfl
theorem s6_14_7 : stepA E C B 99 r6_14 o6_14_7 (φ, H) = stp (some 58) φ H (just (aBin E.T .add 3 (fget φ 51) (fget φ 57))) := nrfl rfl
theorem s6_14_8 : stepA E C B 99 r6_14 o6_14_8 (φ, H) = some (fput φ 9 (fget φ 58), H) := nrfl rfl
theorem x6_46 : execA E C (fg 6) B 99 E0 N c6_46 s = seqX (execA E C (fg 6) B 99 E0 N c6_47 s) (execA E C (fg 6) B 99 E0 N c6_48) := x_seq (by rfl) s
theorem x6_45 : execA E C (fg 6) B 99 E0 N c6_45 s = blockX 3 (fun s => (forget s.1 [], s.2)) (execA E C (fg 6) B 99 E0 N c6_46 s) := x_block (by rfl) (by rfl) s
noncomputable def c6_49 : Code := kR c6_44
noncomputable def r6_15 : Array Oper := kO c6_49
noncomputable def o6_15_0 : Oper := opN r6_15 0
noncomputable def o6_15_1 : Oper := opN r6_15 1
theorem x6_49 : execA E C (fg 6) B 99 E0 N c6_49 s = regX (runA E C B 99 r6_15 r6_15.toList s) (fun s => gcM E0 [59] (forget s.1 [59], s.2)) := x_reg (ops := r6_15) (by rfl) (by rfl) s
theorem r6_15_l : r6_15.toList = [o6_15_0, o6_15_1] := nrfl rfl
theorem s6_15_0 : stepA E C B 99 r6_15 o6_15_0 (φ, H) = stp (some 59) φ H (just (aBin E.T .add 3 (fget φ 47) (.int .i64 1))) := nrfl rfl
theorem s6_15_1 : stepA E C B 99 r6_15 o6_15_1 (φ, H) = some (fput φ 47 (fget φ 59), H) := nrfl rfl
theorem x6_44 : execA E C (fg 6) B 99 E0 N c6_44 s = seqX (execA E C (fg 6) B 99 E0 N c6_45 s) (execA E C (fg 6) B 99 E0 N c6_49) := x_seq (by rfl) s
theorem x6_40 : execA E C (fg 6) B 99 E0 N c6_40 s = seqX (execA E C (fg 6) B 99 E0 N c6_41 s) (execA E C (fg 6) B 99 E0 N c6_44) := x_seq (by rfl) s
theorem x6_38 : execA E C (fg 6) B 99 E0 N c6_38 s = seqX (execA E C (fg 6) B 99 E0 N c6_39 s) (execA E C (fg 6) B 99 E0 N c6_40) := x_seq (by rfl) s
theorem x6_37 : execA E C (fg 6) B 99 E0 N c6_37 s = iterA (execA E C (fg 6) B 99 E0 N c6_38) (headA E0) N s := x_loop (by rfl) s
theorem x6_36 : execA E C (fg 6) B 99 E0 N c6_36 s = blockX 2 (fun s => (forget s.1 [45, 46, 47, 48], s.2)) (execA E C (fg 6) B 99 E0 N c6_37 s) := x_block (by rfl) (by rfl) s
theorem x6_34 : execA E C (fg 6) B 99 E0 N c6_34 s = seqX (execA E C (fg 6) B 99 E0 N c6_35 s) (execA E C (fg 6) B 99 E0 N c6_36) := x_seq (by rfl) s
noncomputable def c6_50 : Code := kR c6_33
noncomputable def c6_51 : Code := kL c6_50
noncomputable def r6_16 : Array Oper := kO c6_51
noncomputable def o6_16_0 : Oper := opN r6_16 0
noncomputable def o6_16_1 : Oper := opN r6_16 1
theorem x6_51 : execA E C (fg 6) B 99 E0 N c6_51 s = regX (runA E C B 99 r6_16 r6_16.toList s) (fun s => gcM E0 [] (forget s.1 [], s.2)) := x_reg (ops := r6_16) (by rfl) (by rfl) s
theorem r6_16_l : r6_16.toList = [o6_16_0, o6_16_1] := nrfl rfl
theorem s6_16_0 : stepA E C B 99 r6_16 o6_16_0 (φ, H) = some (fput φ 12 (.int .i64 (-1)), H) := nrfl rfl
theorem s6_16_1 : stepA E C B 99 r6_16 o6_16_1 (φ, H) = some (fput φ 13 (.int .i64 0), H) := nrfl rfl
noncomputable def c6_52 : Code := kR c6_50
noncomputable def c6_53 : Code := kL c6_52
noncomputable def c6_54 : Code := kL c6_53
noncomputable def r6_17 : Array Oper := kO c6_54
noncomputable def o6_17_0 : Oper := opN r6_17 0
noncomputable def o6_17_1 : Oper := opN r6_17 1
noncomputable def o6_17_2 : Oper := opN r6_17 2
noncomputable def o6_17_3 : Oper := opN r6_17 3
theorem x6_54 : execA E C (fg 6) B 99 E0 N c6_54 s = regX (runA E C B 99 r6_17 r6_17.toList s) (fun s => gcM E0 [60] (forget s.1 [60], s.2)) := x_reg (ops := r6_17) (by rfl) (by rfl) s
theorem r6_17_l : r6_17.toList = [o6_17_0, o6_17_1, o6_17_2, o6_17_3] := nrfl rfl
theorem s6_17_0 : stepA E C B 99 r6_17 o6_17_0 (φ, H) = stp (some 60) φ H (just (aLoad E.T 3 (fget φ 7))) := nrfl rfl
theorem s6_17_1 : stepA E C B 99 r6_17 o6_17_1 (φ, H) = stp (some 61) φ H (aCall C (fun j => B + j * 99 + 61) true 41 [(fget φ 60)]) := nrfl rfl
theorem s6_17_2 : stepA E C B 99 r6_17 o6_17_2 (φ, H) = stp (some 62) φ H (aBuiltin E.T (B + 62) .len #[36] [(fget φ 61)]) := nrfl rfl
theorem s6_17_3 : stepA E C B 99 r6_17 o6_17_3 (φ, H) = some (fput φ 63 (.int .i64 0), H) := nrfl rfl
noncomputable def c6_55 : Code := kR c6_53
noncomputable def c6_56 : Code := kB c6_55
noncomputable def c6_57 : Code := kB c6_56
noncomputable def c6_58 : Code := kL c6_57
noncomputable def r6_18 : Array Oper := kO c6_58
noncomputable def o6_18_0 : Oper := opN r6_18 0
theorem x6_58 : execA E C (fg 6) B 99 E0 N c6_58 s = regX (runA E C B 99 r6_18 r6_18.toList s) (fun s => gcM E0 [] (forget s.1 [], s.2)) := x_reg (ops := r6_18) (by rfl) (by rfl) s
theorem r6_18_l : r6_18.toList = [o6_18_0] := nrfl rfl
theorem s6_18_0 : stepA E C B 99 r6_18 o6_18_0 (φ, H) = stp (some 64) φ H (just (aBin E.T .lss 3 (fget φ 63) (fget φ 62))) := nrfl rfl
noncomputable def c6_59 : Code := kR c6_57
noncomputable def c6_60 : Code := kL c6_59
noncomputable def c6_61 : Code := kT c6_60
theorem x6_61 : execA E C (fg 6) B 99 E0 N c6_61 s = some (.normal, s) := x_skip (by rfl) s
noncomputable def c6_62 : Code := kE c6_60
theorem x6_62 : execA E C (fg 6) B 99 E0 N c6_62 s = some (.exit 4, s) := x_exit (by rfl) s
theorem x6_60 : execA E C (fg 6) B 99 E0 N c6_60 (φ, H) = condX (fget φ 64) (execA E C (fg 6) B 99 E0 N c6_61 (φ, H)) (execA E C (fg 6) B 99 E0 N c6_62 (φ, H)) := x_cond (by rfl) _
noncomputable def c6_63 : Code := kR c6_59
noncomputable def c6_64 : Code := kL c6_63
noncomputable def c6_65 : Code := kB c6_64
noncomputable def c6_66 : Code := kL c6_65
noncomputable def r6_19 : Array Oper := kO c6_66
noncomputable def o6_19_0 : Oper := opN r6_19 0
noncomputable def o6_19_1 : Oper := opN r6_19 1
noncomputable def o6_19_2 : Oper := opN r6_19 2
noncomputable def o6_19_3 : Oper := opN r6_19 3
theorem x6_66 : execA E C (fg 6) B 99 E0 N c6_66 s = regX (runA E C B 99 r6_19 r6_19.toList s) (fun s => gcM E0 [64, 65, 66] (forget s.1 [64, 65, 66], s.2)) := x_reg (ops := r6_19) (by rfl) (by rfl) s
theorem r6_19_l : r6_19.toList = [o6_19_0, o6_19_1, o6_19_2, o6_19_3] := nrfl rfl
theorem s6_19_0 : stepA E C B 99 r6_19 o6_19_0 (φ, H) = stp (some 65) φ H (just (aIndexAddr E.T 36 (fget φ 61) (fget φ 63))) := nrfl rfl
theorem s6_19_1 : stepA E C B 99 r6_19 o6_19_1 (φ, H) = stp (some 66) φ H (just (aLoad E.T 3 (fget φ 65))) := nrfl rfl
theorem s6_19_2 : stepA E C B 99 r6_19 o6_19_2 (φ, H) = stp (some 15) φ H (opBox (B + 15) (zeroCells E.T 3)) := nrfl rfl
theorem s6_19_3 : stepA E C B 99 r6_19 o6_19_3 (φ, H) = stp none φ H (opStore E.T 3 (fget φ 15) (fget φ 66)) := nrfl rfl
noncomputable def c6_67 : Code := kR c6_65
noncomputable def c6_68 : Code := kL c6_67
noncomputable def c6_69 : Code := kL c6_68
noncomputable def r6_20 : Array Oper := kO c6_69
noncomputable def o6_20_0 : Oper := opN r6_20 0
noncomputable def o6_20_1 : Oper := opN r6_20 1
noncomputable def o6_20_2 : Oper := opN r6_20 2
noncomputable def o6_20_3 : Oper := opN r6_20 3
theorem x6_69 : execA E C (fg 6) B 99 E0 N c6_69 s = regX (runA E C B 99 r6_20 r6_20.toList s) (fun s => gcM E0 [67, 68, 69] (forget s.1 [67, 68, 69], s.2)) := x_reg (ops := r6_20) (by rfl) (by rfl) s
theorem r6_20_l : r6_20.toList = [o6_20_0, o6_20_1, o6_20_2, o6_20_3] := nrfl rfl
theorem s6_20_0 : stepA E C B 99 r6_20 o6_20_0 (φ, H) = stp (some 67) φ H (just (aFieldAddr E.T 25 (fget φ 3) 1)) := nrfl rfl
theorem s6_20_1 : stepA E C B 99 r6_20 o6_20_1 (φ, H) = stp (some 68) φ H (just (aLoad E.T 23 (fget φ 67))) := nrfl rfl
theorem s6_20_2 : stepA E C B 99 r6_20 o6_20_2 (φ, H) = stp (some 69) φ H (.pure (.clo 43 [(fget φ 15), (fget φ 7)], [])) := nrfl rfl
theorem s6_20_3 : stepA E C B 99 r6_20 o6_20_3 (φ, H) = stp (some 70) φ H (aCall C (fun j => B + j * 99 + 70) true 42 [(fget φ 68), (fget φ 69)]) := nrfl rfl
noncomputable def c6_70 : Code := kR c6_68
noncomputable def c6_71 : Code := kT c6_70
theorem x6_71 : execA E C (fg 6) B 99 E0 N c6_71 s = some (.exit 5, s) := x_exit (by rfl) s
noncomputable def c6_72 : Code := kE c6_70
theorem x6_72 : execA E C (fg 6) B 99 E0 N c6_72 s = some (.normal, s) := x_skip (by rfl) s
theorem x6_70 : execA E C (fg 6) B 99 E0 N c6_70 (φ, H) = condX (fget φ 70) (execA E C (fg 6) B 99 E0 N c6_71 (φ, H)) (execA E C (fg 6) B 99 E0 N c6_72 (φ, H)) := x_cond (by rfl) _
theorem x6_68 : execA E C (fg 6) B 99 E0 N c6_68 s = seqX (execA E C (fg 6) B 99 E0 N c6_69 s) (execA E C (fg 6) B 99 E0 N c6_70) := x_seq (by rfl) s
noncomputable def c6_73 : Code := kR c6_67
noncomputable def c6_74 : Code := kL c6_73
noncomputable def r6_21 : Array Oper := kO c6_74
noncomputable def o6_21_0 : Oper := opN r6_21 0
noncomputable def o6_21_1 : Oper := opN r6_21 1
noncomputable def o6_21_2 : Oper := opN r6_21 2
noncomputable def o6_21_3 : Oper := opN r6_21 3
noncomputable def o6_21_4 : Oper := opN r6_21 4
noncomputable def o6_21_5 : Oper := opN r6_21 5
noncomputable def o6_21_6 : Oper := opN r6_21 6
noncomputable def o6_21_7 : Oper := opN r6_21 7
theorem x6_74 : execA E C (fg 6) B 99 E0 N c6_74 s = regX (runA E C B 99 r6_21 r6_21.toList s) (fun s => gcM E0 [70, 71, 72, 73, 74, 75, 76, 77] (forget s.1 [70, 71, 72, 73, 74, 75, 76, 77], s.2)) := x_reg (ops := r6_21) (by rfl) (by rfl) s
theorem r6_21_l : r6_21.toList = [o6_21_0, o6_21_1, o6_21_2, o6_21_3, o6_21_4, o6_21_5, o6_21_6, o6_21_7] := nrfl rfl
theorem s6_21_0 : stepA E C B 99 r6_21 o6_21_0 (φ, H) = stp (some 71) φ H (just (aFieldAddr E.T 25 (fget φ 3) 0)) := nrfl rfl
theorem s6_21_1 : stepA E C B 99 r6_21 o6_21_1 (φ, H) = stp (some 72) φ H (just (aLoad E.T 22 (fget φ 71))) := nrfl rfl
theorem s6_21_2 : stepA E C B 99 r6_21 o6_21_2 (φ, H) = stp (some 73) φ H (just (aLoad E.T 3 (fget φ 15))) := nrfl rfl
theorem s6_21_3 : stepA E C B 99 r6_21 o6_21_3 (φ, H) = stp (some 74) φ H (just (aIndexAddr E.T 22 (fget φ 72) (fget φ 73))) := nrfl rfl
theorem s6_21_4 : stepA E C B 99 r6_21 o6_21_4 (φ, H) = stp (some 75) φ H (just (aLoad E.T 62 (fget φ 74))) := nrfl rfl
theorem s6_21_5 : stepA E C B 99 r6_21 o6_21_5 (φ, H) = some (fput φ 76 (fget φ 9), H) := nrfl rfl
theorem s6_21_6 : stepA E C B 99 r6_21 o6_21_6 (φ, H) = stp (some 77) φ H (aCall C (fun j => B + j * 99 + 77) true 44 [(fget φ 75), (fget φ 76)]) := nrfl rfl
theorem s6_21_7 : stepA E C B 99 r6_21 o6_21_7 (φ, H) = some (fput φ 16 (fget φ 77), H) := nrfl rfl
noncomputable def c6_75 : Code := kR c6_73
noncomputable def c6_76 : Code := kL c6_75
noncomputable def r6_22 : Array Oper := kO c6_76
noncomputable def o6_22_0 : Oper := opN r6_22 0
noncomputable def o6_22_1 : Oper := opN r6_22 1
noncomputable def o6_22_2 : Oper := opN r6_22 2
noncomputable def o6_22_3 : Oper := opN r6_22 3
noncomputable def o6_22_4 : Oper := opN r6_22 4
noncomputable def o6_22_5 : Oper := opN r6_22 5
noncomputable def o6_22_6 : Oper := opN r6_22 6
theorem x6_76 : execA E C (fg 6) B 99 E0 N c6_76 s = regX (runA E C B 99 r6_22 r6_22.toList s) (fun s => gcM E0 [78, 79, 80, 81, 82, 83] (forget s.1 [78, 79, 80, 81, 82, 83], s.2)) := x_reg (ops := r6_22) (by rfl) (by rfl) s
theorem r6_22_l : r6_22.toList = [o6_22_0, o6_22_1, o6_22_2, o6_22_3, o6_22_4, o6_22_5, o6_22_6] := nrfl rfl
theorem s6_22_0 : stepA E C B 99 r6_22 o6_22_0 (φ, H) = some (fput φ 78 (fget φ 12), H) := nrfl rfl
theorem s6_22_1 : stepA E C B 99 r6_22 o6_22_1 (φ, H) = stp (some 79) φ H (just (aBin E.T .lss 3 (fget φ 78) (.int .i64 0))) := nrfl rfl
theorem s6_22_2 : stepA E C B 99 r6_22 o6_22_2 (φ, H) = some (fput φ 80 (fget φ 79), H) := nrfl rfl
theorem s6_22_3 : stepA E C B 99 r6_22 o6_22_3 (φ, H) = gd φ 80 false (fun φ => some (fput φ 81 (.tup []), H)) (fun φ => some (fput φ 81 (fget φ 16), H)) := s_gd (j := 2) (oj := o6_22_2) rfl rfl rfl (fun _ => rfl) (fun _ => rfl)
theorem s6_22_4 : stepA E C B 99 r6_22 o6_22_4 (φ, H) = gd φ 80 false (fun φ => some (fput φ 82 (.tup []), H)) (fun φ => some (fput φ 82 (fget φ 13), H)) := s_gd (j := 2) (oj := o6_22_2) rfl rfl rfl (fun _ => rfl) (fun _ => rfl)
theorem s6_22_5 : stepA E C B 99 r6_22 o6_22_5 (φ, H) = gd φ 80 false (fun φ => some (fput φ 83 (.tup []), H)) (fun φ => stp (some 83) φ H (just (aBin E.T .leq 3 (fget φ 81) (fget φ 82)))) := s_gd (j := 2) (oj := o6_22_2) rfl rfl rfl (fun _ => rfl) (fun _ => rfl)
theorem s6_22_6 : stepA E C B 99 r6_22 o6_22_6 (φ, H) = stp (some 84) φ H (opPick (fget φ 80) (.bool true) (fget φ 83)) := nrfl rfl
noncomputable def c6_77 : Code := kR c6_75
noncomputable def c6_78 : Code := kT c6_77
noncomputable def r6_23 : Array Oper := kO c6_78
noncomputable def o6_23_0 : Oper := opN r6_23 0
noncomputable def o6_23_1 : Oper := opN r6_23 1
noncomputable def o6_23_2 : Oper := opN r6_23 2
noncomputable def o6_23_3 : Oper := opN r6_23 3
theorem x6_78 : execA E C (fg 6) B 99 E0 N c6_78 s = regX (runA E C B 99 r6_23 r6_23.toList s) (fun s => gcM E0 [15, 16, 84, 85, 86] (forget s.1 [15, 16, 84, 85, 86], s.2)) := x_reg (ops := r6_23) (by rfl) (by rfl) s
theorem r6_23_l : r6_23.toList = [o6_23_0, o6_23_1, o6_23_2, o6_23_3] := nrfl rfl
theorem s6_23_0 : stepA E C B 99 r6_23 o6_23_0 (φ, H) = stp (some 85) φ H (just (aLoad E.T 3 (fget φ 15))) := nrfl rfl
theorem s6_23_1 : stepA E C B 99 r6_23 o6_23_1 (φ, H) = some (fput φ 86 (fget φ 16), H) := nrfl rfl
theorem s6_23_2 : stepA E C B 99 r6_23 o6_23_2 (φ, H) = some (fput φ 12 (fget φ 85), H) := nrfl rfl
theorem s6_23_3 : stepA E C B 99 r6_23 o6_23_3 (φ, H) = some (fput φ 13 (fget φ 86), H) := nrfl rfl
noncomputable def c6_79 : Code := kE c6_77
theorem x6_79 : execA E C (fg 6) B 99 E0 N c6_79 s = some (.normal, s) := x_skip (by rfl) s
theorem x6_77 : execA E C (fg 6) B 99 E0 N c6_77 (φ, H) = condX (fget φ 84) (execA E C (fg 6) B 99 E0 N c6_78 (φ, H)) (execA E C (fg 6) B 99 E0 N c6_79 (φ, H)) := x_cond (by rfl) _
theorem x6_75 : execA E C (fg 6) B 99 E0 N c6_75 s = seqX (execA E C (fg 6) B 99 E0 N c6_76 s) (execA E C (fg 6) B 99 E0 N c6_77) := x_seq (by rfl) s
theorem x6_73 : execA E C (fg 6) B 99 E0 N c6_73 s = seqX (execA E C (fg 6) B 99 E0 N c6_74 s) (execA E C (fg 6) B 99 E0 N c6_75) := x_seq (by rfl) s
theorem x6_67 : execA E C (fg 6) B 99 E0 N c6_67 s = seqX (execA E C (fg 6) B 99 E0 N c6_68 s) (execA E C (fg 6) B 99 E0 N c6_73) := x_seq (by rfl) s
theorem x6_65 : execA E C (fg 6) B 99 E0 N c6_65 s = seqX (execA E C (fg 6) B 99 E0 N c6_66 s) (execA E C (fg 6) B 99 E0 N c6_67) := x_seq (by rfl) s
theorem x6_64 : execA E C (fg 6) B 99 E0 N c6_64 s = blockX 5 (fun s => (forget s.1 [15, 16, 70, 84], s.2)) (execA E C (fg 6) B 99 E0 N c6_65 s) := x_block (by rfl) (by rfl) s
noncomputable def c6_80 : Code := kR c6_63
noncomputable def r6_24 : Array Oper := kO c6_80
noncomputable def o6_24_0 : Oper := opN r6_24 0
noncomputable def o6_24_1 : Oper := opN r6_24 1
theorem x6_80 : execA E C (fg 6) B 99 E0 N c6_80 s = regX (runA E C B 99 r6_24 r6_24.toList s) (fun s => gcM E0 [87] (forget s.1 [87], s.2)) := x_reg (ops := r6_24) (by rfl) (by rfl) s
theorem r6_24_l : r6_24.toList = [o6_24_0, o6_24_1] := nrfl rfl
theorem s6_24_0 : stepA E C B 99 r6_24 o6_24_0 (φ, H) = stp (some 87) φ H (just (aBin E.T .add 3 (fget φ 63) (.int .i64 1))) := nrfl rfl
theorem s6_24_1 : stepA E C B 99 r6_24 o6_24_1 (φ, H) = some (fput φ 63 (fget φ 87), H) := nrfl rfl
theorem x6_63 : execA E C (fg 6) B 99 E0 N c6_63 s = seqX (execA E C (fg 6) B 99 E0 N c6_64 s) (execA E C (fg 6) B 99 E0 N c6_80) := x_seq (by rfl) s
theorem x6_59 : execA E C (fg 6) B 99 E0 N c6_59 s = seqX (execA E C (fg 6) B 99 E0 N c6_60 s) (execA E C (fg 6) B 99 E0 N c6_63) := x_seq (by rfl) s
theorem x6_57 : execA E C (fg 6) B 99 E0 N c6_57 s = seqX (execA E C (fg 6) B 99 E0 N c6_58 s) (execA E C (fg 6) B 99 E0 N c6_59) := x_seq (by rfl) s
theorem x6_56 : execA E C (fg 6) B 99 E0 N c6_56 s = iterA (execA E C (fg 6) B 99 E0 N c6_57) (headA E0) N s := x_loop (by rfl) s
theorem x6_55 : execA E C (fg 6) B 99 E0 N c6_55 s = blockX 4 (fun s => (forget s.1 [9, 13, 61, 62, 63, 64], s.2)) (execA E C (fg 6) B 99 E0 N c6_56 s) := x_block (by rfl) (by rfl) s
theorem x6_53 : execA E C (fg 6) B 99 E0 N c6_53 s = seqX (execA E C (fg 6) B 99 E0 N c6_54 s) (execA E C (fg 6) B 99 E0 N c6_55) := x_seq (by rfl) s
noncomputable def c6_81 : Code := kR c6_52
noncomputable def c6_82 : Code := kL c6_81
noncomputable def c6_83 : Code := kL c6_82
noncomputable def r6_25 : Array Oper := kO c6_83
noncomputable def o6_25_0 : Oper := opN r6_25 0
noncomputable def o6_25_1 : Oper := opN r6_25 1
noncomputable def o6_25_2 : Oper := opN r6_25 2
noncomputable def o6_25_3 : Oper := opN r6_25 3
noncomputable def o6_25_4 : Oper := opN r6_25 4
noncomputable def o6_25_5 : Oper := opN r6_25 5
theorem x6_83 : execA E C (fg 6) B 99 E0 N c6_83 s = regX (runA E C B 99 r6_25 r6_25.toList s) (fun s => gcM E0 [88, 89, 90, 91, 92] (forget s.1 [88, 89, 90, 91, 92], s.2)) := x_reg (ops := r6_25) (by rfl) (by rfl) s
theorem r6_25_l : r6_25.toList = [o6_25_0, o6_25_1, o6_25_2, o6_25_3, o6_25_4, o6_25_5] := nrfl rfl
theorem s6_25_0 : stepA E C B 99 r6_25 o6_25_0 (φ, H) = some (fput φ 88 (fget φ 5), H) := nrfl rfl
theorem s6_25_1 : stepA E C B 99 r6_25 o6_25_1 (φ, H) = some (fput φ 89 (fget φ 8), H) := nrfl rfl
theorem s6_25_2 : stepA E C B 99 r6_25 o6_25_2 (φ, H) = stp (some 90) φ H (just (aIndexAddr E.T 36 (fget φ 88) (fget φ 89))) := nrfl rfl
theorem s6_25_3 : stepA E C B 99 r6_25 o6_25_3 (φ, H) = stp (some 91) φ H (just (aLoad E.T 3 (fget φ 90))) := nrfl rfl
theorem s6_25_4 : stepA E C B 99 r6_25 o6_25_4 (φ, H) = some (fput φ 92 (fget φ 12), H) := nrfl rfl
theorem s6_25_5 : stepA E C B 99 r6_25 o6_25_5 (φ, H) = stp (some 93) φ H (just (aBin E.T .neq 3 (fget φ 91) (fget φ 92))) := nrfl rfl
noncomputable def c6_84 : Code := kR c6_82
noncomputable def c6_85 : Code := kT c6_84
noncomputable def c6_86 : Code := kL c6_85
noncomputable def r6_26 : Array Oper := kO c6_86
noncomputable def o6_26_0 : Oper := opN r6_26 0
theorem x6_86 : execA E C (fg 6) B 99 E0 N c6_86 s = regX (runA E C B 99 r6_26 r6_26.toList s) (fun s => gcM E0 [3, 5, 7, 8, 12, 93] (forget s.1 [3, 5, 7, 8, 12, 93], s.2)) := x_reg (ops := r6_26) (by rfl) (by rfl) s
theorem r6_26_l : r6_26.toList = [o6_26_0] := nrfl rfl
theorem s6_26_0 : stepA E C B 99 r6_26 o6_26_0 (φ, H) = some (fput φ 2 (.bool false), H) := nrfl rfl
noncomputable def c6_87 : Code := kR c6_85
theorem x6_87 : execA E C (fg 6) B 99 E0 N c6_87 s = some (.ret, s) := x_ret (by rfl) s
theorem x6_85 : execA E C (fg 6) B 99 E0 N c6_85 s = seqX (execA E C (fg 6) B 99 E0 N c6_86 s) (execA E C (fg 6) B 99 E0 N c6_87) := x_seq (by rfl) s
noncomputable def c6_88 : Code := kE c6_84
theorem x6_88 : execA E C (fg 6) B 99 E0 N c6_88 s = some (.normal, s) := x_skip (by rfl) s
theorem x6_84 : execA E C (fg 6) B 99 E0 N c6_84 (φ, H) = condX (fget φ 93) (execA E C (fg 6) B 99 E0 N c6_85 (φ, H)) (execA E C (fg 6) B 99 E0 N c6_88 (φ, H)) := x_cond (by rfl) _
theorem x6_82 : execA E C (fg 6) B 99 E0 N c6_82 s = seqX (execA E C (fg 6) B 99 E0 N c6_83 s) (execA E C (fg 6) B 99 E0 N c6_84) := x_seq (by rfl) s
noncomputable def c6_89 : Code := kR c6_81
noncomputable def r6_27 : Array Oper := kO c6_89
noncomputable def o6_27_0 : Oper := opN r6_27 0
noncomputable def o6_27_1 : Oper := opN r6_27 1
noncomputable def o6_27_2 : Oper := opN r6_27 2
noncomputable def o6_27_3 : Oper := opN r6_27 3
noncomputable def o6_27_4 : Oper := opN r6_27 4
theorem x6_89 : execA E C (fg 6) B 99 E0 N c6_89 s = regX (drawA E C B 99 r6_27 s) (fun s => gcM E0 [12, 93, 94, 95, 96, 97] (forget s.1 [12, 93, 94, 95, 96, 97], s.2)) := x_draw (ops := r6_27) (by rfl) (by rfl) s
theorem r6_27_l : r6_27.toList = [o6_27_0, o6_27_1, o6_27_2, o6_27_3, o6_27_4] := nrfl rfl
theorem r6_27_st : statOk r6_27 = true := by kernel_rfl
theorem r6_27_dr : drawA E C B 99 r6_27 s = if neat 99 s = true then drX r6_27 (runT E C B 99 r6_27 r6_27.toList 0 s) else none := draw_eq r6_27_st s
theorem r6_27_an (l : List (Nat × Tr)) : dynOk r6_27 l = (!writing l || dynPairs [[], [], [1], [0, 1, 2], [0, 1, 2, 3]] (touching l)) := dynOk_eq (by kernel_rfl) l
theorem s6_27_0 : stepT E C B 99 r6_27 o6_27_0 (φ, H) = stpT (some 94) φ H (just (aLoad E.T 3 (fget φ 7))) := stT_go rfl (goT_R rfl rfl)
theorem s6_27_1 : stepT E C B 99 r6_27 o6_27_1 (φ, H) = some ((fput φ 95 (fget φ 12), H), ⟨false, [], []⟩) := stT_go rfl (goT_mv rfl rfl)
theorem s6_27_2 : stepT E C B 99 r6_27 o6_27_2 (φ, H) = stpT (some 96) φ H (just (aBin E.T .shl 3 (.int .i64 1) (fget φ 95))) := stT_go rfl (goT_R rfl rfl)
theorem s6_27_3 : stepT E C B 99 r6_27 o6_27_3 (φ, H) = stpT (some 97) φ H (just (aBin E.T .andNot 3 (fget φ 94) (fget φ 96))) := stT_go rfl (goT_R rfl rfl)
theorem s6_27_4 : stepT E C B 99 r6_27 o6_27_4 (φ, H) = stpT none φ H (opStore E.T 3 (fget φ 7) (fget φ 97)) := stT_go rfl (goT_R rfl rfl)
theorem x6_81 : execA E C (fg 6) B 99 E0 N c6_81 s = seqX (execA E C (fg 6) B 99 E0 N c6_82 s) (execA E C (fg 6) B 99 E0 N c6_89) := x_seq (by rfl) s
theorem x6_52 : execA E C (fg 6) B 99 E0 N c6_52 s = seqX (execA E C (fg 6) B 99 E0 N c6_53 s) (execA E C (fg 6) B 99 E0 N c6_81) := x_seq (by rfl) s
theorem x6_50 : execA E C (fg 6) B 99 E0 N c6_50 s = seqX (execA E C (fg 6) B 99 E0 N c6_51 s) (execA E C (fg 6) B 99 E0 N c6_52) := x_seq (by rfl) s
theorem x6_33 : execA E C (fg 6) B 99 E0 N c6_33 s = seqX (execA E C (fg 6) B 99 E0 N c6_34 s) (execA E C (fg 6) B 99 E0 N c6_50) := x_seq (by rfl) s
theorem x6_31 : execA E C (fg 6) B 99 E0 N c6_31 s = seqX (execA E C (fg 6) B 99 E0 N c6_32 s) (execA E C (fg 6) B 99 E0 N c6_33) := x_seq (by rfl) s
theorem x6_30 : execA E C (fg 6) B 99 E0 N c6_30 s = blockX 1 (fun s => (forget s.1 [], s.2)) (execA E C (fg 6) B 99 E0 N c6_31 s) := x_block (by rfl) (by rfl) s
noncomputable def c6_90 : Code := kR c6_29
noncomputable def r6_9 : Array Oper := kO c6_90
noncomputable def o6_9_0 : Oper := opN r6_9 0
noncomputable def o6_9_1 : Oper := opN r6_9 1
noncomputable def o6_9_2 : Oper := opN r6_9 2
theorem x6_90 : execA E C (fg 6) B 99 E0 N c6_90 s = regX (runA E C B 99 r6_9 r6_9.toList s) (fun s => gcM E0 [42, 43] (forget s.1 [42, 43], s.2)) := x_reg (ops := r6_9) (by rfl) (by rfl) s
theorem r6_9_l : r6_9.toList = [o6_9_0, o6_9_1, o6_9_2] := nrfl rfl
theorem s6_9_0 : stepA E C B 99 r6_9 o6_9_0 (φ, H) = some (fput φ 42 (fget φ 8), H) := nrfl rfl
theorem s6_9_1 : stepA E C B 99 r6_9 o6_9_1 (φ, H) = stp (some 43) φ H (just (aBin E.T .sub 3 (fget φ 42) (.int .i64 1))) := nrfl rfl
theorem s6_9_2 : stepA E C B 99 r6_9 o6_9_2 (φ, H) = some (fput φ 8 (fget φ 43), H) := nrfl rfl
theorem x6_29 : execA E C (fg 6) B 99 E0 N c6_29 s = seqX (execA E C (fg 6) B 99 E0 N c6_30 s) (execA E C (fg 6) B 99 E0 N c6_90) := x_seq (by rfl) s
theorem x6_23 : execA E C (fg 6) B 99 E0 N c6_23 s = seqX (execA E C (fg 6) B 99 E0 N c6_24 s) (execA E C (fg 6) B 99 E0 N c6_29) := x_seq (by rfl) s
theorem x6_22 : execA E C (fg 6) B 99 E0 N c6_22 s = iterA (execA E C (fg 6) B 99 E0 N c6_23) (headA E0) N s := x_loop (by rfl) s
theorem x6_21 : execA E C (fg 6) B 99 E0 N c6_21 s = blockX 0 (fun s => (forget s.1 [3, 5, 7, 8, 41], s.2)) (execA E C (fg 6) B 99 E0 N c6_22 s) := x_block (by rfl) (by rfl) s
theorem x6_19 : execA E C (fg 6) B 99 E0 N c6_19 s = seqX (execA E C (fg 6) B 99 E0 N c6_20 s) (execA E C (fg 6) B 99 E0 N c6_21) := x_seq (by rfl) s
noncomputable def c6_91 : Code := kR c6_18
noncomputable def c6_92 : Code := kL c6_91
noncomputable def r6_28 : Array Oper := kO c6_92
noncomputable def o6_28_0 : Oper := opN r6_28 0
noncomputable def o6_28_1 : Oper := opN r6_28 1
theorem x6_92 : execA E C (fg 6) B 99 E0 N c6_92 s = regX (runA E C B 99 r6_28 r6_28.toList s) (fun s => gcM E0 [98] (forget s.1 [98], s.2)) := x_reg (ops := r6_28) (by rfl) (by rfl) s
theorem r6_28_l : r6_28.toList = [o6_28_0, o6_28_1] := nrfl rfl
theorem s6_28_0 : stepA E C B 99 r6_28 o6_28_0 (φ, H) = stp (some 98) φ H (aCall C (fun j => B + j * 99 + 98) true 17 []) := nrfl rfl
theorem s6_28_1 : stepA E C B 99 r6_28 o6_28_1 (φ, H) = some (fput φ 2 (fget φ 98), H) := nrfl rfl
noncomputable def c6_93 : Code := kR c6_91
theorem x6_93 : execA E C (fg 6) B 99 E0 N c6_93 s = some (.ret, s) := x_ret (by rfl) s
theorem x6_91 : execA E C (fg 6) B 99 E0 N c6_91 s = seqX (execA E C (fg 6) B 99 E0 N c6_92 s) (execA E C (fg 6) B 99 E0 N c6_93) := x_seq (by rfl) s
theorem x6_18 : execA E C (fg 6) B 99 E0 N c6_18 s = seqX (execA E C (fg 6) B 99 E0 N c6_19 s) (execA E C (fg 6) B 99 E0 N c6_91) := x_seq (by rfl) s
theorem x6_16 : execA E C (fg 6) B 99 E0 N c6_16 s = seqX (execA E C (fg 6) B 99 E0 N c6_17 s) (execA E C (fg 6) B 99 E0 N c6_18) := x_seq (by rfl) s
theorem x6_8 : execA E C (fg 6) B 99 E0 N c6_8 s = seqX (execA E C (fg 6) B 99 E0 N c6_9 s) (execA E C (fg 6) B 99 E0 N c6_16) := x_seq (by rfl) s
theorem x6_6 : execA E C (fg 6) B 99 E0 N c6_6 s = seqX (execA E C (fg 6) B 99 E0 N c6_7 s) (execA E C (fg 6) B 99 E0 N c6_8) := x_seq (by rfl) s
theorem x6_4 : execA E C (fg 6) B 99 E0 N c6_4 s = seqX (execA E C (fg 6) B 99 E0 N c6_5 s) (execA E C (fg 6) B 99 E0 N c6_6) := x_seq (by rfl) s
theorem x6_2 : execA E C (fg 6) B 99 E0 N c6_2 s = seqX (execA E C (fg 6) B 99 E0 N c6_3 s) (execA E C (fg 6) B 99 E0 N c6_4) := x_seq (by rfl) s
theorem x6_0 : execA E C (fg 6) B 99 E0 N c6_0 s = seqX (execA E C (fg 6) B 99 E0 N c6_1 s) (execA E C (fg 6) B 99 E0 N c6_2) := x_seq (by rfl) s
theorem fi_6 : fInfo E 6 = some ⟨99, #[.tmp 2], c6_0⟩ := nrfl rfl
theorem b_6 (args : List AV) : bodyA E C fg N 6 args H B = bodyX E [.tmp 2] (execA E C (fg 6) B 99 H N c6_0 (frame0 args 0 [], H)) := bodyA_eq fi_6 args H
noncomputable def c43_0 : Code := kBody Proofs.Tryd.f43
noncomputable def c43_1 : Code := kL c43_0
noncomputable def r43_0 : Array Oper := kO c43_1
noncomputable def o43_0_0 : Oper := opN r43_0 0
noncomputable def o43_0_1 : Oper := opN r43_0 1
theorem x43_1 : execA E C (fg 43) B 17 E0 N c43_1 s = regX (runA E C B 17 r43_0 r43_0.toList s) (fun s => gcM E0 [0, 4] (forget s.1 [0, 4], s.2)) := x_reg (ops := r43_0) (by rfl) (by rfl) s
theorem r43_0_l : r43_0.toList = [o43_0_0, o43_0_1] := nrfl rfl
theorem s43_0_0 : stepA E C B 17 r43_0 o43_0_0 (φ, H) = stp (some 3) φ H (opBox (B + 3) (acells (fget φ 0))) := nrfl rfl
theorem s43_0_1 : stepA E C B 17 r43_0 o43_0_1 (φ, H) = some (fput φ 4 (.bool false), H) := nrfl rfl
noncomputable def c43_2 : Code := kR c43_0
noncomputable def c43_3 : Code := kL c43_2
noncomputable def r43_1 : Array Oper := kO c43_3
noncomputable def o43_1_0 : Oper := opN r43_1 0
noncomputable def o43_1_1 : Oper := opN r43_1 1
noncomputable def o43_1_2 : Oper := opN r43_1 2
noncomputable def o43_1_3 : Oper := opN r43_1 3
noncomputable def o43_1_4 : Oper := opN r43_1 4
noncomputable def o43_1_5 : Oper := opN r43_1 5
noncomputable def o43_1_6 : Oper := opN r43_1 6
noncomputable def o43_1_7 : Oper := opN r43_1 7
noncomputable def o43_1_8 : Oper := opN r43_1 8
noncomputable def o43_1_9 : Oper := opN r43_1 9
noncomputable def o43_1_10 : Oper := opN r43_1 10
noncomputable def o43_1_11 : Oper := opN r43_1 11
noncomputable def o43_1_12 : Oper := opN r43_1 12
theorem x43_3 : execA E C (fg 43) B 17 E0 N c43_3 s = regX (runA E C B 17 r43_1 r43_1.toList s) (fun s => gcM E0 [1, 2, 3, 5, 6, 7, 8, 9, 10, 11, 12, 13, 14, 15, 16] (forget s.1 [1, 2, 3, 5, 6, 7, 8, 9, 10, 11, 12, 13, 14, 15, 16], s.2)) := x_reg (ops := r43_1) (by rfl) (by rfl) s
theorem r43_1_l : r43_1.toList = [o43_1_0, o43_1_1, o43_1_2, o43_1_3, o43_1_4, o43_1_5, o43_1_6, o43_1_7, o43_1_8, o43_1_9, o43_1_10, o43_1_11, o43_1_12] := nrfl rfl
theorem s43_1_0 : stepA E C B 17 r43_1 o43_1_0 (φ, H) = stp (some 5) φ H (just (aIndexAddr E.T 64 (fget φ 3) (.int .i64 0))) := nrfl rfl
theorem s43_1_1 : stepA E C B 17 r43_1 o43_1_1 (φ, H) = stp (some 6) φ H (just (aLoad E.T 3 (fget φ 5))) := nrfl rfl
theorem s43_1_2 : stepA E C B 17 r43_1 o43_1_2 (φ, H) = stp (some 7) φ H (just (aLoad E.T 3 (fget φ 1))) := nrfl rfl
theorem s43_1_3 : stepA E C B 17 r43_1 o43_1_3 (φ, H) = stp (some 8) φ H (just (aBin E.T .eql 3 (fget φ 6) (fget φ 7))) := nrfl rfl
theorem s43_1_4 : stepA E C B 17 r43_1 o43_1_4 (φ, H) = some (fput φ 9 (fget φ 8), H) := nrfl rfl
theorem s43_1_5 : stepA E C B 17 r43_1 o43_1_5 (φ, H) = gd φ 9 true (fun φ => some (fput φ 10 (.tup []), H)) (fun φ => stp (some 10) φ H (just (aLoad E.T 3 (fget φ 2)))) := s_gd (j := 4) (oj := o43_1_4) rfl rfl rfl (fun _ => rfl) (fun _ => rfl)
theorem s43_1_6 : stepA E C B 17 r43_1 o43_1_6 (φ, H) = gd φ 9 true (fun φ => some (fput φ 11 (.tup []), H)) (fun φ => stp (some 11) φ H (just (aIndexAddr E.T 64 (fget φ 3) (.int .i64 1)))) := s_gd (j := 4) (oj := o43_1_4) rfl rfl rfl (fun _ => rfl) (fun _ => rfl)
theorem s43_1_7 : stepA E C B 17 r43_1 o43_1_7 (φ, H) = gd φ 9 true (fun φ => some (fput φ 12 (.tup []), H)) (fun φ => stp (some 12) φ H (just (aLoad E.T 3 (fget φ 11)))) := s_gd (j := 4) (oj := o43_1_4) rfl rfl rfl (fun _ => rfl) (fun _ => rfl)
theorem s43_1_8 : stepA E C B 17 r43_1 o43_1_8 (φ, H) = gd φ 9 true (fun φ => some (fput φ 13 (.tup []), H)) (fun φ => stp (some 13) φ H (just (aBin E.T .shr 3 (fget φ 10) (fget φ 12)))) := s_gd (j := 4) (oj := o43_1_4) rfl rfl rfl (fun _ => rfl) (fun _ => rfl)
theorem s43_1_9 : stepA E C B 17 r43_1 o43_1_9 (φ, H) = gd φ 9 true (fun φ => some (fput φ 14 (.tup []), H)) (fun φ => stp (some 14) φ H (just (aBin E.T .and 3 (fget φ 13) (.int .i64 1)))) := s_gd (j := 4) (oj := o43_1_4) rfl rfl rfl (fun _ => rfl) (fun _ => rfl)
theorem s43_1_10 : stepA E C B 17 r43_1 o43_1_10 (φ, H) = gd φ 9 true (fun φ => some (fput φ 15 (.tup []), H)) (fun φ => stp (some 15) φ H (just (aBin E.T .eql 3 (fget φ 14) (.int .i64 1)))) := s_gd (j := 4) (oj := o43_1_4) rfl rfl rfl (fun _ => rfl) (fun _ => rfl)
theorem s43_1_11 : stepA E C B 17 r43_1 o43_1_11 (φ, H) = stp (some 16) φ H (opPick (fget φ 9) (fget φ 15) (.bool false)) := nrfl rfl
theorem s43_1_12 : stepA E C B 17 r43_1 o43_1_12 (φ, H) = some (fput φ 4 (fget φ 16), H) := nrfl rfl
noncomputable def c43_4 : Code := kR c43_2
theorem x43_4 : execA E C (fg 43) B 17 E0 N c43_4 s = some (.ret, s) := x_ret (by rfl) s
theorem x43_2 : execA E C (fg 43) B 17 E0 N c43_2 s = seqX (execA E C (fg 43) B 17 E0 N c43_3 s) (execA E C (fg 43) B 17 E0 N c43_4) := x_seq (by rfl) s
theorem x43_0 : execA E C (fg 43) B 17 E0 N c43_0 s = seqX (execA E C (fg 43) B 17 E0 N c43_1 s) (execA E C (fg 43) B 17 E0 N c43_2) := x_seq (by rfl) s
theorem fi_43 : fInfo E 43 = some ⟨17, #[.tmp 4], c43_0⟩ := nrfl rfl
theorem b_43 (args : List AV) : bodyA E C fg N 43 args H B = bodyX E [.tmp 4] (execA E C (fg 43) B 17 H N c43_0 (frame0 args 0 [], H)) := bodyA_eq fi_43 args H
end Go.AM.YtgfnbmfjbjopkaaDoor
end

section
namespace Go.AM
section
variable {k : Nat} {c : List AV} {T : AHeap}
theorem mark_box (hc : refsL c = []) : ∀ (n : Nat) (todo seen : List Nat), mark ((k, ⟨.box, c⟩) :: T) n todo seen = mark ((k, ⟨.box, []⟩) :: T) n todo seen
  | 0, _, _ => rfl
  | n + 1, [], _ => rfl
  | n + 1, i :: todo, seen => by
    simp only [mark, hget_cons']
    by_cases hs : seen.contains i = true
    · rw [if_pos hs, if_pos hs]; exact mark_box hc n todo seen
    · rw [if_neg hs, if_neg hs]
      by_cases e : k = i
      · rw [if_pos e, if_pos e]
        simp only [hc]
        exact mark_box hc n _ _
      · rw [if_neg e, if_neg e]
        cases hget T i with
        | none => exact mark_box hc n _ _
        | some b =>
          obtain ⟨st, cs⟩ := b
          cases st <;> exact mark_box hc n _ _
theorem held_box (S : AHeap) : ∀ l : List Nat, allHeld ((k, ⟨.box, c⟩) :: S) l = allHeld ((k, ⟨.box, []⟩) :: S) l
  | [] => rfl
  | i :: l => by
    simp only [allHeld, hget_cons', held_box S l]
    by_cases e : k = i
    · rw [if_pos e, if_pos e]; rfl
    · rw [if_neg e, if_neg e]
theorem closed_box (S : AHeap) : ∀ K : AHeap, closedH ((k, ⟨.box, c⟩) :: S) K = closedH ((k, ⟨.box, []⟩) :: S) K
  | [] => rfl
  | (i, ⟨st, cs⟩) :: K => by
    cases st <;> simp only [closedH, held_box, closed_box S K]
theorem headA_box (hc : refsL c = []) {φ : AFr} {T' : AHeap} (hT : hget T k = none) (h : headA [] (φ, (k, ⟨.box, []⟩) :: T) = (φ, (k, ⟨.box, []⟩) :: T')) : headA [] (φ, (k, ⟨.box, c⟩) :: T) = (φ, (k, ⟨.box, c⟩) :: T') := by
  simp only [headA, mark_box hc] at h ⊢
  generalize mark ((k, ⟨.box, []⟩) :: T) 1000 (refsF φ) [] = keep at *
  simp only [keepB] at h ⊢
  have hno : ∀ b, (k, b) ∉ T := by
    intro b hb
    have := hg_mem hb
    rw [hT] at this
    simp at this
  have hsub : ∀ (S : AHeap) (p : Nat × Blk), p ∈ keepB [] keep S → p ∈ S := by
    intro S
    induction S with
    | nil => intro p hp; exact hp
    | cons q S ih =>
      intro p hp
      obtain ⟨i, b⟩ := q
      simp only [keepB] at hp
      cases hcnd : (keep.elem i || (hget [] i).isSome) with
      | true =>
        rw [hcnd, cond_true] at hp
        rcases List.mem_cons.1 hp with e | hp
        · simp [e]
        · exact List.mem_cons_of_mem _ (ih p hp)
      | false =>
        rw [hcnd, cond_false] at hp
        exact List.mem_cons_of_mem _ (ih p hp)
  have hclosed : ∀ S, closedB φ ((k, ⟨.box, c⟩) :: S) = closedB φ ((k, ⟨.box, []⟩) :: S) := by
    intro S
    simp only [closedB, held_box, closedH, hc, closed_box, refsL, allHeld]
  cases hcnd : (keep.elem k || (hget [] k).isSome) with
  | true =>
    rw [hcnd] at h
    simp only [cond_true, gcIf, hclosed] at h ⊢
    cases hcl : closedB φ ((k, ⟨.box, []⟩) :: keepB [] keep T) with
    | true =>
      rw [hcl] at h
      simp only [Prod.mk.injEq, List.cons.injEq, true_and] at h ⊢
      exact h
    | false =>
      rw [hcl] at h
      simp only [Prod.mk.injEq, List.cons.injEq, true_and] at h ⊢
      exact h
  | false =>
    rw [hcnd] at h
    simp only [cond_false, gcIf] at h ⊢
    cases hcl : closedB φ (keepB [] keep T) with
    | true =>
      rw [hcl] at h
      simp only [Prod.mk.injEq, true_and] at h
      exfalso
      exact hno ⟨.box, []⟩ (hsub T _ (by rw [h]; simp))
    | false =>
      rw [hcl] at h
      simp only [Prod.mk.injEq, List.cons.injEq, true_and] at h ⊢
      exact h
end
theorem refs_ints : ∀ (l : List AV), (∀ a ∈ l, ∃ k z, a = AV.int k z) → refsL l = []
  | [], _ => rfl
  | a :: l, h => by
    obtain ⟨k, z, rfl⟩ := h a (by simp)
    simp only [refsL, refsOf, List.nil_append]
    exact refs_ints l fun b hb => h b (by simp [hb])
end Go.AM
end
