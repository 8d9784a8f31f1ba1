/- A part of the proof of propReach_holds: ReH, ReI, PWorks, ReJ. Own work of this project; texts printed by own programs among it. -/
import Derived.KernelRfl
import Derived.Test.YtmhbnflnlglljaaReL
section
namespace Go.AM.Ytmhbnflnlglljaa
open Go Go.AM
set_option maxRecDepth 100000
set_option maxHeartbeats 8000000
structure ReC (C : Callee) (hs ws : List Int) : Prop where
  ce : ∀ (site : Nat → Nat) seen e1 e2, aBack site true seen (thaw C 22 [.imm (icells hs) ws.length e1, .imm (icells ws) ws.length e2] [] 0) = back1 (site 0) seen (fun j => .tup [.ref j 0 ws.length ws.length (ws.length * 2) 2 false, .int .i64 0]) ⟨.row, fcells (cenI hs ws ws.length)⟩
  lo : ∀ (site : Nat → Nat) seen e1 e2, aBack site true seen (thaw C 29 [.imm (icells hs) ws.length e1, .imm (icells ws) ws.length e2] [] 0) = .pure (.int .i64 0, [])
  re : ∀ (site : Nat → Nat) seen e1 e2, aBack site true seen (thaw C 44 [.imm (icells hs) ws.length e1, .imm (icells ws) ws.length e2, .int .i64 (ws.length - 1 : Nat)] [] 0) = .pure (.tup [.int .i64 (NN hs ws ws.length), .int .i64 (DN ws ws.length)], [])
  st : ∀ (site : Nat → Nat) seen ex, aBack site true seen (thaw C 32 [.imm (pcells (plL hs ws ws.length)) ws.length ex] [] 0) = .pure (.tup [.bool true, .int .i64 0], [])
  fn : ∀ (site : Nat → Nat) seen e1 e2, aBack site true seen (thaw C 20 [.imm (icells hs) ws.length e1, .imm (icells ws) ws.length e2, .int .i64 ws.length] [] 0) = .pure (.tup [.agg [.int .i64 0, .int .i64 0], .int .i64 2], [])
  cw : ∀ (site : Nat → Nat) seen, aBack site true seen (thaw C 10 [] [] 0) = .pure (.bool true, [])
theorem reach_law {C : Callee} {lc : List AV} {hs ws bs : List Int} (h : Sml hs ws) (hbs : BOk bs) (h12 : List.take 12 lc = lc) (l12 : lc.length = 12) (sn : snaps 198 lc = .pure (lc, []))
    (made : ∀ (site : Nat → Nat) seen, site 1 ≠ site 0 → aBack site true seen (thaw C 43 [.agg lc, .int .i64 4, .int .i64 5] [] 0) = back2 (site 0) (site 1) seen (fun k k' => .tup [.ref k 0 ws.length ws.length ws.length 1 false, .ref k' 0 ws.length ws.length ws.length 1 false]) ⟨.row, icells hs⟩ ⟨.row, icells ws⟩)
    (k : ReC C hs ws)
    (c1 : ∀ i, i < ws.length → ∃ s', execA E C (fg 7) 0 261 [] 1000 c7_25 (r1S hs ws bs i (plL hs ws i)) = some (.normal, s') ∧ headA [] s' = r1S hs ws bs (i + 1) (plL hs ws (i + 1)))
    {q1 q2 : Int} (w1 : ∀ (site : Nat → Nat) seen ex, aBack site true seen (thaw C 45 [.imm (pcells (plL hs ws ws.length)) ws.length ex] [] 0) = .pure (.int .i64 q1, [])) (hq1 : ¬ q1 ≥ 0)
    (c2 : ∀ i, i < ws.length → ∃ s', execA E C (fg 7) 0 261 [] 1000 c7_60 (r2S hs ws bs (plL hs ws ws.length) i) = some (.normal, s') ∧ headA [] s' = r2S hs ws bs (if i + 1 = ws.length then plT hs ws else plL hs ws ws.length) (i + 1))
    (w2 : ∀ (site : Nat → Nat) seen ex, aBack site true seen (thaw C 45 [.imm (pcells (othL hs ws bs ws.length)) ws.length ex] [] 0) = .pure (.int .i64 q2, []))
    (c4 : q2 < 0 → ∀ i, i < ws.length → ∃ s', execA E C (fg 7) 0 261 [] 1000 c7_137 (r4S hs ws (othL hs ws bs ws.length) i) = some (.normal, s') ∧ headA [] s' = r4S hs ws (othL hs ws bs ws.length) (i + 1)) :
    rsOf (bodyA E C fg 1000 7 [.agg lc, .agg (bcells bs)] [] 0) = some (.bool true) := by
  obtain ⟨ce, lo, re, st, fn, cw⟩ := k
  have n4 := h.n4
  have n0 := h.ok.ne
  have il : (icells hs).length = ws.length := by rw [icells_length, h.ok.eq]
  have il2 : (icells ws).length = ws.length := icells_length ..
  have t1 : List.take ws.length (icells hs) = icells hs := List.take_of_length_le (by omega)
  have t2 : List.take ws.length (icells ws) = icells ws := List.take_of_length_le (by omega)
  have hb5 := hbs.l
  have hbl : (bcells bs).length = 5 := by rw [bcells_length, hb5]
  have tb : List.take 5 (bcells bs) = bcells bs := List.take_of_length_le (by omega)
  have ne : ¬ ws.length = 0 := by omega
  have wn : wrp .i64 ((ws.length : Int) - 1) = ((ws.length - 1 : Nat) : Int) := by rw [wrp64 (by omega)]; omega
  obtain ⟨a1, a2⟩ := poutV_ne (id := 105) (l := plL hs ws ws.length) (by rw [plL_length]; omega)
  obtain ⟨a3, a4⟩ := poutV_ne (id := 214) (l := othL hs ws bs ws.length) (by rw [othL_length]; omega)
  rw [plL_length] at a1
  rw [othL_length] at a3
  have lpl : (pcells (plL hs ws ws.length)).length = ws.length * 4 := by rw [pcells_length, plL_length]
  have lpo : (pcells (othL hs ws bs ws.length)).length = ws.length * 4 := by rw [pcells_length, othL_length]
  have lfc : (fcells (cenI hs ws ws.length)).length = ws.length * 2 := by rw [fcells_length, cenI_length]
  have tpl : List.take (ws.length * 4) (pcells (plL hs ws ws.length)) = pcells (plL hs ws ws.length) := List.take_of_length_le (by omega)
  have tpo : List.take (ws.length * 4) (pcells (othL hs ws bs ws.length)) = pcells (othL hs ws bs ws.length) := List.take_of_length_le (by omega)
  have L1 := iter_all (f := execA E C (fg 7) 0 261 [] 1000 c7_25) (hd := headA []) (fun i => r1S hs ws bs i (plL hs ws i)) ws.length 1000 0
    ((r1S hs ws bs 0 []).1, (2, ⟨.box, lc⟩) :: (r1S hs ws bs 0 []).2) (by
      match bs, hb5 with
      | [_, _, _, _, _], _ => rfl) (by omega) (fun i _ hi => c1 i (by omega)) (e := .exit 0) (se := ([(67, .bool false), (66, .int .i64 ws.length), (65, .int .i64 ws.length), (64, .ref 39 0 ws.length ws.length (ws.length * 2) 2 false), (12, .ref 105 0 ws.length ws.length (ws.length * 4) 4 false), (11, .int .i64 (DN ws ws.length)), (7, .int .i64 ws.length), (6, rW ws), (5, rI ws), (3, .ptr 3 0 5)], [(3, ⟨.box, bcells bs⟩), (31, ⟨.froz, icells hs⟩), (39, ⟨.row, fcells (cenI hs ws ws.length)⟩), (105, ⟨.row, pcells (plL hs ws ws.length)⟩), (292, ⟨.froz, icells ws⟩)])) (by
      rw [Nat.zero_add]
      simp only [r1S, a1, a2, List.cons_append, List.nil_append]
      simp only [seqX_exit, condX_bool, run_nil, run_cons, fget_cons', fput_cons', forget_nil, forget_cons', gcM_n, stp, just, Rd.bind, Rd.run, Rd.opt, upds, aBin, aInt, Nat.reduceEqDiff, Nat.reduceLeDiff, ↓reduceIte, decide_false, putD_some, List.elem_nil, seqN, bindN, regN, Int.lt_irrefl, Bool.false_eq_true, x7_26, r7_9_l, s7_9_0, x7_29, x7_30, x7_28, x7_27, x7_25, Int.lt_irrefl, decide_false, Bool.false_eq_true]) (by simp)
  have L2 := iter_all (f := execA E C (fg 7) 0 261 [] 1000 c7_60) (hd := headA []) (fun i => r2S hs ws bs (if i = ws.length then plT hs ws else plL hs ws ws.length) i) ws.length 1000 0
    ((r2S hs ws bs (plL hs ws ws.length) 0).1, [(3, ⟨.box, bcells bs⟩), (31, ⟨.froz, icells hs⟩), (39, ⟨.row, fcells (cenI hs ws ws.length)⟩), (105, ⟨.row, pcells (plL hs ws ws.length)⟩), (292, ⟨.froz, icells ws⟩)]) (by
      rw [if_neg (by omega)]
      match bs, hb5 with
      | [_, _, _, _, _], _ => rfl) (by omega) (fun i _ hi => by
      rw [if_neg (show ¬ i = ws.length by omega)]
      exact c2 i (by omega)) (e := .exit 2) (se := ((125, .bool false) :: (r2S hs ws bs (plT hs ws) ws.length).1, (r2S hs ws bs (plT hs ws) ws.length).2)) (by
      rw [Nat.zero_add, if_pos rfl]
      simp only [seqX_exit, condX_bool, run_nil, run_cons, fget_cons', fput_cons', forget_nil, forget_cons', gcM_n, stp, just, Rd.bind, Rd.run, Rd.opt, upds, aBin, aInt, Nat.reduceEqDiff, Nat.reduceLeDiff, ↓reduceIte, decide_false, putD_some, List.elem_nil, seqN, bindN, regN, Int.lt_irrefl, Bool.false_eq_true, x7_61, r7_19_l, s7_19_0, x7_64, x7_65, x7_63, x7_62, x7_60, r2S, Int.lt_irrefl, decide_false, Bool.false_eq_true]) (by simp)
  have L3 := iter_all (f := execA E C (fg 7) 0 261 [] 1000 c7_113) (hd := headA []) (fun i => r3S hs ws bs i (othL hs ws bs i)) ws.length 1000 0
    ((r3S hs ws bs 0 []).1, [(3, ⟨.box, bcells bs⟩), (31, ⟨.froz, icells hs⟩), (105, ⟨.row, pcells (plT hs ws)⟩), (292, ⟨.froz, icells ws⟩)]) (by
      match bs, hb5 with
      | [_, _, _, _, _], _ => rfl) (by omega) (fun i _ hi => by
      rw [othL_succ]
      exact r3_go h hbs i (by omega) _ (othL_length ..)) (e := .exit 4) (se := ([(181, .bool false), (180, .int .i64 ws.length), (179, .int .i64 ws.length), (22, .ref 214 0 ws.length ws.length (ws.length * 4) 4 false), (21, .int .i64 (othE hs bs ws.length)), (7, .int .i64 ws.length), (6, rW ws), (5, rI ws), (3, .ptr 3 0 5)], [(3, ⟨.box, bcells bs⟩), (31, ⟨.froz, icells hs⟩), (214, ⟨.row, pcells (othL hs ws bs ws.length)⟩), (292, ⟨.froz, icells ws⟩)])) (by
      rw [Nat.zero_add]
      simp only [r3S, a3, a4, List.cons_append, List.nil_append]
      simp only [seqX_exit, condX_bool, run_nil, run_cons, fget_cons', fput_cons', forget_nil, forget_cons', gcM_n, stp, just, Rd.bind, Rd.run, Rd.opt, upds, aBin, aInt, Nat.reduceEqDiff, Nat.reduceLeDiff, ↓reduceIte, decide_false, putD_some, List.elem_nil, seqN, bindN, regN, Int.lt_irrefl, Bool.false_eq_true, x7_114, r7_35_l, s7_35_0, x7_117, x7_118, x7_116, x7_115, x7_113, Int.lt_irrefl, decide_false, Bool.false_eq_true]) (by simp)
  simp only [poutV, poutH, cl0, List.nil_append] at L1
  simp only [cl0] at L2
  simp only [poutV, cl0, othE] at L3
  by_cases hq2 : q2 < 0
  · have L4 := iter_all (f := execA E C (fg 7) 0 261 [] 1000 c7_137) (hd := headA []) (r4S hs ws (othL hs ws bs ws.length)) ws.length 1000 0
      ((r4S hs ws (othL hs ws bs ws.length) 0).1, [(3, ⟨.box, bcells bs⟩), (31, ⟨.froz, icells hs⟩), (214, ⟨.row, pcells (othL hs ws bs ws.length)⟩), (292, ⟨.froz, icells ws⟩)]) (by
        match bs, hb5 with
        | [_, _, _, _, _], _ => rfl) (by omega) (fun i _ hi => c4 hq2 i (by omega)) (e := .exit 6) (se := ((227, .bool false) :: (r4S hs ws (othL hs ws bs ws.length) ws.length).1, (r4S hs ws (othL hs ws bs ws.length) ws.length).2)) (by
        rw [Nat.zero_add]
        simp only [seqX_exit, condX_bool, run_nil, run_cons, fget_cons', fput_cons', forget_nil, forget_cons', gcM_n, stp, just, Rd.bind, Rd.run, Rd.opt, upds, aBin, aInt, Nat.reduceEqDiff, Nat.reduceLeDiff, ↓reduceIte, decide_false, putD_some, List.elem_nil, seqN, bindN, regN, Int.lt_irrefl, Bool.false_eq_true, x7_138, r7_43_l, s7_43_0, x7_141, x7_142, x7_140, x7_139, x7_137, r4S, Int.lt_irrefl, decide_false, Bool.false_eq_true]) (by simp)
    simp only [cl0] at L4
    simp (disch := omega) only [condX_bool, blockX_exit, ↓gd, fset_cons, Bool.not_true, bodyX_ret, run_nil, run_cons, fget_cons', fput_nil, fput_cons', forget_nil, forget_cons', hget_nil', hget_cons', hset_nil', hset_cons', frame0, gcM_n, gcM_c, stp, opPick, opBox, justO, just, Rd.bind, Rd.run, Rd.opt, upds, acells, rdCells, aLoad, opExtract, resA, resL, fresh, aLen, aBuiltin, aBin, aInt, Nat.reduceAdd, Nat.reduceMul, Nat.reduceBEq, Nat.reduceEqDiff, Nat.reduceLeDiff, ↓reduceIte, reduceCtorEq, liveBlk_eq, Nat.zero_add, List.nil_append, List.getElem?_toArray, Bool.not_true, Bool.and_true, decide_true, decide_false, aUn, putD_some, aCall, snaps, List.append_nil, Option.map_some, List.elem_cons, List.elem_nil, List.getElem?_cons_zero, List.getElem?_cons_succ, List.drop_zero, frz_nil, frz_eq, frzB_row, seqN, bindN, regN, snap_int, snap_ref, snap_agg, back1_r, back2_r, List.cons_append, Nat.le_refl, Nat.mul_one, Nat.zero_mul, beq_self_eq_true, bne_self_eq_false, Bool.false_eq_true, T_22, T_47, T_52, T_89, x7_1, r7_0_l, s7_0_0, s7_0_1, s7_0_2, x7_3, r7_1_l, s7_1_0, s7_1_1, s7_1_2, s7_1_3, s7_1_4, s7_1_5, s7_1_6, x7_5, r7_2_l, s7_2_0, s7_2_1, s7_2_2, x7_7, r7_3_l, s7_3_0, s7_3_1, s7_3_2, s7_3_3, s7_3_4, s7_3_5, s7_3_6, s7_3_7, x7_10, r7_4_l, s7_4_0, s7_4_1, s7_4_2, s7_4_3, s7_4_4, s7_4_5, s7_4_6, s7_4_7, s7_4_8, s7_4_9, s7_4_10, s7_4_11, s7_4_12, s7_4_13, x7_13, r7_5_l, s7_5_0, x7_14, x7_12, x7_15, x7_11, x7_9, x7_17, r7_6_l, s7_6_0, s7_6_1, s7_6_2, s7_6_3, s7_6_4, s7_6_5, s7_6_6, s7_6_7, s7_6_8, s7_6_9, x7_19, r7_7_l, s7_7_0, x7_22, r7_8_l, s7_8_0, s7_8_1, s7_8_2, x7_24, x7_23, x7_21, x7_46, r7_15_l, s7_15_0, s7_15_1, s7_15_2, s7_15_3, s7_15_4, s7_15_5, s7_15_6, x7_49, r7_16_l, s7_16_0, s7_16_1, s7_16_2, s7_16_3, s7_16_4, s7_16_5, s7_16_6, s7_16_7, s7_16_8, s7_16_9, s7_16_10, x7_52, r7_17_l, s7_17_0, x7_53, x7_51, x7_54, x7_50, x7_48, x7_57, r7_18_l, s7_18_0, s7_18_1, x7_59, x7_58, x7_56, x7_105, r7_32_l, s7_32_0, x7_107, r7_33_l, s7_33_0, x7_110, r7_34_l, s7_34_0, s7_34_1, x7_112, x7_111, x7_109, x7_131, r7_41_l, s7_41_0, s7_41_1, s7_41_2, x7_134, r7_42_l, s7_42_0, s7_42_1, s7_42_2, x7_136, x7_135, x7_133, x7_157, x7_132, x7_130, x7_159, r7_49_l, s7_49_0, s7_49_1, s7_49_2, s7_49_3, s7_49_4, s7_49_5, s7_49_6, s7_49_7, x7_161, r7_50_l, s7_50_0, s7_50_1, s7_50_2, s7_50_3, s7_50_4, s7_50_5, x7_162, x7_160, x7_158, x7_129, x7_108, x7_106, x7_104, x7_55, x7_47, x7_45, x7_20, x7_18, x7_16, x7_8, x7_6, x7_4, x7_2, x7_0, b_7, beq_self_eq_true, h12, l12, sn, made, ce, lo, re, st, fn, cw, w1, w2, hq1, hq2, L1, L2, L3, L4, il, il2, t1, t2, tpl, tpo, lpl, lpo, lfc, hbl, wn]
  · simp (disch := omega) only [condX_bool, blockX_exit, ↓gd, fset_cons, Bool.not_true, bodyX_ret, run_nil, run_cons, fget_cons', fput_nil, fput_cons', forget_nil, forget_cons', hget_nil', hget_cons', hset_nil', hset_cons', frame0, gcM_n, gcM_c, stp, opPick, opBox, justO, just, Rd.bind, Rd.run, Rd.opt, upds, acells, rdCells, aLoad, opExtract, resA, resL, fresh, aLen, aBuiltin, aBin, aInt, Nat.reduceAdd, Nat.reduceMul, Nat.reduceBEq, Nat.reduceEqDiff, Nat.reduceLeDiff, ↓reduceIte, reduceCtorEq, liveBlk_eq, Nat.zero_add, List.nil_append, List.getElem?_toArray, Bool.not_true, Bool.and_true, decide_true, decide_false, aUn, putD_some, aCall, snaps, List.append_nil, Option.map_some, List.elem_cons, List.elem_nil, List.getElem?_cons_zero, List.getElem?_cons_succ, List.drop_zero, frz_nil, frz_eq, frzB_row, seqN, bindN, regN, snap_int, snap_ref, snap_agg, back1_r, back2_r, List.cons_append, Nat.le_refl, Nat.mul_one, Nat.zero_mul, beq_self_eq_true, bne_self_eq_false, Bool.false_eq_true, T_22, T_47, T_52, T_89, x7_1, r7_0_l, s7_0_0, s7_0_1, s7_0_2, x7_3, r7_1_l, s7_1_0, s7_1_1, s7_1_2, s7_1_3, s7_1_4, s7_1_5, s7_1_6, x7_5, r7_2_l, s7_2_0, s7_2_1, s7_2_2, x7_7, r7_3_l, s7_3_0, s7_3_1, s7_3_2, s7_3_3, s7_3_4, s7_3_5, s7_3_6, s7_3_7, x7_10, r7_4_l, s7_4_0, s7_4_1, s7_4_2, s7_4_3, s7_4_4, s7_4_5, s7_4_6, s7_4_7, s7_4_8, s7_4_9, s7_4_10, s7_4_11, s7_4_12, s7_4_13, x7_13, r7_5_l, s7_5_0, x7_14, x7_12, x7_15, x7_11, x7_9, x7_17, r7_6_l, s7_6_0, s7_6_1, s7_6_2, s7_6_3, s7_6_4, s7_6_5, s7_6_6, s7_6_7, s7_6_8, s7_6_9, x7_19, r7_7_l, s7_7_0, x7_22, r7_8_l, s7_8_0, s7_8_1, s7_8_2, x7_24, x7_23, x7_21, x7_46, r7_15_l, s7_15_0, s7_15_1, s7_15_2, s7_15_3, s7_15_4, s7_15_5, s7_15_6, x7_49, r7_16_l, s7_16_0, s7_16_1, s7_16_2, s7_16_3, s7_16_4, s7_16_5, s7_16_6, s7_16_7, s7_16_8, s7_16_9, s7_16_10, x7_52, r7_17_l, s7_17_0, x7_53, x7_51, x7_54, x7_50, x7_48, x7_57, r7_18_l, s7_18_0, s7_18_1, x7_59, x7_58, x7_56, x7_105, r7_32_l, s7_32_0, x7_107, r7_33_l, s7_33_0, x7_110, r7_34_l, s7_34_0, s7_34_1, x7_112, x7_111, x7_109, x7_131, r7_41_l, s7_41_0, s7_41_1, s7_41_2, x7_134, r7_42_l, s7_42_0, s7_42_1, s7_42_2, x7_136, x7_135, x7_133, x7_157, x7_132, x7_130, x7_159, r7_49_l, s7_49_0, s7_49_1, s7_49_2, s7_49_3, s7_49_4, s7_49_5, s7_49_6, s7_49_7, x7_161, r7_50_l, s7_50_0, s7_50_1, s7_50_2, s7_50_3, s7_50_4, s7_50_5, x7_162, x7_160, x7_158, x7_129, x7_108, x7_106, x7_104, x7_55, x7_47, x7_45, x7_20, x7_18, x7_16, x7_8, x7_6, x7_4, x7_2, x7_0, b_7, beq_self_eq_true, h12, l12, sn, made, ce, lo, re, st, fn, cw, w1, w2, hq1, hq2, L1, L2, L3, il, il2, t1, t2, tpl, tpo, lpl, lpo, lfc, hbl, wn]
end Go.AM.Ytmhbnflnlglljaa
end

section
namespace Go.AM.Ytmhbnflnlglljaa
open Go Go.AM
set_option maxRecDepth 100000
set_option maxHeartbeats 4000000
theorem p2_ints : ∀ (l : List P2), ∀ a ∈ p2cells l, ∃ k z, a = AV.int k z
  | [], a, h => by simp [p2cells] at h
  | q :: l, a, h => by
    simp only [p2cells, List.mem_cons] at h
    rcases h with rfl | rfl | h
    · exact ⟨_, _, rfl⟩
    · exact ⟨_, _, rfl⟩
    · exact p2_ints l a h
theorem oth_ok {hs ws bs : List Int} (h : Sml hs ws) (hbs : BOk bs) : OkP (othL hs ws bs ws.length) ∧ KnW (othL hs ws bs ws.length) ws ∧ (∀ i, i < ws.length → ((othL hs ws bs ws.length).getD i default).half = 4 * hs.getD i 0) ∧ ∀ i, i < ws.length → -1000 ≤ (othS hs ws bs i).pos + (othS hs ws bs i).half ∧ (othS hs ws bs i).pos + (othS hs ws bs i).half ≤ 1000 ∧ -1000 ≤ (othS hs ws bs i).pos ∧ (othS hs ws bs i).pos ≤ 1000 := by
  have n4 := h.n4
  have n0 := h.ok.ne
  have gd : ∀ i, i < ws.length → (othL hs ws bs ws.length).getD i default = othS hs ws bs i := fun i hi => by
    rw [List.getD_eq_getElem?_getD, othL_at hi]; rfl
  have key : ∀ i, i < ws.length → (-1000 ≤ (othS hs ws bs i).pos + (othS hs ws bs i).half ∧ (othS hs ws bs i).pos + (othS hs ws bs i).half ≤ 1000 ∧ -1000 ≤ (othS hs ws bs i).pos ∧ (othS hs ws bs i).pos ≤ 1000) ∧ Fits (othS hs ws bs i) := by
    intro i hi
    have be := othE_b h hbs i (by omega)
    have x := h.ok.h i hi
    have x4 := h.h4 i hi
    have w := h.ok.w i hi
    obtain ⟨b, hb⟩ := at_ex (l := bs) (k := i) (by have := hbs.l; omega)
    obtain ⟨b0, b1⟩ := hbs.b i b hb
    have hb' : bs.getD i 0 = b := by simp [hb]
    obtain ⟨t1, t2⟩ := tmod_b b0 (8 * hs.getD i 0 + 2) (by omega)
    simp only [othS, hb']
    refine ⟨by omega, ⟨?_, ?_, ?_, ?_, ?_, ?_, ?_⟩⟩ <;> simp only <;> omega
  refine ⟨⟨by rw [othL_length]; omega, by rw [othL_length]; omega, fun k s hs' => ?_⟩, ⟨othL_length .., fun i hi => by rw [gd i hi]; exact ⟨rfl, rfl⟩⟩, fun i hi => by rw [gd i hi]; rfl, fun i hi => (key i hi).1⟩
  have hk := at_lt hs'
  rw [othL_length] at hk
  rw [othL_at hk] at hs'
  obtain rfl := Option.some.inj hs'
  exact (key k hk).2
theorem reach_law_true {hs ws bs : List Int} {lc : List AV} (h : Sml hs ws) (hbs : BOk bs) (h12 : List.take 12 lc = lc) (l12 : lc.length = 12) (sn : snaps 198 lc = .pure (lc, []))
    (made : ∀ (site : Nat → Nat) seen, site 1 ≠ site 0 → aBack site true seen (thaw (callA E fg 1000 40) 43 [.agg lc, .int .i64 4, .int .i64 5] [] 0) = back2 (site 0) (site 1) seen (fun k k' => .tup [.ref k 0 ws.length ws.length ws.length 1 false, .ref k' 0 ws.length ws.length ws.length 1 false]) ⟨.row, icells hs⟩ ⟨.row, icells ws⟩)
    (hw : ∃ H', callA E fg 1000 40 10 [] [] 0 = some (.bool true, H')) :
    rsOf (bodyA E (callA E fg 1000 40) fg 1000 7 [.agg lc, .agg (bcells bs)] [] 0) = some (.bool true) := by
  have cw := fun (site : Nat → Nat) seen => aBack_bool (site := site) (seen := seen) hw
  have ok := h.ok
  have heq := ok.eq
  have n0 := ok.ne
  have n4 := h.n4
  obtain ⟨D160, okl, okt⟩ := pl_okP ok h.n4 h.h4 h.w5
  obtain ⟨oko, kno, hho, bo⟩ := oth_ok h hbs
  have e1 := check_zero.2 okl
  have stl : standsB (plL hs ws ws.length) = true := by
    unfold standsB; rw [if_pos e1, decide_eq_true_eq]; exact pl_stands ok
  have lr : ws.length - 1 + 1 = ws.length := by omega
  have re : ∀ i, i < ws.length → ∀ (site : Nat → Nat) seen e1 e2, aBack site true seen (thaw (callA E fg 1000 40) 44 [.imm (icells hs) ws.length e1, .imm (icells ws) ws.length e2, .int .i64 i] [] 0) = .pure (.tup [.int .i64 (rcP hs ws i (i + 1)).1, .int .i64 (rcP hs ws i (i + 1)).2], []) := fun i hi site seen e1 e2 => by
    have := reach_call (d := 38) (site := site) (seen := seen) (e1 := e1) (e2 := e2) ok hi
    rwa [heq] at this
  have r2c : ∀ i, i < ws.length → R2C (callA E fg 1000 40) hs ws i (rcP hs ws i (i + 1)).1 (rcP hs ws i (i + 1)).2 (farF hs ws i) := fun i hi => by
    obtain ⟨b1, b2, b3, b4⟩ := rc_small ok hi (i := i + 1) (by omega)
    refine ⟨re i hi, fun site seen e1 e2 => ?_, fun site seen => ?_⟩
    · have := farthest_run (d := 36) (e1 := e1) (e2 := e2) ok hi
      rw [heq] at this
      exact aBack_fracint (rs_ex this)
    · have := ratio_call (d := 38) (site := site) (seen := seen) (num := (rcP hs ws i (i + 1)).1) (den := (rcP hs ws i (i + 1)).2) (by omega) (by omega)
      rw [← far_rc ok hi] at this
      exact this
  refine reach_law (q1 := weakL (plL hs ws ws.length)) (q2 := weakL (othL hs ws bs ws.length)) h hbs h12 l12 sn made ⟨?_, ?_, ?_, ?_, ?_, cw⟩ (fun i hi => ?_) (fun site seen ex => ?_) (by have := pl_stands ok; omega) (fun i hi => ?_) (fun site seen ex => ?_) (fun hq i hi => ?_)
  · intro site seen a b
    have := centres_call (d := 36) (site := site) (seen := seen) (e1 := a) (e2 := b) ok
    rwa [heq] at this
  · intro site seen a b
    have := loads_call (d := 39) (site := site) (seen := seen) (e1 := a) (e2 := b) ok
    rwa [heq] at this
  · intro site seen a b
    have := re (ws.length - 1) (by omega) site seen a b
    rwa [lr, rc_last ok] at this
  · intro site seen ex
    have := stands_call (d := 34) (site := site) (seen := seen) (a := .imm (pcells (plL hs ws ws.length)) (plL hs ws ws.length).length ex) (.inr ⟨ex, rfl⟩)
    rwa [e1, stl, plL_length] at this
  · intro site seen a b
    have := far_none (d := 36) (e1 := a) (e2 := b) ok
    rw [heq] at this
    exact aBack_fracint (rs_ex this)
  · rw [plL_succ]
    exact r1_go h hbs i hi _ (plL_length ..) (fun site seen => fair_call (d := 38) (cen_fair h hi).1)
  · have := lweak_call (d := 36) (site := site) (seen := seen) (ex := ex) okl
    rwa [plL_length] at this
  · by_cases e : i + 1 = ws.length
    · rw [if_pos e]
      obtain rfl : i = ws.length - 1 := by omega
      have k := r2c (ws.length - 1) (by omega)
      rw [lr, rc_last ok] at k
      have := r2_last h hbs k (q := weakL (plT hs ws)) (fun site seen ex => by
        have := lweak_call (d := 36) (site := site) (seen := seen) (ex := ex) okt
        rwa [show (plT hs ws).length = ws.length by simp [plT, plL_length]] at this) (plT_tips ok)
      rw [lr]
      exact this
    · rw [if_neg e]
      exact r2_go h hbs i (by omega) (r2c i hi)
  · have := lweak_call (d := 36) (site := site) (seen := seen) (ex := ex) oko
    rwa [othL_length] at this
  · obtain ⟨b1, b2, b3, b4⟩ := rc_small ok hi (i := i + 1) (by omega)
    have le := reach_le ok kno hho hq hi
    rw [List.getD_eq_getElem?_getD, othL_at hi, Option.getD_some] at le
    exact r4_go h (othL_length ..) i hi (othL_at hi) (bo i hi) ⟨by omega, b2⟩ ⟨b3, b4⟩ le (re i hi)
theorem reach_true {zs bs : List Int} (hz : zs.length = 12 ∧ ∀ (i : Nat) (z : Int), zs[i]? = some z → 0 ≤ z ∧ z ≤ 255) (hb : bs.length = 5 ∧ ∀ (i : Nat) (z : Int), bs[i]? = some z → 0 ≤ z ∧ z ≤ 255) (hw : ∃ H', callA E fg 1000 40 10 [] [] 0 = some (.bool true, H')) :
    rsOf (bodyA E (callA E fg 1000 40) fg 1000 7 [.agg (zs.map (AV.int .u8)), .agg (bs.map (AV.int .u8))] [] 0) = some (.bool true) := by
  obtain ⟨hl, hz⟩ := hz
  match zs, hl with
  | [a0, a1, a2, a3, a4, a5, a6, a7, a8, a9, a10, a11], _ =>
    have q : ∀ (i : Nat) (p : P2), ([⟨a2, a3⟩, ⟨a4, a5⟩, ⟨a6, a7⟩, ⟨a8, a9⟩, ⟨a10, a11⟩] : List P2)[i]? = some p → P2Ok p := by
      intro i p hp
      match i, hp with
      | 0, hp => simp at hp; subst hp; exact ⟨hz 2 a2 rfl, hz 3 a3 rfl⟩
      | 1, hp => simp at hp; subst hp; exact ⟨hz 4 a4 rfl, hz 5 a5 rfl⟩
      | 2, hp => simp at hp; subst hp; exact ⟨hz 6 a6 rfl, hz 7 a7 rfl⟩
      | 3, hp => simp at hp; subst hp; exact ⟨hz 8 a8 rfl, hz 9 a9 rfl⟩
      | 4, hp => simp at hp; subst hp; exact ⟨hz 10 a10 rfl, hz 11 a11 rfl⟩
      | i + 5, hp => simp at hp
    have lk : LOk a0 a1 [⟨a2, a3⟩, ⟨a4, a5⟩, ⟨a6, a7⟩, ⟨a8, a9⟩, ⟨a10, a11⟩] := ⟨hz 0 a0 rfl, hz 1 a1 rfl, rfl, q⟩
    have e : [a0, a1, a2, a3, a4, a5, a6, a7, a8, a9, a10, a11].map (AV.int .u8) = lcells a0 a1 [⟨a2, a3⟩, ⟨a4, a5⟩, ⟨a6, a7⟩, ⟨a8, a9⟩, ⟨a10, a11⟩] := rfl
    rw [e]
    generalize ([⟨a2, a3⟩, ⟨a4, a5⟩, ⟨a6, a7⟩, ⟨a8, a9⟩, ⟨a10, a11⟩] : List P2) = qs at *
    obtain ⟨n1, n2, n3⟩ := nOfL_b lk (many := 4) (.inl rfl)
    obtain ⟨ok, small⟩ := lm_ok lk (many := 4) (wt := 5) (.inl rfl) (.inl rfl)
    have l12 : (lcells a0 a1 qs).length = 12 := by simp [lcells, p2cells_length, lk.l]
    have sm : Sml (hfI a1 qs (nOfL a0 4)) (wgI 5 qs (nOfL a0 4)) := ⟨ok, by rw [wgI_length]; omega, fun i hi => (small i (by rwa [wgI_length] at hi)).1, fun i hi => (small i (by rwa [wgI_length] at hi)).2⟩
    refine reach_law_true sm ⟨hb.1, hb.2⟩ (List.take_of_length_le (by omega)) l12 (snaps_flat _ _ ?_ (by omega)) (fun site seen hs => ?_) hw
    · intro a ha
      simp only [lcells, List.mem_cons] at ha
      rcases ha with rfl | rfl | ha
      · exact ⟨_, _, rfl⟩
      · exact ⟨_, _, rfl⟩
      · exact p2_ints _ a ha
    · rw [wgI_length]
      exact lm_call (d := 39) lk (.inl rfl) (.inl rfl) hs
end Go.AM.Ytmhbnflnlglljaa
end

section
namespace Go.AM.Ytmhbnflnlglljaa
open Go Go.AM
set_option maxRecDepth 1000000
theorem works_run : isTrue (callA E fg 1000 40 10 [] [] 0) = true := by kernel_rfl
end Go.AM.Ytmhbnflnlglljaa
end

section
namespace Go.AM.Ytmhbnflnlglljaa
open Go Go.AM Go.RowKit Go.Proofs Go.Proofs.Ytmhbnflnlglljaa Go.ChangeShapes Go.WideShapes Go.ChangeAt
set_option maxRecDepth 1000000
theorem laidOut : laidOutB Try.prog = true := by kernel_rfl
theorem readable_0 : Try.prog.readableRec 89 = true := by kernel_rfl
theorem types_lt_0 : 89 < Try.prog.types.size := of_decide_eq_true (by kernel_rfl)
theorem cellsOf_0 : Try.prog.cellsOf 89 = 12 := by kernel_rfl
theorem cellTypes_0 : Try.prog.cellTypes Try.prog.depth 89 = some (List.replicate 12 5) := by kernel_rfl
theorem readable_1 : Try.prog.readableRec 71 = true := by kernel_rfl
theorem types_lt_1 : 71 < Try.prog.types.size := of_decide_eq_true (by kernel_rfl)
theorem cellsOf_1 : Try.prog.cellsOf 71 = 5 := by kernel_rfl
theorem cellTypes_1 : Try.prog.cellTypes Try.prog.depth 71 = some (List.replicate 5 5) := by kernel_rfl
theorem propReach_walk {W : World} {zs0 : List Int} {v0 : Value} {zs1 : List Int} {v1 : Value} (h0 : zs0.length = 12 ∧ ∀ (i : Nat) (z : Int), zs0[i]? = some z → 0 ≤ z ∧ z ≤ 255) (r0 : (start (fun k => k < W.heap.size) W).R (.agg (zs0.map (AV.int .u8))) v0) (h1 : zs1.length = 5 ∧ ∀ (i : Nat) (z : Int), zs1[i]? = some z → 0 ≤ z ∧ z ≤ 255) (r1 : (start (fun k => k < W.heap.size) W).R (.agg (zs1.map (AV.int .u8))) v1) :
    Calls Try.prog 7 #[v0, v1] W fun e w' => e = .returned (.bool true) ∧ Below W.heap.size W w' := by
  obtain ⟨H0, hw⟩ := isTrue_ok works_run
  obtain ⟨H1, hr⟩ := rs_ex (reach_true h0 h1 ⟨H0, hw⟩)
  have hC : CS Try.prog E (bodyA E (callA E fg 1000 40) fg 1000) := body_ok envOk mixed fg 1000 (sound 40)
  refine law_run hC hr (fun k h => h) (vs := [v0, v1]) ?_
  simp only [Gh.Rs, VRs]
  exact ⟨v0, _, rfl, r0, v1, _, rfl, r1, rfl⟩
theorem propReach_lifted (os : Os) (started : os.Started) (H : Type) (enc : TypeId × Value → H) :
    ReturnsInHanded {} Try.checked os 7 .any (Rows.propReachSpec.pre6 enc Try.prog Try.f7 Rows.propReachRow.domain false)
      (Rows.propReachSpec.post enc Try.prog Try.f7 false true false false) := by
  refine returnsInHanded_of_change own started (by kernel_rfl) Try.func7 (ChangeSpec.witness6 (enc := enc) (C := Try.checked) false ⟨#[], #[.agg (Array.replicate 12 (.int .u8 0)), .agg (Array.replicate 5 (.int .u8 0))], []⟩ 8 (by kernel_rfl) (by kernel_rfl) (by kernel_rfl) (by kernel_rfl)) ?_
  intro W base args ds gs before hval0 hW _ _
  have hW' := hW
  obtain ⟨p, q, hA0, hV, rfl, hfz, hnd⟩ := hW
  have hA : DataW.TrodAll enc Try.prog W 0 (fun _ => true) true Try.f7.params.toList args.toList ds p := hA0
  rw [Try.params7] at hA
  obtain ⟨w0, vs0, d0, ds0, p0, q0, ha, rfl, rfl, t0, hr0⟩ := trodAll_cons hA
  obtain ⟨w1, vs1, d1, ds1, p1, q1, rfl, rfl, rfl, t1, hr1⟩ := trodAll_cons hr0
  obtain ⟨rfl, rfl, rfl⟩ := trodAll_nil hr1
  obtain rfl : args = #[w0, w1] := by cases args; simp_all
  obtain ⟨rfl, rfl⟩ := trodVars_none hV
  have hval : ∀ (j : Nat) t v, (#[89, 71] : Array TypeId)[j]? = some t → (#[w0, w1] : Array Value)[j]? = some v → Value.okWide Try.prog W .any base t v := by
    intro j t v; have := hval0 j t v; rw [Try.params7] at this; exact this
  obtain ⟨zs0, cs0, rfl, e0, l0, b0⟩ := hand_struct Try.underlying89 Try.underlying5 cellTypes_0 cellsOf_0 (by omega) (hval 0 89 w0 rfl rfl)
  have h0 : zs0.length = 12 ∧ ∀ (i : Nat) (z : Int), zs0[i]? = some z → 0 ≤ z ∧ z ≤ 255 := ⟨l0, b0⟩
  have r0 : (start (fun k => k < W.heap.size) W).R (.agg (zs0.map (AV.int .u8))) (.agg cs0) := vr_u8 _ e0
  obtain ⟨zs1, cs1, rfl, e1, l1, b1⟩ := hand_array Try.underlying71 Try.underlying5 cellTypes_1 cellsOf_1 (by omega) (hval 1 71 w1 rfl rfl)
  have h1 : zs1.length = 5 ∧ ∀ (i : Nat) (z : Int), zs1[i]? = some z → 0 ≤ z ∧ z ≤ 255 := ⟨l1, b1⟩
  have r1 : (start (fun k => k < W.heap.size) W).R (.agg (zs1.map (AV.int .u8))) (.agg cs1) := vr_u8 _ e1
  refine (propReach_walk h0 r0 h1 r1).mono fun e W' ⟨he, bel⟩ => ?_
  subst he
  exact ⟨_, rfl, _, _, _, [], _, [], hW', trodAll_mk1 (shut_bool Try.underlying4 _),
    trodAll_mk2 (bel.trod' laidOut readable_0 types_lt_0 t0) (bel.trod' laidOut readable_1 types_lt_1 t1), rfl, bel.frame _, fun h => by cases h⟩
theorem propReach_holds : Rows.PropReachSaid :=
  OpenClaim.holds_of_wide 7 Try.f7 rfl rfl rfl rfl rfl rfl rfl ⟨rfl, rfl, rfl, rfl, rfl⟩ rfl rfl rfl rfl rfl (by kernel_rfl) Try.func7 (by kernel_rfl)
    (of_decide_eq_true (by kernel_rfl)) (by unfold Func.isWrapper; first | (rw [if_pos (by decide +kernel)]; kernel_rfl) | (rw [if_neg (by decide +kernel)]; exact ⟨rfl, rfl⟩))
    (fun os started H enc _ => propReach_lifted os started H enc)
end Go.AM.Ytmhbnflnlglljaa
namespace Go.Proofs.Ytmhbnflnlglljaa
/-- PropReach: the law answers true for every input, and the input reads as it did. No condition. -/
theorem propReach_holds : Rows.PropReachSaid := Go.AM.Ytmhbnflnlglljaa.propReach_holds
end Go.Proofs.Ytmhbnflnlglljaa
end
#print axioms Go.Proofs.Ytmhbnflnlglljaa.propReach_holds
