/- PropStands: the law's run. Own work of this project. -/
import Derived.Test.YteellnlcligpfaaLawB
namespace Go.AM
theorem snap_int (d : Nat) (k : IntKind) (z : Int) : snap (d + 1) (.int k z) = .pure (.int k z, []) := rfl
theorem snap_nilsl (d : Nat) : snap (d + 1) .nilsl = .pure (.nilsl, []) := rfl
theorem snap_imm (d : Nat) (c : List AV) (n : Nat) (ex : Bool) : snap (d + 1) (.imm c n ex) = .pure (.imm c n ex, []) := rfl
theorem snap_ref (d id off len cap gl sz : Nat) (ex : Bool) : snap (d + 1) (.ref id off len cap gl sz ex) = (Rd.liveBlk id gl).bind fun b =>
      if off + len * sz ≤ b.cells.length then
        match b.st with
        | .box => (snaps d ((b.cells.drop off).take (len * sz))).bind fun x =>
          .pure (.imm x.1 len (ex && decide (cap = len)), id :: x.2)
        | _ => .pure (.imm ((b.cells.drop off).take (len * sz)) len (ex && decide (cap = len)), [id])
      else .fail := rfl
end Go.AM
namespace Go.AM.Yteellnlcligpfaa
open Go Go.AM
set_option maxRecDepth 100000
set_option maxHeartbeats 4000000

theorem isP_snap {a : AV} {l : List Stone} (ha : IsP a l) (d : Nat) : snap (d + 1) a = .pure (a, []) := by
  rcases ha with ⟨rfl, _⟩ | ⟨ex, rfl⟩ <;> rfl
theorem isI_snap {a : AV} {l : List Int} (ha : IsI a l) (d : Nat) : snap (d + 1) a = .pure (a, []) := by
  rcases ha with ⟨rfl, _⟩ | ⟨ex, rfl⟩ <;> rfl
theorem isP_len {a : AV} {l : List Stone} (ha : IsP a l) : aLen E.T 22 a = .pure (.int .i64 l.length) := by
  rcases ha with ⟨rfl, rfl⟩ | ⟨ex, rfl⟩ <;> simp only [aLen, T_22] <;> rfl
theorem isI_len {a : AV} {l : List Int} (ha : IsI a l) : aLen E.T 23 a = .pure (.int .i64 l.length) := by
  rcases ha with ⟨rfl, rfl⟩ | ⟨ex, rfl⟩ <;> simp only [aLen, T_23] <;> rfl

theorem law_nil {C : Callee} {ws : List Int} {a b : AV} {z side : Int} (ha : IsP a []) (hb : IsI b ws) (h2 : ws.length ≤ 40)
    (c1 : ∀ (site : Nat → Nat) seen, aBack site true seen (thaw C 8 [a] [] 0) = .pure (.tup [.bool (standsB []), .int .i64 (check [])], []))
    (c2 : ∀ (site : Nat → Nat) seen, aBack site true seen (thaw C 9 [.nilsl] [] 0) = .pure (.tup [.bool (standsB []), .int .i64 (check [])], []))
    (c3 : ∀ (site : Nat → Nat) seen, aBack site true seen (thaw C 10 [a] [] 0) = .pure (.tup [.int .i64 (tipsN []), .int .i64 (tipsE [])], []))
    (c4 : ∀ (site : Nat → Nat) seen, aBack site true seen (thaw C 11 [.nilsl] [] 0) = .pure (.tup [.int .i64 (tipsN []), .int .i64 (tipsE [])], []))
    (c8 : ∀ (site : Nat → Nat) seen, aBack site true seen (thaw C 15 [a, b, .int .i64 z, .int .i64 side] [] 0) = .pure (.tup [.int .i64 (momN [] ws z side), .int .i64 (momE [] ws z side)], []))
    (c9 : ∀ (site : Nat → Nat) seen, aBack site true seen (thaw C 16 [.nilsl, b, .int .i64 z, .int .i64 side] [] 0) = .pure (.tup [.int .i64 (momN [] ws z side), .int .i64 (momE [] ws z side)], []))
    (d1 : ∀ (site : Nat → Nat) seen, aBack site true seen (thaw C 17 [a] [] 0) = .pure (.int .i64 (check []), []))
    (d2 : ∀ (site : Nat → Nat) seen, aBack site true seen (thaw C 18 [.nilsl] [] 0) = .pure (.int .i64 (check []), []))
    (d3 : ∀ (site : Nat → Nat) seen, aBack site true seen (thaw C 19 [a, b, .int .i64 z] [] 0) = .pure (.int .i64 (provesE [] ws z), []))
    (d4 : ∀ (site : Nat → Nat) seen, aBack site true seen (thaw C 20 [.nilsl, b, .int .i64 z] [] 0) = .pure (.int .i64 (provesE [] ws z), []))
    (cw : ∀ (site : Nat → Nat) seen, aBack site true seen (thaw C 6 [] [] 0) = .pure (.bool true, []))
    (ci : ∀ (site : Nat → Nat) seen, aBack site true seen (thaw C 7 [a] [] 0) = .pure (.nilsl, []))
    (c5 : ∀ (site : Nat → Nat) seen, aBack site true seen (thaw C 12 [a, .int .i64 z, .int .i64 side] [] 0) = .pure (.tup [.nilsl, .int .i64 (sidedE [] z side)], []))
    (c6 : ∀ (site : Nat → Nat) seen, aBack site true seen (thaw C 13 [.nilsl, .int .i64 z, .int .i64 side] [] 0) = .pure (.tup [.nilsl, .int .i64 (sidedE [] z side)], []))
    (c7 : ∀ (site : Nat → Nat) seen, aBack site true seen (thaw C 14 [.nilsl, .nilsl] [] 0) = .pure (.bool true, [])) :
    rsOf (bodyA E C fg 1000 3 [a, b, .int .i64 z, .int .i64 side] [] 0) = some (.bool true) := by
  have g2 : ¬ (ws.length : Int) > 40 := by omega
  have g0 : ¬ (0 : Int) > 40 := by omega
  have sa := fun d => isP_snap ha d
  have sb := fun d => isI_snap hb d
  have la := isP_len ha
  have lb := isI_len hb
  simp only [List.length_nil, Int.natCast_zero] at la
  simp only [seqX_normal, bindR_some, regX_some, condX_bool, ↓gd, fset_cons, Bool.not_true, bodyX_ret, run_nil, run_cons, fget_cons', fput_cons', forget_nil, forget_cons', frame0, gcM, stp, opPick, justO, just, Rd.bind, Rd.run, Rd.opt, upds, opExtract, resA, resL, aBuiltin, aBin, aInt, Nat.reduceAdd, Nat.reduceBEq, Nat.reduceEqDiff, Nat.reduceLeDiff, ↓reduceIte, reduceCtorEq, Nat.zero_add, List.getElem?_toArray, Bool.not_true, decide_false, aUn, putD_some, aCall, snaps, List.append_nil, Option.map_some, List.elem_cons, List.elem_nil, List.getElem?_cons_zero, List.getElem?_cons_succ, snap_int, snap_nilsl, sa, sb, la, lb, T_4, x3_1, r3_0_l, s3_0_0, x3_4, r3_1_l, s3_1_0, s3_1_1, s3_1_2, s3_1_3, s3_1_4, s3_1_5, s3_1_6, s3_1_7, x3_7, r3_2_l, s3_2_0, s3_2_1, x3_8, x3_6, x3_9, x3_5, x3_3, x3_11, r3_3_l, s3_3_0, s3_3_1, s3_3_2, x3_13, r3_4_l, s3_4_0, s3_4_1, s3_4_2, s3_4_3, s3_4_4, s3_4_5, s3_4_6, x3_15, r3_5_l, s3_5_0, s3_5_1, s3_5_2, s3_5_3, s3_5_4, s3_5_5, s3_5_6, x3_17, r3_6_l, s3_6_0, s3_6_1, s3_6_2, s3_6_3, s3_6_4, s3_6_5, s3_6_6, x3_19, r3_7_l, s3_7_0, s3_7_1, s3_7_2, s3_7_3, s3_7_4, s3_7_5, s3_7_6, x3_21, r3_8_l, s3_8_0, s3_8_1, s3_8_2, s3_8_3, s3_8_4, s3_8_5, s3_8_6, s3_8_7, s3_8_8, x3_23, r3_9_l, s3_9_0, s3_9_1, s3_9_2, s3_9_3, s3_9_4, s3_9_5, s3_9_6, s3_9_7, s3_9_8, x3_26, r3_10_l, s3_10_0, s3_10_1, s3_10_2, s3_10_3, s3_10_4, s3_10_5, s3_10_6, s3_10_7, s3_10_8, s3_10_9, s3_10_10, s3_10_11, s3_10_12, s3_10_13, s3_10_14, s3_10_15, s3_10_16, s3_10_17, s3_10_18, s3_10_19, s3_10_20, s3_10_21, s3_10_22, s3_10_23, s3_10_24, s3_10_25, s3_10_26, s3_10_27, s3_10_28, x3_29, r3_11_l, s3_11_0, x3_30, x3_28, x3_31, x3_27, x3_25, x3_33, r3_12_l, s3_12_0, s3_12_1, s3_12_2, s3_12_3, s3_12_4, s3_12_5, s3_12_6, s3_12_7, s3_12_8, s3_12_9, x3_35, r3_13_l, s3_13_0, s3_13_1, s3_13_2, s3_13_3, s3_13_4, s3_13_5, s3_13_6, s3_13_7, s3_13_8, s3_13_9, x3_37, r3_14_l, s3_14_0, s3_14_1, s3_14_2, s3_14_3, s3_14_4, s3_14_5, s3_14_6, s3_14_7, s3_14_8, s3_14_9, s3_14_10, s3_14_11, s3_14_12, s3_14_13, s3_14_14, s3_14_15, s3_14_16, s3_14_17, s3_14_18, s3_14_19, s3_14_20, s3_14_21, s3_14_22, s3_14_23, s3_14_24, s3_14_25, s3_14_26, s3_14_27, s3_14_28, s3_14_29, x3_38, x3_36, x3_34, x3_32, x3_24, x3_22, x3_20, x3_18, x3_16, x3_14, x3_12, x3_10, x3_2, x3_0, b_3, g0, g2, ci, c1, c2, c3, c4, c5, c6, c7, c8, c9, d1, d2, d3, d4, cw, isBoolT, beq_self_eq_true, bne_self_eq_false]
theorem law_err {C : Callee} {l : List Stone} {ex : Bool} {ws : List Int} {b : AV} {z side : Int} (h1 : l.length ≤ 40) (hb : IsI b ws) (h2 : ws.length ≤ 40)
    (c1 : ∀ (site : Nat → Nat) seen, aBack site true seen (thaw C 8 [.imm (pcells l) l.length ex] [] 0) = .pure (.tup [.bool (standsB l), .int .i64 (check l)], []))
    (c2 : ∀ (site : Nat → Nat) seen, aBack site true seen (thaw C 9 [.imm (pcells l) l.length false] [] 0) = .pure (.tup [.bool (standsB l), .int .i64 (check l)], []))
    (c3 : ∀ (site : Nat → Nat) seen, aBack site true seen (thaw C 10 [.imm (pcells l) l.length ex] [] 0) = .pure (.tup [.int .i64 (tipsN l), .int .i64 (tipsE l)], []))
    (c4 : ∀ (site : Nat → Nat) seen, aBack site true seen (thaw C 11 [.imm (pcells l) l.length false] [] 0) = .pure (.tup [.int .i64 (tipsN l), .int .i64 (tipsE l)], []))
    (c8 : ∀ (site : Nat → Nat) seen, aBack site true seen (thaw C 15 [.imm (pcells l) l.length ex, b, .int .i64 z, .int .i64 side] [] 0) = .pure (.tup [.int .i64 (momN l ws z side), .int .i64 (momE l ws z side)], []))
    (c9 : ∀ (site : Nat → Nat) seen, aBack site true seen (thaw C 16 [.imm (pcells l) l.length false, b, .int .i64 z, .int .i64 side] [] 0) = .pure (.tup [.int .i64 (momN l ws z side), .int .i64 (momE l ws z side)], []))
    (d1 : ∀ (site : Nat → Nat) seen, aBack site true seen (thaw C 17 [.imm (pcells l) l.length ex] [] 0) = .pure (.int .i64 (check l), []))
    (d2 : ∀ (site : Nat → Nat) seen, aBack site true seen (thaw C 18 [.imm (pcells l) l.length false] [] 0) = .pure (.int .i64 (check l), []))
    (d3 : ∀ (site : Nat → Nat) seen, aBack site true seen (thaw C 19 [.imm (pcells l) l.length ex, b, .int .i64 z] [] 0) = .pure (.int .i64 (provesE l ws z), []))
    (d4 : ∀ (site : Nat → Nat) seen, aBack site true seen (thaw C 20 [.imm (pcells l) l.length false, b, .int .i64 z] [] 0) = .pure (.int .i64 (provesE l ws z), []))
    (cw : ∀ (site : Nat → Nat) seen, aBack site true seen (thaw C 6 [] [] 0) = .pure (.bool true, []))
    (ci : ∀ (site : Nat → Nat), aBack site true [] (thaw C 7 [.imm (pcells l) l.length ex] [] 0) = (fresh (site 0) ⟨.row, pcells l⟩).bind fun f => .pure (.ref (site 0) 0 l.length l.length (l.length * 4) 4 false, f))
    (c5 : ∀ (site : Nat → Nat) seen, aBack site true seen (thaw C 12 [.imm (pcells l) l.length ex, .int .i64 z, .int .i64 side] [] 0) = .pure (.tup [.nilsl, .int .i64 (sidedE l z side)], []))
    (c6 : ∀ (site : Nat → Nat) seen, aBack site true seen (thaw C 13 [.imm (pcells l) l.length false, .int .i64 z, .int .i64 side] [] 0) = .pure (.tup [.nilsl, .int .i64 (sidedE l z side)], []))
    (c7 : ∀ (site : Nat → Nat) seen, aBack site true seen (thaw C 14 [.nilsl, .nilsl] [] 0) = .pure (.bool true, [])) :
    rsOf (bodyA E C fg 1000 3 [.imm (pcells l) l.length ex, b, .int .i64 z, .int .i64 side] [] 0) = some (.bool true) := by
  have g1 : ¬ (l.length : Int) > 40 := by omega
  have g2 : ¬ (ws.length : Int) > 40 := by omega
  have sb := fun d => isI_snap hb d
  have lb := isI_len hb
  have la := isP_len (a := .imm (pcells l) l.length ex) (l := l) (.inr ⟨ex, rfl⟩)
  simp only [seqX_normal, bindR_some, regX_some, condX_bool, ↓gd, fset_cons, Bool.not_true, bodyX_ret, run_nil, run_cons, fget_cons', fput_cons', forget_nil, forget_cons', hget_nil', hget_cons', hset_nil', frame0, gcM, stp, opPick, justO, just, Rd.bind, Rd.run, Rd.opt, upds, opExtract, resA, resL, fresh, aBuiltin, aBin, aInt, Nat.reduceAdd, Nat.reduceMul, Nat.reduceBEq, Nat.reduceEqDiff, Nat.reduceLeDiff, ↓reduceIte, reduceCtorEq, liveBlk_eq, Nat.zero_add, List.getElem?_toArray, Bool.not_true, Bool.and_true, decide_true, decide_false, aUn, putD_some, aCall, snaps, List.append_nil, Option.map_some, List.elem_cons, List.elem_nil, List.getElem?_cons_zero, List.getElem?_cons_succ, List.drop_zero, la, snap_int, snap_nilsl, snap_imm, snap_ref, sb, lb, T_4, x3_1, r3_0_l, s3_0_0, x3_4, r3_1_l, s3_1_0, s3_1_1, s3_1_2, s3_1_3, s3_1_4, s3_1_5, s3_1_6, s3_1_7, x3_7, r3_2_l, s3_2_0, s3_2_1, x3_8, x3_6, x3_9, x3_5, x3_3, x3_11, r3_3_l, s3_3_0, s3_3_1, s3_3_2, x3_13, r3_4_l, s3_4_0, s3_4_1, s3_4_2, s3_4_3, s3_4_4, s3_4_5, s3_4_6, x3_15, r3_5_l, s3_5_0, s3_5_1, s3_5_2, s3_5_3, s3_5_4, s3_5_5, s3_5_6, x3_17, r3_6_l, s3_6_0, s3_6_1, s3_6_2, s3_6_3, s3_6_4, s3_6_5, s3_6_6, x3_19, r3_7_l, s3_7_0, s3_7_1, s3_7_2, s3_7_3, s3_7_4, s3_7_5, s3_7_6, x3_21, r3_8_l, s3_8_0, s3_8_1, s3_8_2, s3_8_3, s3_8_4, s3_8_5, s3_8_6, s3_8_7, s3_8_8, x3_23, r3_9_l, s3_9_0, s3_9_1, s3_9_2, s3_9_3, s3_9_4, s3_9_5, s3_9_6, s3_9_7, s3_9_8, x3_26, r3_10_l, s3_10_0, s3_10_1, s3_10_2, s3_10_3, s3_10_4, s3_10_5, s3_10_6, s3_10_7, s3_10_8, s3_10_9, s3_10_10, s3_10_11, s3_10_12, s3_10_13, s3_10_14, s3_10_15, s3_10_16, s3_10_17, s3_10_18, s3_10_19, s3_10_20, s3_10_21, s3_10_22, s3_10_23, s3_10_24, s3_10_25, s3_10_26, s3_10_27, s3_10_28, x3_29, r3_11_l, s3_11_0, x3_30, x3_28, x3_31, x3_27, x3_25, x3_33, r3_12_l, s3_12_0, s3_12_1, s3_12_2, s3_12_3, s3_12_4, s3_12_5, s3_12_6, s3_12_7, s3_12_8, s3_12_9, x3_35, r3_13_l, s3_13_0, s3_13_1, s3_13_2, s3_13_3, s3_13_4, s3_13_5, s3_13_6, s3_13_7, s3_13_8, s3_13_9, x3_37, r3_14_l, s3_14_0, s3_14_1, s3_14_2, s3_14_3, s3_14_4, s3_14_5, s3_14_6, s3_14_7, s3_14_8, s3_14_9, s3_14_10, s3_14_11, s3_14_12, s3_14_13, s3_14_14, s3_14_15, s3_14_16, s3_14_17, s3_14_18, s3_14_19, s3_14_20, s3_14_21, s3_14_22, s3_14_23, s3_14_24, s3_14_25, s3_14_26, s3_14_27, s3_14_28, s3_14_29, x3_38, x3_36, x3_34, x3_32, x3_24, x3_22, x3_20, x3_18, x3_16, x3_14, x3_12, x3_10, x3_2, x3_0, b_3, g1, g2, pcells_length, take_pc, Nat.le_refl, ci, c1, c2, c3, c4, c5, c6, c7, c8, c9, d1, d2, d3, d4, cw, isBoolT, beq_self_eq_true, decide_true, bne_self_eq_false]
theorem law_ok {C : Callee} {l : List Stone} {ex : Bool} {ws W : List Int} {b : AV} {z side : Int} (h1 : l.length ≤ 40) (hb : IsI b ws) (h2 : ws.length ≤ 40) (hW : W.length = l.length)
    (c1 : ∀ (site : Nat → Nat) seen, aBack site true seen (thaw C 8 [.imm (pcells l) l.length ex] [] 0) = .pure (.tup [.bool (standsB l), .int .i64 (check l)], []))
    (c2 : ∀ (site : Nat → Nat) seen, aBack site true seen (thaw C 9 [.imm (pcells l) l.length false] [] 0) = .pure (.tup [.bool (standsB l), .int .i64 (check l)], []))
    (c3 : ∀ (site : Nat → Nat) seen, aBack site true seen (thaw C 10 [.imm (pcells l) l.length ex] [] 0) = .pure (.tup [.int .i64 (tipsN l), .int .i64 (tipsE l)], []))
    (c4 : ∀ (site : Nat → Nat) seen, aBack site true seen (thaw C 11 [.imm (pcells l) l.length false] [] 0) = .pure (.tup [.int .i64 (tipsN l), .int .i64 (tipsE l)], []))
    (c8 : ∀ (site : Nat → Nat) seen, aBack site true seen (thaw C 15 [.imm (pcells l) l.length ex, b, .int .i64 z, .int .i64 side] [] 0) = .pure (.tup [.int .i64 (momN l ws z side), .int .i64 (momE l ws z side)], []))
    (c9 : ∀ (site : Nat → Nat) seen, aBack site true seen (thaw C 16 [.imm (pcells l) l.length false, b, .int .i64 z, .int .i64 side] [] 0) = .pure (.tup [.int .i64 (momN l ws z side), .int .i64 (momE l ws z side)], []))
    (d1 : ∀ (site : Nat → Nat) seen, aBack site true seen (thaw C 17 [.imm (pcells l) l.length ex] [] 0) = .pure (.int .i64 (check l), []))
    (d2 : ∀ (site : Nat → Nat) seen, aBack site true seen (thaw C 18 [.imm (pcells l) l.length false] [] 0) = .pure (.int .i64 (check l), []))
    (d3 : ∀ (site : Nat → Nat) seen, aBack site true seen (thaw C 19 [.imm (pcells l) l.length ex, b, .int .i64 z] [] 0) = .pure (.int .i64 (provesE l ws z), []))
    (d4 : ∀ (site : Nat → Nat) seen, aBack site true seen (thaw C 20 [.imm (pcells l) l.length false, b, .int .i64 z] [] 0) = .pure (.int .i64 (provesE l ws z), []))
    (cw : ∀ (site : Nat → Nat) seen, aBack site true seen (thaw C 6 [] [] 0) = .pure (.bool true, []))
    (ci : ∀ (site : Nat → Nat), aBack site true [] (thaw C 7 [.imm (pcells l) l.length ex] [] 0) = (fresh (site 0) ⟨.row, pcells l⟩).bind fun f => .pure (.ref (site 0) 0 l.length l.length (l.length * 4) 4 false, f))
    (c5 : ∀ (site : Nat → Nat) seen, aBack site true seen (thaw C 12 [.imm (pcells l) l.length ex, .int .i64 z, .int .i64 side] [] 0) = (freeAll [site 0]).bind fun _ => (frz seen).bind fun us => .pure (.tup [.ref (site 0) 0 l.length l.length l.length 1 false, .int .i64 0], us ++ [(site 0, ⟨.row, icells W⟩)]))
    (c6 : ∀ (site : Nat → Nat) seen, aBack site true seen (thaw C 13 [.imm (pcells l) l.length false, .int .i64 z, .int .i64 side] [] 0) = (freeAll [site 0]).bind fun _ => (frz seen).bind fun us => .pure (.tup [.ref (site 0) 0 l.length l.length l.length 1 false, .int .i64 0], us ++ [(site 0, ⟨.row, icells W⟩)]))
    (c7 : ∀ (site : Nat → Nat) seen, aBack site true seen (thaw C 14 [.imm (icells W) l.length false, .imm (icells W) l.length false] [] 0) = .pure (.bool true, [])) :
    rsOf (bodyA E C fg 1000 3 [.imm (pcells l) l.length ex, b, .int .i64 z, .int .i64 side] [] 0) = some (.bool true) := by
  have g1 : ¬ (l.length : Int) > 40 := by omega
  have g2 : ¬ (ws.length : Int) > 40 := by omega
  have sb := fun d => isI_snap hb d
  have lb := isI_len hb
  have tw : List.take l.length (icells W) = icells W := List.take_of_length_le (by rw [icells_length, hW]; exact Nat.le_refl _)
  have lw : (icells W).length = l.length := by rw [icells_length, hW]
  have la := isP_len (a := .imm (pcells l) l.length ex) (l := l) (.inr ⟨ex, rfl⟩)
  simp only [seqX_normal, bindR_some, regX_some, condX_bool, ↓gd, fset_cons, Bool.not_true, bodyX_ret, run_nil, run_cons, fget_cons', fput_cons', forget_nil, forget_cons', hget_nil', hget_cons', hset_nil', hset_cons', frame0, gcM, stp, opPick, justO, just, Rd.bind, Rd.run, Rd.opt, upds, opExtract, resA, resL, fresh, aBuiltin, aBin, aInt, Nat.reduceAdd, Nat.reduceMul, Nat.reduceBEq, Nat.reduceEqDiff, Nat.reduceLeDiff, ↓reduceIte, reduceCtorEq, liveBlk_eq, Nat.zero_add, List.nil_append, List.getElem?_toArray, Bool.not_true, Bool.and_true, decide_true, decide_false, frz, aUn, putD_some, aCall, snaps, List.append_nil, Option.map_some, List.elem_cons, List.elem_nil, List.getElem?_cons_zero, List.getElem?_cons_succ, List.drop_zero, la, snap_int, snap_imm, snap_ref, sb, lb, T_4, x3_1, r3_0_l, s3_0_0, x3_4, r3_1_l, s3_1_0, s3_1_1, s3_1_2, s3_1_3, s3_1_4, s3_1_5, s3_1_6, s3_1_7, x3_7, r3_2_l, s3_2_0, s3_2_1, x3_8, x3_6, x3_9, x3_5, x3_3, x3_11, r3_3_l, s3_3_0, s3_3_1, s3_3_2, x3_13, r3_4_l, s3_4_0, s3_4_1, s3_4_2, s3_4_3, s3_4_4, s3_4_5, s3_4_6, x3_15, r3_5_l, s3_5_0, s3_5_1, s3_5_2, s3_5_3, s3_5_4, s3_5_5, s3_5_6, x3_17, r3_6_l, s3_6_0, s3_6_1, s3_6_2, s3_6_3, s3_6_4, s3_6_5, s3_6_6, x3_19, r3_7_l, s3_7_0, s3_7_1, s3_7_2, s3_7_3, s3_7_4, s3_7_5, s3_7_6, x3_21, r3_8_l, s3_8_0, s3_8_1, s3_8_2, s3_8_3, s3_8_4, s3_8_5, s3_8_6, s3_8_7, s3_8_8, x3_23, r3_9_l, s3_9_0, s3_9_1, s3_9_2, s3_9_3, s3_9_4, s3_9_5, s3_9_6, s3_9_7, s3_9_8, x3_26, r3_10_l, s3_10_0, s3_10_1, s3_10_2, s3_10_3, s3_10_4, s3_10_5, s3_10_6, s3_10_7, s3_10_8, s3_10_9, s3_10_10, s3_10_11, s3_10_12, s3_10_13, s3_10_14, s3_10_15, s3_10_16, s3_10_17, s3_10_18, s3_10_19, s3_10_20, s3_10_21, s3_10_22, s3_10_23, s3_10_24, s3_10_25, s3_10_26, s3_10_27, s3_10_28, x3_29, r3_11_l, s3_11_0, x3_30, x3_28, x3_31, x3_27, x3_25, x3_33, r3_12_l, s3_12_0, s3_12_1, s3_12_2, s3_12_3, s3_12_4, s3_12_5, s3_12_6, s3_12_7, s3_12_8, s3_12_9, x3_35, r3_13_l, s3_13_0, s3_13_1, s3_13_2, s3_13_3, s3_13_4, s3_13_5, s3_13_6, s3_13_7, s3_13_8, s3_13_9, x3_37, r3_14_l, s3_14_0, s3_14_1, s3_14_2, s3_14_3, s3_14_4, s3_14_5, s3_14_6, s3_14_7, s3_14_8, s3_14_9, s3_14_10, s3_14_11, s3_14_12, s3_14_13, s3_14_14, s3_14_15, s3_14_16, s3_14_17, s3_14_18, s3_14_19, s3_14_20, s3_14_21, s3_14_22, s3_14_23, s3_14_24, s3_14_25, s3_14_26, s3_14_27, s3_14_28, s3_14_29, x3_38, x3_36, x3_34, x3_32, x3_24, x3_22, x3_20, x3_18, x3_16, x3_14, x3_12, x3_10, x3_2, x3_0, b_3, g1, g2, pcells_length, take_pc, tw, lw, Nat.mul_one, freeAll, List.cons_append, Nat.le_refl, ci, c1, c2, c3, c4, c5, c6, c7, c8, c9, d1, d2, d3, d4, cw, isBoolT, beq_self_eq_true, decide_true, bne_self_eq_false]
end Go.AM.Yteellnlcligpfaa
