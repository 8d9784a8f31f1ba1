/- PropMoved: from its begin to its end. Own work of this project. -/
import Derived.Test.YtikchlfbjdfioaaMvD
namespace Go.AM.Ytikchlfbjdfioaa
open Go Go.AM
set_option maxRecDepth 100000
set_option maxHeartbeats 8000000

theorem movedmut (caps args : List AV) : mutV E (.clo 23 caps) args = some (23, args ++ caps) := rfl
theorem layFrom_step {l : List Stone} {i : Nat} (hi : i < l.length) : layFrom l (l.length - (i + 1)) (i + 1) = if weakL (l.take (l.length - i)) < 0 then layFrom l (l.length - i) i else ((l.length - i : Nat) : Int) := by
  simp only [layFrom]
  rw [show l.length - (i + 1) + 1 = l.length - i by omega]

theorem want_loop {C : Callee} {l : List Stone} {k : Nat} {e lay : Int} (h : OkP l) (hc : List AV)
    (cl : ∀ (site : Nat → Nat) seen j, j < l.length → aBack site true seen (thaw C 8 [.imm (pcells (l.take (j + 1))) (j + 1) false] [] 0) = .pure (.int .i64 (weakL (l.take (j + 1))), [])) :
    iterA (execA E C (fg 4) 0 105 [] 1000 c4_15) (headA []) 1000 ([(10, .int .i64 l.length), (9, .int .i64 0), (8, .int .i64 e), (7, .int .i64 lay), (6, .ptr 6 0 1), (5, .ptr 5 0 1)], [(2, ⟨.box, hc⟩), (5, ⟨.box, [.ref 14 0 l.length l.length (l.length * 4) 4 false]⟩), (6, ⟨.box, [.int .i64 k]⟩), (14, ⟨.row, pcells l⟩)]) =
      some (.exit 0, [(28, .bool false), (10, .int .i64 0), (9, .int .i64 (layFrom l 0 l.length)), (8, .int .i64 e), (7, .int .i64 lay), (6, .ptr 6 0 1), (5, .ptr 5 0 1)], mvA l k .row) := by
  have hle := h.le
  refine iter_all (f := execA E C (fg 4) 0 105 [] 1000 c4_15) (hd := headA []) (fun i => ([(10, .int .i64 (l.length - i : Nat)), (9, .int .i64 (layFrom l (l.length - i) i)), (8, .int .i64 e), (7, .int .i64 lay), (6, .ptr 6 0 1), (5, .ptr 5 0 1)], mvA l k .row)) l.length 1000 0 _ (by rfl) (by omega) (fun i h1 h2 => ?_) ?_ (by simp)
  · have hi : i < l.length := by omega
    rw [layFrom_step hi]
    have hj : l.length - i - 1 < l.length := by omega
    have hcl := fun site seen => cl site seen (l.length - i - 1) hj
    rw [show l.length - i - 1 + 1 = l.length - i by omega] at hcl
    have hs : ((l.length - (i + 1) : Nat) : Int) = ((l.length - i : Nat) : Int) - 1 := by omega
    rw [hs]
    have hpt := pcells_take l (l.length - i)
    generalize hn : l.length - i = n at *
    have b0 : (n : Int) > 0 := by omega
    have b1 : (n : Int) ≤ l.length := by omega
    have b2 : n * 4 ≤ l.length * 4 := by omega
    have b3 : n ≤ l.length := by omega
    have w1 : wrp .i64 ((n : Int) - 1) = (n : Int) - 1 := wrp64 (by omega)
    by_cases hw : weakL (l.take n) < 0
    · rw [if_pos hw]
      have hg : ¬ weakL (l.take n) ≥ 0 := by omega
      simp only [condX_bool, blockX_normal, run_nil, run_cons, fget_cons', fput_cons', forget_nil, forget_cons', hget_cons', gcM, stp, just, Rd.bind, Rd.run, Rd.opt, upds, tsz, rdCells, aLoad, aNum, aBin, aInt, Nat.reduceBEq, Nat.reduceEqDiff, Nat.reduceLeDiff, ↓reduceIte, reduceCtorEq, liveBlk_eq, Nat.zero_add, Nat.add_zero, decide_true, decide_false, putD_some, and_true, Int.natCast_nonneg, Int.toNat_natCast, aCall, snaps, List.append_nil, List.elem_cons, List.elem_nil, List.length_cons, List.length_nil, List.getElem?_cons_zero, List.drop_zero, seqN, bindN, regN, snap_ref, T_27, T_44, x4_17, r4_6_l, s4_6_0, s4_6_1, x4_19, x4_20, x4_18, x4_16, x4_24, r4_8_l, s4_8_0, s4_8_1, s4_8_2, s4_8_3, s4_8_4, x4_26, r4_9_l, s4_9_0, s4_9_1, x4_27, x4_25, x4_23, x4_22, x4_28, r4_7_l, s4_7_0, s4_7_1, s4_7_2, x4_21, x4_15, mvA, hcl, hg, hpt, aSlice, aBounds, bMax, bHigh, bLow, b0, b1, b2, w1, Nat.sub_zero, Nat.zero_mul, pcells_length, Bool.false_and]
      exact ⟨_, rfl, rfl⟩
    · rw [if_neg hw]
      have hg : weakL (l.take n) ≥ 0 := by omega
      simp only [condX_bool, blockX_normal, run_nil, run_cons, fget_cons', fput_cons', forget_nil, forget_cons', hget_cons', gcM, stp, just, Rd.bind, Rd.run, Rd.opt, upds, tsz, rdCells, aLoad, aNum, aBin, aInt, Nat.reduceBEq, Nat.reduceEqDiff, Nat.reduceLeDiff, ↓reduceIte, reduceCtorEq, liveBlk_eq, Nat.zero_add, Nat.add_zero, decide_true, putD_some, and_true, Int.natCast_nonneg, Int.toNat_natCast, aCall, snaps, List.append_nil, List.elem_cons, List.elem_nil, List.length_cons, List.length_nil, List.getElem?_cons_zero, List.drop_zero, seqN, bindN, regN, snap_ref, T_27, T_44, x4_17, r4_6_l, s4_6_0, s4_6_1, x4_19, x4_20, x4_18, x4_16, x4_24, r4_8_l, s4_8_0, s4_8_1, s4_8_2, s4_8_3, s4_8_4, x4_26, r4_9_l, s4_9_0, s4_9_1, x4_27, x4_25, x4_23, x4_22, x4_28, r4_7_l, s4_7_0, s4_7_1, s4_7_2, x4_21, x4_15, mvA, hcl, hg, hpt, aSlice, aBounds, bMax, bHigh, bLow, b0, b1, b2, w1, Nat.sub_zero, Nat.zero_mul, pcells_length, Bool.false_and]
      exact ⟨_, rfl, rfl⟩
  · rw [Nat.zero_add]
    have hz : ¬ (0 : Int) > 0 := by omega
    simp only [Nat.sub_self, cl0, seqX_exit, condX_bool, run_nil, run_cons, fget_cons', fput_cons', forget_nil, forget_cons', gcM, stp, just, Rd.bind, Rd.run, Rd.opt, upds, aBin, aInt, Nat.reduceBEq, Nat.reduceEqDiff, Nat.reduceLeDiff, ↓reduceIte, reduceCtorEq, decide_false, putD_some, List.elem_cons, List.elem_nil, seqN, bindN, regN, x4_17, r4_6_l, s4_6_0, s4_6_1, x4_19, x4_20, x4_18, x4_16, x4_15, hz]

theorem snaps_ints : ∀ (l : List AV) (d : Nat), (∀ a ∈ l, ∃ k z, a = AV.int k z) → l.length + 2 ≤ d → snaps d l = .pure (l, [])
  | [], d + 1, _, _ => by simp only [snaps]
  | a :: l, d + 1, h, hd => by
    obtain ⟨k, z, rfl⟩ := h a (List.mem_cons_self ..)
    have hd2 : l.length + 2 ≤ d := by simp only [List.length_cons] at hd; omega
    have ih := snaps_ints l d (fun a ha => h a (List.mem_cons_of_mem _ ha)) hd2
    obtain ⟨e, rfl⟩ : ∃ e, d = e + 1 := ⟨d - 1, by omega⟩
    simp only [snaps, snap, ih, Rd.bind, List.nil_append]
theorem qcells_ints : ∀ (l : List Q), ∀ a ∈ qcells l, ∃ k z, a = AV.int k z
  | [], a, h => by simp [qcells] at h
  | q :: l, a, h => by
    simp only [qcells, qc, List.cons_append, List.nil_append, List.mem_cons] at h
    rcases h with rfl | rfl | rfl | rfl | h
    · exact ⟨_, _, rfl⟩
    · exact ⟨_, _, rfl⟩
    · exact ⟨_, _, rfl⟩
    · exact ⟨_, _, rfl⟩
    · exact qcells_ints l a h
theorem hcells_snap {m : Int} {qs : List Q} (h : qs.length = 5) (d : Nat) (hd : 30 ≤ d) : snaps d (hcells m qs) = .pure (hcells m qs, []) := by
  refine snaps_ints _ d (fun a ha => ?_) (by rw [hcells_length h]; omega)
  simp only [hcells, List.mem_cons] at ha
  rcases ha with rfl | ha
  · exact ⟨_, _, rfl⟩
  · exact qcells_ints qs a ha
theorem hcells_take {m : Int} {qs : List Q} (h : qs.length = 5) : List.take 21 (hcells m qs) = hcells m qs := List.take_of_length_le (by rw [hcells_length h]; exact Nat.le_refl _)

theorem mv_run {C : Callee} {m o : Int} {qs : List Q} {l : List Stone} {k : Nat} {wl sr se r q1 q2 : Int} (h : OkP l) (hq : qs.length = 5) (ho : 0 ≤ o ∧ o ≤ 255) (hk : o.tmod l.length = (k : Int))
    (cm : ∀ (site : Nat → Nat) seen, aBack site true seen (thaw C 7 [.agg (hcells m qs), .int .i64 5] [] 0) = back1 (site 0) seen (fun k => .ref k 0 l.length l.length (l.length * 4) 4 false) ⟨.row, pcells l⟩)
    (cy : ∀ (site : Nat → Nat) seen, aBack site true seen (thaw C 21 [.imm (pcells l) l.length false] [] 0) = .pure (.tup [.int .i64 (layFrom l 0 l.length), .int .i64 (if layFrom l 0 l.length = 0 then 13 else 0)], []))
    (cl : ∀ (site : Nat → Nat) seen j, j < l.length → aBack site true seen (thaw C 8 [.imm (pcells (l.take (j + 1))) (j + 1) false] [] 0) = .pure (.int .i64 (weakL (l.take (j + 1))), []))
    (ca : ∀ (site : Nat → Nat) seen, aBack site true seen (thaw C 8 [.imm (pcells l) l.length false] [] 0) = .pure (.int .i64 wl, []))
    (cs : ∀ (site : Nat → Nat) seen, aBack site true seen (thaw C 22 [.imm (pcells l) l.length false, .int .i64 k] [] 0) = .pure (.tup [.int .i64 sr, .int .i64 se], []))
    (cw : ∀ (site : Nat → Nat) seen, aBack site true seen (thaw C 20 [] [] 0) = .pure (.bool true, []))
    (hyes : wl < 0 → sr = r ∧ se = 0 ∧ 0 ≤ r ∧ r ≤ 1048576 ∧ q1 < 0 ∧ q2 ≥ 0) (hno : ¬ wl < 0 → sr = 0 ∧ se = 12)
    (c1 : wl < 0 → C 23 [.int .i64 r, .ptr 5 0 1, .ptr 6 0 1] (mvA l k .row) 840 = some (.ref 848 0 l.length l.length (l.length * 4) 4 false, mvA l k .froz ++ [(848, ⟨.row, pcells (mv l k r)⟩)]))
    (c2 : wl < 0 → C 23 [.int .i64 (r + 1), .ptr 5 0 1, .ptr 6 0 1] (mvB l k (pcells (mv l k r))) 840 = some (.ref 1049424 0 l.length l.length (l.length * 4) 4 false, mvB l k (pcells (mv l k r)) ++ [(1049424, ⟨.row, pcells (mv l k (r + 1))⟩)]))
    (d1 : wl < 0 → ∀ (site : Nat → Nat) seen, aBack site true seen (thaw C 8 [.imm (pcells (mv l k r)) l.length false] [] 0) = .pure (.int .i64 q1, []))
    (d2 : wl < 0 → ∀ (site : Nat → Nat) seen, aBack site true seen (thaw C 8 [.imm (pcells (mv l k (r + 1))) l.length false] [] 0) = .pure (.int .i64 q2, [])) :
    rsOf (bodyA E C fg 1000 4 [.agg (hcells m qs), .int .u8 o] [] 0) = some (.bool true) := by
  have hlen := hcells_length (m := m) hq
  have htk := hcells_take (m := m) hq
  have hsn := hcells_snap (m := m) hq
  have hle := h.le
  have hne := h.ne
  have hn0 : ¬ (l.length : Int) = 0 := by omega
  have w1 : wrp .i64 o = o := wrp64 (by omega)
  have hloop := fun hc e lay => want_loop (C := C) (k := k) (e := e) (lay := lay) h hc cl
  simp only [mvA] at hloop
  have hW := layFrom_nonneg l l.length 0
  have h00 : ¬ (0 : Int) > 0 := by omega
  by_cases hw : wl < 0
  · obtain ⟨rfl, rfl, r0, r1, hq1, hq2⟩ := hyes hw
    have hg : ¬ wl ≥ 0 := by omega
    have g1 : ¬ sr < 0 := by omega
    have g2 : ¬ sr > 1048576 := by omega
    have w2 : wrp .i64 (sr + 1) = sr + 1 := wrp64 (by omega)
    have e1 := c1 hw
    have e2 := c2 hw
    have f1 := d1 hw
    have f2 := d2 hw
    have ha := take_pc2 (mv l k sr)
    have hb := take_pc2 (mv l k (sr + 1))
    have la := pcells_length (mv l k sr)
    have lb := pcells_length (mv l k (sr + 1))
    simp only [mv_length] at ha hb la lb
    simp only [mvA, mvB, List.cons_append, List.nil_append] at e1 e2
    by_cases hz : layFrom l 0 l.length = 0
    · simp only [hz, if_true] at cy hloop
      simp only [condX_bool, blockX_exit, ↓gd, fset_cons, Bool.not_true, bodyX_ret, run_nil, run_cons, fget_cons', fput_nil, fput_cons', forget_nil, forget_cons', hget_nil', hget_cons', hset_nil', hset_cons', frame0, gcM, stp, opPick, opBox, justO, just, Rd.bind, Rd.run, Rd.opt, upds, acells, zeroCells, tsz, rdCells, aLoad, aStore, opStore, opExtract, resA, resL, fresh, aLen, aBuiltin, aBin, aInt, putC, Nat.reduceMul, Nat.reduceBEq, Nat.reduceEqDiff, Nat.reduceLeDiff, ↓reduceIte, reduceCtorEq, liveBlk_eq, Nat.zero_add, List.nil_append, List.getElem?_toArray, Bool.not_true, Bool.and_true, decide_true, decide_false, frz, putD_some, putD_none, and_true, mutX, aCall, snaps, snap, List.append_nil, Option.map_some, List.elem_cons, List.elem_nil, List.length_cons, List.length_nil, List.getElem?_cons_zero, List.getElem?_cons_succ, List.drop_zero, List.set_cons_zero, seqN, bindN, regN, T_3, T_27, T_5, T_25, x4_1, r4_0_l, s4_0_0, s4_0_1, x4_3, r4_1_l, s4_1_0, s4_1_1, s4_1_2, s4_1_3, x4_5, r4_2_l, s4_2_0, s4_2_1, s4_2_2, s4_2_3, s4_2_4, s4_2_5, s4_2_6, x4_7, r4_3_l, s4_3_0, s4_3_1, s4_3_2, s4_3_3, s4_3_4, s4_3_5, s4_3_6, x4_9, r4_4_l, s4_4_0, x4_12, r4_5_l, s4_5_0, s4_5_1, s4_5_2, x4_14, x4_13, x4_11, x4_31, r4_10_l, s4_10_0, s4_10_1, s4_10_2, s4_10_3, s4_10_4, s4_10_5, s4_10_6, s4_10_7, s4_10_8, s4_10_9, s4_10_10, s4_10_11, s4_10_12, s4_10_13, s4_10_14, s4_10_15, s4_10_16, s4_10_17, s4_10_18, s4_10_19, s4_10_20, s4_10_21, s4_10_22, x4_34, r4_11_l, s4_11_0, x4_35, x4_33, x4_36, x4_32, x4_30, x4_38, r4_12_l, s4_12_0, s4_12_1, s4_12_2, s4_12_3, s4_12_4, s4_12_5, s4_12_6, s4_12_7, x4_41, r4_13_l, s4_13_0, s4_13_1, s4_13_2, x4_44, r4_14_l, s4_14_0, s4_14_1, s4_14_2, s4_14_3, s4_14_4, s4_14_5, s4_14_6, s4_14_7, s4_14_8, s4_14_9, x4_45, x4_43, x4_46, x4_42, x4_40, x4_49, r4_15_l, s4_15_0, s4_15_1, s4_15_2, s4_15_3, s4_15_4, s4_15_5, s4_15_6, s4_15_7, s4_15_8, s4_15_9, x4_52, r4_16_l, s4_16_0, x4_53, x4_51, x4_54, x4_50, x4_48, x4_56, r4_17_l, s4_17_0, s4_17_1, x4_58, r4_18_l, s4_18_0, s4_18_1, s4_18_2, s4_18_3, s4_18_4, s4_18_5, s4_18_6, s4_18_7, s4_18_8, s4_18_9, s4_18_10, s4_18_11, s4_18_12, s4_18_13, s4_18_14, s4_18_15, s4_18_16, x4_59, x4_57, x4_55, x4_47, x4_39, x4_37, x4_29, x4_10, x4_8, x4_6, x4_4, x4_2, x4_0, b_4, hlen, htk, hsn, cm, back1_run, cy, hloop, w1, hk, hn0, h00, ca, cs, cw, hg, g1, g2, w2, callV_mut (movedmut _ _), e1, e2, f1, f2, ha, hb, la, lb, hq1, hq2, take_pc2, pcells_length, aConv, Nat.le_refl, beq_self_eq_true, bne_self_eq_false, Int.reduceBEq, List.cons_append, List.nil_append]
    · have hW : layFrom l 0 l.length > 0 := by omega
      simp only [hz, if_false] at cy
      simp only [condX_bool, blockX_exit, ↓gd, fset_cons, Bool.not_true, bodyX_ret, run_nil, run_cons, fget_cons', fput_nil, fput_cons', forget_nil, forget_cons', hget_nil', hget_cons', hset_nil', hset_cons', frame0, gcM, stp, opPick, opBox, justO, just, Rd.bind, Rd.run, Rd.opt, upds, acells, zeroCells, tsz, rdCells, aLoad, aStore, opStore, opExtract, resA, resL, fresh, aLen, aBuiltin, aBin, aInt, putC, Nat.reduceMul, Nat.reduceBEq, Nat.reduceEqDiff, Nat.reduceLeDiff, ↓reduceIte, reduceCtorEq, liveBlk_eq, Nat.zero_add, beq_iff_eq, List.nil_append, List.getElem?_toArray, Bool.not_true, Bool.and_true, decide_true, decide_false, frz, putD_some, putD_none, and_true, mutX, aCall, snaps, snap, List.append_nil, Option.map_some, List.elem_cons, List.elem_nil, List.length_cons, List.length_nil, List.getElem?_cons_zero, List.getElem?_cons_succ, List.drop_zero, List.set_cons_zero, seqN, bindN, regN, T_3, T_27, T_5, T_25, x4_1, r4_0_l, s4_0_0, s4_0_1, x4_3, r4_1_l, s4_1_0, s4_1_1, s4_1_2, s4_1_3, x4_5, r4_2_l, s4_2_0, s4_2_1, s4_2_2, s4_2_3, s4_2_4, s4_2_5, s4_2_6, x4_7, r4_3_l, s4_3_0, s4_3_1, s4_3_2, s4_3_3, s4_3_4, s4_3_5, s4_3_6, x4_9, r4_4_l, s4_4_0, x4_12, r4_5_l, s4_5_0, s4_5_1, s4_5_2, x4_14, x4_13, x4_11, x4_31, r4_10_l, s4_10_0, s4_10_1, s4_10_2, s4_10_3, s4_10_4, s4_10_5, s4_10_6, s4_10_7, s4_10_8, s4_10_9, s4_10_10, s4_10_11, s4_10_12, s4_10_13, s4_10_14, s4_10_15, s4_10_16, s4_10_17, s4_10_18, s4_10_19, s4_10_20, s4_10_21, s4_10_22, x4_34, r4_11_l, s4_11_0, x4_35, x4_33, x4_36, x4_32, x4_30, x4_38, r4_12_l, s4_12_0, s4_12_1, s4_12_2, s4_12_3, s4_12_4, s4_12_5, s4_12_6, s4_12_7, x4_41, r4_13_l, s4_13_0, s4_13_1, s4_13_2, x4_44, r4_14_l, s4_14_0, s4_14_1, s4_14_2, s4_14_3, s4_14_4, s4_14_5, s4_14_6, s4_14_7, s4_14_8, s4_14_9, x4_45, x4_43, x4_46, x4_42, x4_40, x4_49, r4_15_l, s4_15_0, s4_15_1, s4_15_2, s4_15_3, s4_15_4, s4_15_5, s4_15_6, s4_15_7, s4_15_8, s4_15_9, x4_52, r4_16_l, s4_16_0, x4_53, x4_51, x4_54, x4_50, x4_48, x4_56, r4_17_l, s4_17_0, s4_17_1, x4_58, r4_18_l, s4_18_0, s4_18_1, s4_18_2, s4_18_3, s4_18_4, s4_18_5, s4_18_6, s4_18_7, s4_18_8, s4_18_9, s4_18_10, s4_18_11, s4_18_12, s4_18_13, s4_18_14, s4_18_15, s4_18_16, x4_59, x4_57, x4_55, x4_47, x4_39, x4_37, x4_29, x4_10, x4_8, x4_6, x4_4, x4_2, x4_0, b_4, hlen, htk, hsn, cm, back1_run, cy, hloop, w1, hk, hn0, ca, cs, cw, hW, hg, hz, g1, g2, w2, callV_mut (movedmut _ _), e1, e2, f1, f2, ha, hb, la, lb, hq1, hq2, take_pc2, pcells_length, aConv, Nat.le_refl, beq_self_eq_true, bne_self_eq_false, Int.reduceBEq, List.cons_append, List.nil_append]
  · obtain ⟨rfl, rfl⟩ := hno hw
    have hg : wl ≥ 0 := by omega
    by_cases hz : layFrom l 0 l.length = 0
    · simp only [hz, if_true] at cy hloop
      simp only [seqX_ret, condX_bool, blockX_exit, ↓gd, fset_cons, Bool.not_true, bodyX_ret, run_nil, run_cons, fget_cons', fput_nil, fput_cons', forget_nil, forget_cons', hget_nil', hget_cons', hset_nil', hset_cons', frame0, gcM, stp, opPick, opBox, justO, just, Rd.bind, Rd.run, Rd.opt, upds, acells, zeroCells, tsz, rdCells, aLoad, aStore, opStore, opExtract, resA, resL, fresh, aLen, aBuiltin, aBin, aInt, putC, Nat.reduceMul, Nat.reduceBEq, Nat.reduceEqDiff, Nat.reduceLeDiff, ↓reduceIte, reduceCtorEq, liveBlk_eq, Nat.zero_add, List.nil_append, List.getElem?_toArray, Bool.not_true, Bool.and_true, decide_true, decide_false, frz, putD_some, putD_none, and_true, aCall, snaps, snap, List.append_nil, Option.map_some, List.elem_cons, List.elem_nil, List.length_cons, List.length_nil, List.getElem?_cons_zero, List.getElem?_cons_succ, List.drop_zero, List.set_cons_zero, seqN, bindN, regN, T_3, T_27, T_5, T_25, x4_1, r4_0_l, s4_0_0, s4_0_1, x4_3, r4_1_l, s4_1_0, s4_1_1, s4_1_2, s4_1_3, x4_5, r4_2_l, s4_2_0, s4_2_1, s4_2_2, s4_2_3, s4_2_4, s4_2_5, s4_2_6, x4_7, r4_3_l, s4_3_0, s4_3_1, s4_3_2, s4_3_3, s4_3_4, s4_3_5, s4_3_6, x4_9, r4_4_l, s4_4_0, x4_12, r4_5_l, s4_5_0, s4_5_1, s4_5_2, x4_14, x4_13, x4_11, x4_31, r4_10_l, s4_10_0, s4_10_1, s4_10_2, s4_10_3, s4_10_4, s4_10_5, s4_10_6, s4_10_7, s4_10_8, s4_10_9, s4_10_10, s4_10_11, s4_10_12, s4_10_13, s4_10_14, s4_10_15, s4_10_16, s4_10_17, s4_10_18, s4_10_19, s4_10_20, s4_10_21, s4_10_22, x4_34, r4_11_l, s4_11_0, x4_35, x4_33, x4_36, x4_32, x4_30, x4_38, r4_12_l, s4_12_0, s4_12_1, s4_12_2, s4_12_3, s4_12_4, s4_12_5, s4_12_6, s4_12_7, x4_41, r4_13_l, s4_13_0, s4_13_1, s4_13_2, x4_44, r4_14_l, s4_14_0, s4_14_1, s4_14_2, s4_14_3, s4_14_4, s4_14_5, s4_14_6, s4_14_7, s4_14_8, s4_14_9, x4_45, x4_43, x4_46, x4_42, x4_40, x4_39, x4_37, x4_29, x4_10, x4_8, x4_6, x4_4, x4_2, x4_0, b_4, hlen, htk, hsn, cm, back1_run, cy, hloop, w1, hk, hn0, h00, ca, cs, cw, hg,  take_pc2, pcells_length, aConv, Nat.le_refl, beq_self_eq_true, bne_self_eq_false, List.nil_append]
    · have hW : layFrom l 0 l.length > 0 := by omega
      simp only [hz, if_false] at cy
      simp only [seqX_ret, condX_bool, blockX_exit, ↓gd, fset_cons, Bool.not_true, bodyX_ret, run_nil, run_cons, fget_cons', fput_nil, fput_cons', forget_nil, forget_cons', hget_nil', hget_cons', hset_nil', hset_cons', frame0, gcM, stp, opPick, opBox, justO, just, Rd.bind, Rd.run, Rd.opt, upds, acells, zeroCells, tsz, rdCells, aLoad, aStore, opStore, opExtract, resA, resL, fresh, aLen, aBuiltin, aBin, aInt, putC, Nat.reduceMul, Nat.reduceBEq, Nat.reduceEqDiff, Nat.reduceLeDiff, ↓reduceIte, reduceCtorEq, liveBlk_eq, Nat.zero_add, beq_iff_eq, List.nil_append, List.getElem?_toArray, Bool.not_true, Bool.and_true, decide_true, frz, putD_some, putD_none, and_true, aCall, snaps, snap, List.append_nil, Option.map_some, List.elem_cons, List.elem_nil, List.length_cons, List.length_nil, List.getElem?_cons_zero, List.getElem?_cons_succ, List.drop_zero, List.set_cons_zero, seqN, bindN, regN, T_3, T_27, T_5, T_25, x4_1, r4_0_l, s4_0_0, s4_0_1, x4_3, r4_1_l, s4_1_0, s4_1_1, s4_1_2, s4_1_3, x4_5, r4_2_l, s4_2_0, s4_2_1, s4_2_2, s4_2_3, s4_2_4, s4_2_5, s4_2_6, x4_7, r4_3_l, s4_3_0, s4_3_1, s4_3_2, s4_3_3, s4_3_4, s4_3_5, s4_3_6, x4_9, r4_4_l, s4_4_0, x4_12, r4_5_l, s4_5_0, s4_5_1, s4_5_2, x4_14, x4_13, x4_11, x4_31, r4_10_l, s4_10_0, s4_10_1, s4_10_2, s4_10_3, s4_10_4, s4_10_5, s4_10_6, s4_10_7, s4_10_8, s4_10_9, s4_10_10, s4_10_11, s4_10_12, s4_10_13, s4_10_14, s4_10_15, s4_10_16, s4_10_17, s4_10_18, s4_10_19, s4_10_20, s4_10_21, s4_10_22, x4_34, r4_11_l, s4_11_0, x4_35, x4_33, x4_36, x4_32, x4_30, x4_38, r4_12_l, s4_12_0, s4_12_1, s4_12_2, s4_12_3, s4_12_4, s4_12_5, s4_12_6, s4_12_7, x4_41, r4_13_l, s4_13_0, s4_13_1, s4_13_2, x4_44, r4_14_l, s4_14_0, s4_14_1, s4_14_2, s4_14_3, s4_14_4, s4_14_5, s4_14_6, s4_14_7, s4_14_8, s4_14_9, x4_45, x4_43, x4_46, x4_42, x4_40, x4_39, x4_37, x4_29, x4_10, x4_8, x4_6, x4_4, x4_2, x4_0, b_4, hlen, htk, hsn, cm, back1_run, cy, hloop, w1, hk, hn0, ca, cs, cw, hW, hg, hz,  take_pc2, pcells_length, aConv, Nat.le_refl, beq_self_eq_true, bne_self_eq_false, List.nil_append]

theorem made_small {m : Int} {qs : List Q} (h : HOk m qs) {j : Nat} {x : Stone} (hx : (madeL m qs)[j]? = some x) : -100 ≤ x.pos ∧ x.pos ≤ 100 ∧ x.half ≤ 12 := by
  obtain ⟨n1, n2, _⟩ := nOf_b h
  have hk := at_lt hx
  rw [madeL, madeI_length] at hk
  simp only [madeL, madeI, List.getElem?_map, List.getElem?_range hk, Option.map_some, Option.some.injEq] at hx
  obtain ⟨q, hq⟩ := at_ex (l := qs) (k := j) (by have := h.l; omega)
  have e : qs.getD j default = q := by simp [hq]
  obtain ⟨h1, h2, p1, p2, l1, l2, lm, m9⟩ := mk_ok (e := edgeN qs j) (h.q j q hq)
  have := edge_b h j (by omega)
  rw [← hx, stN, e]
  omega
theorem made_right {m : Int} {qs : List Q} (h : HOk m qs) {k : Nat} (hk : k ≤ (madeL m qs).length) : rightE (madeL m qs) k ≤ 112 := by
  cases k with
  | zero => simp [rightE]
  | succ k =>
    obtain ⟨s, hs⟩ := at_ex (show k < (madeL m qs).length by omega)
    have := made_small h hs
    simp only [rightE, List.getD_eq_getElem?_getD, hs, Option.getD_some]
    omega

theorem moved_true {m o : Int} {qs : List Q} (h : HOk m qs) (ho : 0 ≤ o ∧ o ≤ 255) (hw : ∃ H', callA E fg 1000 40 20 [] [] 0 = some (.bool true, H')) :
    rsOf (bodyA E (callA E fg 1000 40) fg 1000 4 [.agg (hcells m qs), .int .u8 o] [] 0) = some (.bool true) := by
  have hl : (madeL m qs).length = nOf m := madeI_length _ _
  have hok := made_okP h
  have hne := hok.ne
  have hle := hok.le
  obtain ⟨t1, t2⟩ := tmod_b ho.1 ((madeL m qs).length : Int) (by omega)
  obtain ⟨k, hk⟩ := Int.eq_ofNat_of_zero_le t1
  have hkl : k < (madeL m qs).length := by omega
  have cm := fun (site : Nat → Nat) seen => made_call (d := 39) (site := site) (seen := seen) h
  simp only [← hl] at cm
  have cy := fun (site : Nat → Nat) seen => aBack_ints (site := site) (seen := seen) (rs_ex (lay_run (d := 34) (ex := false) hok))
  have cl : ∀ (site : Nat → Nat) seen j, j < (madeL m qs).length → aBack site true seen (thaw (callA E fg 1000 40) 8 [.imm (pcells ((madeL m qs).take (j + 1))) (j + 1) false] [] 0) = .pure (.int .i64 (weakL ((madeL m qs).take (j + 1))), []) := fun site seen j hj => by
    have := lweak_call (d := 36) (site := site) (seen := seen) (ex := false) (take_ok hok hj)
    rw [show ((madeL m qs).take (j + 1)).length = j + 1 by simp; omega] at this
    exact this
  have ca := fun (site : Nat → Nat) seen => lweak_call (d := 36) (site := site) (seen := seen) (ex := false) hok
  have cw := fun (site : Nat → Nat) seen => aBack_bool (site := site) (seen := seen) hw
  have hf : ∀ (k : Nat) (x : Stone), (madeL m qs)[k]? = some x → -33554432 ≤ x.pos ∧ x.pos ≤ 33554432 := fun k x hx => by
    have := made_small h hx
    omega
  by_cases hwk : weakL (madeL m qs) < 0
  · obtain ⟨r, r0, r1, q1, q2, hr⟩ := slack_ok (d := 34) (ex := false) hok hkl hwk
    have cs := fun (site : Nat → Nat) seen => aBack_ints (site := site) (seen := seen) (rs_ex hr)
    have hr2 : r ≤ 1048576 := by
      by_cases hb : r ≤ 1048576
      · exact hb
      · refine absurd q1 (mv_tips hok hkl fun j x _ hx => ?_)
        have := made_small h hx
        have := made_right h (k := k) (by omega)
        omega
    have ok1 : OkP (mv (madeL m qs) k r) := mv_ok hok (by omega) r0 fun j x hx => by have := made_small h hx; omega
    have ok2 : OkP (mv (madeL m qs) k (r + 1)) := mv_ok hok (by omega) (by omega) fun j x hx => by have := made_small h hx; omega
    have d1 := fun (site : Nat → Nat) seen => lweak_call (d := 36) (site := site) (seen := seen) (ex := false) ok1
    have d2 := fun (site : Nat → Nat) seen => lweak_call (d := 36) (site := site) (seen := seen) (ex := false) ok2
    rw [mv_length] at d1 d2
    have c1 := mva_run (d := 38) (X := []) hne hle hkl (b := r) (by omega) hf
    have c2 := mvb_run (d := 38) (X := pcells (mv (madeL m qs) k r)) hne hle hkl (b := r + 1) (by omega) hf
    exact mv_run (r := r) hok h.l ho hk cm cy cl ca cs cw (fun _ => ⟨rfl, rfl, r0, hr2, q1, by omega⟩) (fun hn => absurd hwk hn) (fun _ => c1) (fun _ => c2) (fun _ => d1) (fun _ => d2)
  · have hr := slack_lost (d := 34) (ex := false) hok hkl hwk
    have cs := fun (site : Nat → Nat) seen => aBack_ints (site := site) (seen := seen) (rs_ex hr)
    exact mv_run (r := 0) (q1 := 0) (q2 := 0) hok h.l ho hk cm cy cl ca cs cw (fun hn => absurd hn hwk) (fun _ => ⟨rfl, rfl⟩) (fun hn => absurd hn hwk) (fun hn => absurd hn hwk) (fun hn => absurd hn hwk) (fun hn => absurd hn hwk)
end Go.AM.Ytikchlfbjdfioaa
