/- What the reference tells, by the same functions as the given package. Own work of this project. -/
import Derived.Test.YteellnlcligpfaaRefD
namespace Go.AM.Yteellnlcligpfaa
open Go Go.AM
set_option maxRecDepth 100000
set_option maxHeartbeats 2000000

theorem rweak_run {d : Nat} {l : List Stone} {ex : Bool} (h : OkP l) : rsOf (callA E fg 1000 (d + 4) 45 [.imm (pcells l) l.length ex] [] 0) = some (.int .i64 (rweakFrom l 0 l.length)) := by
  change rsOf (bodyA E (callA E fg 1000 (d + 3)) fg 1000 45 _ _ _) = _
  obtain ⟨φ, hl, hf⟩ := rweak_loop (d := d) (ex := ex) h l.length 0 1000 [] (by omega) (by have := h.le; omega)
  simp only [Int.natCast_zero] at hl
  obtain ⟨φ, H⟩ := φ
  simp only at hf
  simp only [seqX_normal, bindR_some, regX_some, blockX_exit, bodyX_ret, run_nil, run_cons, fget_cons', fput_nil, fput_cons', forget_nil, forget_cons', frame0, gcM, resA, resL, Nat.reduceBEq, Nat.reduceEqDiff, Nat.reduceLeDiff, ↓reduceIte, reduceCtorEq, Option.map_some, List.elem_cons, List.elem_nil, x45_1, r45_0_l, s45_0_0, x45_3, r45_1_l, s45_1_0, x45_6, x45_5, x45_16, r45_4_l, s45_4_0, s45_4_1, x45_17, x45_15, x45_4, x45_2, x45_0, b_45, hl, hf]
theorem rweak_call {d : Nat} {site : Nat → Nat} {seen : List Nat} {l : List Stone} {ex : Bool} (h : OkP l) : aBack site true seen (thaw (callA E fg 1000 (d + 4)) 45 [.imm (pcells l) l.length ex] [] 0) = .pure (.int .i64 (rweakFrom l 0 l.length), []) :=
  aBack_int (rs_ex (rweak_run h))
theorem rweak_len {l : List Stone} (h : OkP l) : (rweakFrom l 0 l.length = (l.length : Int)) ↔ weakL l < 0 := by
  rw [rweakFrom_eq]
  have := weakFrom_cases l l.length 0
  have hn := h.ne
  unfold weakL
  split <;> omega
theorem rweak_eq {l : List Stone} (h : ¬ weakL l < 0) : rweakFrom l 0 l.length = weakL l := by
  rw [rweakFrom_eq]
  have := weakFrom_cases l l.length 0
  unfold weakL at h ⊢
  rw [if_neg (by omega)]

theorem rstands_run {d : Nat} {a : AV} {l : List Stone} (ha : IsP a l) : rsOf (callA E fg 1000 (d + 6) 9 [a] [] 0) = some (.tup [.bool (standsB l), .int .i64 (check l)]) := by
  change rsOf (bodyA E (callA E fg 1000 (d + 5)) fg 1000 9 _ _ _) = _
  have hc := fun (site : Nat → Nat) seen => rcheck_call (d := d + 3) (site := site) (seen := seen) ha
  by_cases h0 : check l = 0
  · have h := check_zero.1 h0
    obtain ⟨ex, rfl⟩ := isP_imm ha h.ne
    have hw := fun (site : Nat → Nat) seen => rweak_call (d := d + 1) (site := site) (seen := seen) (ex := ex) h
    have e : (rweakFrom l 0 l.length == (l.length : Int)) = standsB l := by
      unfold standsB
      rw [if_pos h0]
      have := rweak_len h
      by_cases hx : weakL l < 0
      · rw [this.2 hx]; simp [hx]
      · have hne : ¬ rweakFrom l 0 l.length = (l.length : Int) := fun e => hx (this.1 e)
        simp [hx, hne]
    simp only [seqX_normal, bindR_some, regX_some, condX_bool, bodyX_ret, run_nil, run_cons, fget_cons', fput_cons', forget_nil, forget_cons', frame0, gcM, stp, just, Rd.bind, Rd.run, Rd.opt, upds, resA, resL, aLen, aBuiltin, aBin, aInt, Nat.reduceBEq, Nat.reduceEqDiff, Nat.reduceLeDiff, ↓reduceIte, reduceCtorEq, Nat.zero_add, bne_iff_ne, ne_eq, List.getElem?_toArray, not_true_eq_false, putD_some, aCall, snaps, snap, List.append_nil, Option.map_some, List.elem_cons, List.elem_nil, List.getElem?_cons_zero, T_25, x9_1, r9_0_l, s9_0_0, s9_0_1, x9_3, r9_1_l, s9_1_0, s9_1_1, s9_1_2, x9_6, r9_2_l, s9_2_0, s9_2_1, x9_9, r9_3_l, s9_3_0, s9_3_1, s9_3_2, x9_10, x9_8, x9_11, x9_7, x9_5, x9_13, r9_4_l, s9_4_0, s9_4_1, s9_4_2, s9_4_3, s9_4_4, s9_4_5, s9_4_6, x9_14, x9_12, x9_4, x9_2, x9_0, b_9, hc, h0, hw, e]
  · rcases ha with ⟨rfl, rfl⟩ | ⟨ex, rfl⟩ <;> simp only [seqX_normal, seqX_ret, bindR_some, regX_some, condX_bool, bodyX_ret, run_nil, run_cons, fget_cons', fput_cons', forget_nil, forget_cons', frame0, gcM, stp, just, Rd.bind, Rd.run, Rd.opt, upds, resA, resL, aBin, aInt, Nat.reduceBEq, Nat.reduceEqDiff, Nat.reduceLeDiff, ↓reduceIte, reduceCtorEq, Nat.zero_add, bne_iff_ne, ne_eq, not_false_eq_true, putD_some, aCall, snaps, snap, List.append_nil, Option.map_some, List.elem_cons, List.elem_nil, x9_1, r9_0_l, s9_0_0, s9_0_1, x9_3, r9_1_l, s9_1_0, s9_1_1, s9_1_2, x9_6, r9_2_l, s9_2_0, s9_2_1, x9_9, r9_3_l, s9_3_0, s9_3_1, s9_3_2, x9_10, x9_8, x9_11, x9_7, x9_5, x9_4, x9_2, x9_0, b_9, hc, h0, standsB]
theorem rstands_call {d : Nat} {site : Nat → Nat} {seen : List Nat} {a : AV} {l : List Stone} (ha : IsP a l) : aBack site true seen (thaw (callA E fg 1000 (d + 6)) 9 [a] [] 0) = .pure (.tup [.bool (standsB l), .int .i64 (check l)], []) :=
  aBack_boolint (rs_ex (rstands_run ha))

theorem rtips2_run {d : Nat} {a : AV} {l : List Stone} (ha : IsP a l) : rsOf (callA E fg 1000 (d + 6) 11 [a] [] 0) = some (.tup [.int .i64 (tipsN l), .int .i64 (tipsE l)]) := by
  change rsOf (bodyA E (callA E fg 1000 (d + 5)) fg 1000 11 _ _ _) = _
  have hc := fun (site : Nat → Nat) seen => rcheck_call (d := d + 3) (site := site) (seen := seen) ha
  by_cases h0 : check l = 0
  · have h := check_zero.1 h0
    obtain ⟨ex, rfl⟩ := isP_imm ha h.ne
    have hw := fun (site : Nat → Nat) seen => rweak_call (d := d + 1) (site := site) (seen := seen) (ex := ex) h
    have := rweak_len h
    by_cases hx : weakL l < 0
    · have e : (rweakFrom l 0 l.length = (l.length : Int)) := this.2 hx
      simp only [seqX_normal, seqX_ret, seqX_ite, bindR_some, regX_some, condX_bool, ↓gd, fset_cons, bodyX_ite, bodyX_ret, run_nil, run_cons, fget_cons', fput_cons', forget_nil, forget_cons', frame0, gcM, stp, opPick, just, Rd.bind, Rd.run, Rd.opt, upds, resA, resL, aLen, aBuiltin, aBin, aInt, Nat.reduceBEq, Nat.reduceEqDiff, Nat.reduceLeDiff, ↓reduceIte, reduceCtorEq, Nat.zero_add, rs_ite, m_ints, bne_iff_ne, ne_eq, ite_not, List.getElem?_toArray, putD_some, aCall, snaps, snap, List.append_nil, Option.map_some, List.elem_cons, List.elem_nil, List.getElem?_cons_zero, T_25, x11_1, r11_0_l, s11_0_0, s11_0_1, x11_3, r11_1_l, s11_1_0, s11_1_1, s11_1_2, x11_6, r11_2_l, s11_2_0, s11_2_1, s11_2_2, s11_2_3, s11_2_4, s11_2_5, s11_2_6, s11_2_7, s11_2_8, x11_8, r11_3_l, s11_3_0, x11_9, x11_7, x11_5, x11_12, r11_4_l, s11_4_0, s11_4_1, x11_15, r11_5_l, s11_5_0, s11_5_1, s11_5_2, x11_16, x11_14, x11_17, x11_13, x11_11, x11_19, r11_6_l, s11_6_0, s11_6_1, s11_6_2, s11_6_3, x11_20, x11_18, x11_10, x11_4, x11_2, x11_0, b_11, hc, h0, hw, e, tipsN, tipsE, hx, beq_self_eq_true]
      try simp
    · have e : ¬ (rweakFrom l 0 l.length = (l.length : Int)) := fun e => hx (this.1 e)
      have e3 := rweak_eq hx
      rw [e3] at e
      simp only [seqX_normal, bindR_some, regX_some, condX_bool, ↓gd, fset_cons, bodyX_ret, run_nil, run_cons, fget_cons', fput_cons', forget_nil, forget_cons', frame0, gcM, stp, opPick, just, Rd.bind, Rd.run, Rd.opt, upds, resA, resL, aLen, aBuiltin, aBin, aInt, Nat.reduceBEq, Nat.reduceEqDiff, Nat.reduceLeDiff, ↓reduceIte, reduceCtorEq, Nat.zero_add, bne_iff_ne, ne_eq, beq_iff_eq, List.getElem?_toArray, not_true_eq_false, putD_some, aCall, snaps, snap, List.append_nil, Option.map_some, List.elem_cons, List.elem_nil, List.getElem?_cons_zero, T_25, x11_1, r11_0_l, s11_0_0, s11_0_1, x11_3, r11_1_l, s11_1_0, s11_1_1, s11_1_2, x11_6, r11_2_l, s11_2_0, s11_2_1, s11_2_2, s11_2_3, s11_2_4, s11_2_5, s11_2_6, s11_2_7, s11_2_8, x11_8, r11_3_l, s11_3_0, x11_9, x11_7, x11_5, x11_12, r11_4_l, s11_4_0, s11_4_1, x11_15, r11_5_l, s11_5_0, s11_5_1, s11_5_2, x11_16, x11_14, x11_17, x11_13, x11_11, x11_19, r11_6_l, s11_6_0, s11_6_1, s11_6_2, s11_6_3, x11_20, x11_18, x11_10, x11_4, x11_2, x11_0, b_11, hc, h0, hw, e3, e, tipsN, tipsE, hx]
      try simp
  · rcases ha with ⟨rfl, rfl⟩ | ⟨ex, rfl⟩ <;> simp only [seqX_normal, seqX_ret, bindR_some, regX_some, condX_bool, ↓gd, fset_cons, Bool.not_true, bodyX_ret, run_nil, run_cons, fget_cons', fput_cons', forget_nil, forget_cons', frame0, gcM, stp, opPick, just, Rd.bind, Rd.run, Rd.opt, upds, resA, resL, aBin, aInt, Nat.reduceBEq, Nat.reduceEqDiff, Nat.reduceLeDiff, ↓reduceIte, reduceCtorEq, Nat.zero_add, bne_iff_ne, ne_eq, beq_iff_eq, Bool.not_true, not_false_eq_true, putD_some, aCall, snaps, snap, List.append_nil, Option.map_some, List.elem_cons, List.elem_nil, x11_1, r11_0_l, s11_0_0, s11_0_1, x11_3, r11_1_l, s11_1_0, s11_1_1, s11_1_2, x11_6, r11_2_l, s11_2_0, s11_2_1, s11_2_2, s11_2_3, s11_2_4, s11_2_5, s11_2_6, s11_2_7, s11_2_8, x11_8, r11_3_l, s11_3_0, x11_9, x11_7, x11_5, x11_12, r11_4_l, s11_4_0, s11_4_1, x11_15, r11_5_l, s11_5_0, s11_5_1, s11_5_2, x11_16, x11_14, x11_17, x11_13, x11_11, x11_10, x11_4, x11_2, x11_0, b_11, hc, h0, tipsN, tipsE]
theorem rtips2_call {d : Nat} {site : Nat → Nat} {seen : List Nat} {a : AV} {l : List Stone} (ha : IsP a l) : aBack site true seen (thaw (callA E fg 1000 (d + 6)) 11 [a] [] 0) = .pure (.tup [.int .i64 (tipsN l), .int .i64 (tipsE l)], []) :=
  aBack_ints (rs_ex (rtips2_run ha))
end Go.AM.Yteellnlcligpfaa
