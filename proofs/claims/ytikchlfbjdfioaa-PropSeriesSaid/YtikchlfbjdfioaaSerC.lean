/- Loads, reaches. Own work of this project. -/
import Derived.Test.YtikchlfbjdfioaaSerB
namespace Go.AM.Ytikchlfbjdfioaa
open Go Go.AM
set_option maxRecDepth 100000
set_option maxHeartbeats 4000000

theorem eq56 {a b c d : Int} : eqArr E.T 56 [.int .i64 a, .int .i64 b] [.int .i64 c, .int .i64 d] = some (if a = c then (if b = d then true else false) else false) := by
  by_cases h1 : a = c <;> by_cases h2 : b = d <;> simp [eqArr, T_56, T_3, eqFs, h1, h2]
theorem aBack_frac {C : Callee} {site : Nat → Nat} {seen : List Nat} {f : FuncId} {args : List AV} {a b : Int} (h : ∃ H', C f args [] 0 = some (.agg [.int .i64 a, .int .i64 b], H')) : aBack site true seen (thaw C f args [] 0) = .pure (.agg [.int .i64 a, .int .i64 b], []) := by
  obtain ⟨H', h⟩ := h; exact aBack_plain h rfl (fun _ => rfl) rfl
theorem aBack_fracint {C : Callee} {site : Nat → Nat} {seen : List Nat} {f : FuncId} {args : List AV} {a b e : Int} (h : ∃ H', C f args [] 0 = some (.tup [.agg [.int .i64 a, .int .i64 b], .int .i64 e], H')) : aBack site true seen (thaw C f args [] 0) = .pure (.tup [.agg [.int .i64 a, .int .i64 b], .int .i64 e], []) := by
  obtain ⟨H', h⟩ := h; exact aBack_plain h rfl (fun _ => rfl) rfl

theorem loads_ok {d : Nat} {hs ws : List Int} {e1 e2 : Bool} (h : OkL hs ws) : rsOf (callA E fg 1000 (d + 1) 54 [.imm (icells hs) hs.length e1, .imm (icells ws) ws.length e2] [] 0) = some (.int .i64 0) := by
  change rsOf (bodyA E (callA E fg 1000 d) fg 1000 54 _ _ _) = _
  have hle := h.le
  have hne := h.ne
  have heq := h.eq
  have n0 : ¬ (ws.length : Int) = 0 := by omega
  have n5 : ¬ (ws.length : Int) > 5 := by omega
  have hloop := iter_all (f := execA E (callA E fg 1000 d) (fg 54) 0 49 [] 1000 c54_28) (hd := headA []) (fun i => ([(23, .int .i64 i), (22, .int .i64 ws.length), (21, .imm (icells ws) ws.length e2), (0, .imm (icells hs) ws.length e1)], [])) ws.length 1000 0
    ([(23, .int .i64 0), (22, .int .i64 ws.length), (21, .imm (icells ws) ws.length e2), (0, .imm (icells hs) ws.length e1)], []) (by rfl) (by omega) (fun i h1 h2 => by
      have hi : i < ws.length := by omega
      obtain ⟨x, hx⟩ := at_ex (l := hs) (k := i) (by omega)
      obtain ⟨w, hw⟩ := at_ex (l := ws) (k := i) hi
      have bx := h.h i hi
      have bw := h.w i hi
      have gx : hs.getD i 0 = x := by simp [hx]
      have gw : ws.getD i 0 = w := by simp [hw]
      rw [gx] at bx
      rw [gw] at bw
      have x1 : ¬ x < 1 := by omega
      have x2 : ¬ x > 4194304 := by omega
      have w1 : ¬ w < 1 := by omega
      have w2 : ¬ w > 9 := by omega
      simp only [seqX_normal, bindR_some, regX_some, condX_bool, blockX_normal, ↓gd, fset_cons, run_nil, run_cons, fget_cons', fput_cons', forget_nil, forget_cons', gcM, stp, opPick, just, Rd.bind, Rd.run, Rd.opt, upds, tsz, rdCells, aLoad, aIndexAddr, aNum, aBin, aInt, Nat.reduceLT, Nat.reduceBEq, Nat.reduceEqDiff, Nat.reduceLeDiff, ↓reduceIte, reduceCtorEq, decide_true, decide_false, putD_some, and_true, Int.natCast_nonneg, Int.ofNat_lt, Int.toNat_natCast, List.elem_cons, List.elem_nil, T_3, T_36, x54_29, r54_8_l, s54_8_0, x54_32, x54_33, x54_31, x54_37, r54_9_l, s54_9_0, s54_9_1, s54_9_2, s54_9_3, s54_9_4, x54_39, r54_10_l, s54_10_0, s54_10_1, s54_10_2, s54_10_3, s54_10_4, s54_10_5, s54_10_6, s54_10_7, s54_10_8, s54_10_9, s54_10_10, s54_10_11, s54_10_12, s54_10_13, s54_10_14, s54_10_15, s54_10_16, s54_10_17, s54_10_18, s54_10_19, x54_42, r54_11_l, s54_11_0, x54_43, x54_41, x54_44, x54_40, x54_38, x54_36, x54_35, x54_45, r54_12_l, s54_12_0, s54_12_1, x54_34, x54_30, x54_28, hi, heq, icells_length, icells_at hx, icells_at hw, x1, x2, w1, w2, Nat.mul_one, wrp_succ (show i < 1000000 by omega)]
      exact ⟨_, rfl, by simp only [headA_nil]⟩) (e := .exit 1) (se := ([(24, .bool false), (23, .int .i64 ws.length), (22, .int .i64 ws.length), (21, .imm (icells ws) ws.length e2), (0, .imm (icells hs) ws.length e1)], [])) (by
      rw [Nat.zero_add]
      simp only [seqX_normal, seqX_exit, bindR_some, regX_some, condX_bool, run_nil, run_cons, fget_cons', fput_cons', forget_nil, forget_cons', gcM, stp, just, Rd.bind, Rd.run, Rd.opt, upds, aBin, aInt, Nat.reduceEqDiff, Nat.reduceLeDiff, ↓reduceIte, decide_false, putD_some, List.elem_nil, x54_29, r54_8_l, s54_8_0, x54_32, x54_33, x54_31, x54_30, x54_28, Int.lt_irrefl, decide_false, Bool.false_eq_true]) (by simp)
  simp only [seqX_normal, bindR_some, regX_some, condX_bool, blockX_exit, blockX_normal, bodyX_ret, run_nil, run_cons, fget_cons', fput_nil, fput_cons', forget_nil, forget_cons', frame0, gcM, stp, just, Rd.bind, Rd.run, Rd.opt, upds, resA, resL, aLen, aBuiltin, aBin, aInt, Nat.reduceBEq, Nat.reduceEqDiff, Nat.reduceLeDiff, ↓reduceIte, reduceCtorEq, Nat.zero_add, bne_iff_ne, ne_eq, beq_iff_eq, List.getElem?_toArray, decide_false, not_true_eq_false, putD_some, Option.map_some, List.elem_cons, List.elem_nil, List.getElem?_cons_zero, T_36, x54_1, r54_0_l, s54_0_0, x54_5, r54_1_l, s54_1_0, s54_1_1, s54_1_2, s54_1_3, x54_8, r54_2_l, s54_2_0, x54_9, x54_7, x54_11, r54_3_l, s54_3_0, s54_3_1, s54_3_2, s54_3_3, x54_14, r54_4_l, s54_4_0, x54_15, x54_13, x54_17, r54_5_l, s54_5_0, s54_5_1, s54_5_2, s54_5_3, s54_5_4, s54_5_5, x54_20, r54_6_l, s54_6_0, x54_21, x54_19, x54_22, x54_18, x54_16, x54_12, x54_10, x54_6, x54_4, x54_3, x54_25, r54_7_l, s54_7_0, s54_7_1, s54_7_2, x54_27, x54_26, x54_24, x54_47, r54_13_l, s54_13_0, x54_48, x54_46, x54_23, x54_2, x54_0, b_54, heq, n0, n5, hloop]
theorem loads_call {d : Nat} {site : Nat → Nat} {seen : List Nat} {hs ws : List Int} {e1 e2 : Bool} (h : OkL hs ws) : aBack site true seen (thaw (callA E fg 1000 (d + 1)) 54 [.imm (icells hs) hs.length e1, .imm (icells ws) ws.length e2] [] 0) = .pure (.int .i64 0, []) :=
  aBack_int (rs_ex (loads_ok h))

theorem fall_asks {d : Nat} {ws : List Int} {k : Nat} : Asks (callA E fg 1000 (d + 1)) (.clo 57 []) (fun i => [.int .i64 (ws.getD i 0)]) (fun i => ws.getD i 0) k ws.length := by
  refine ⟨fun _ => rfl, fun site i _ hi => ?_⟩
  have hr : rsOf (bodyA E (callA E fg 1000 d) fg 1000 57 [.int .i64 i, .int .i64 (ws.getD i 0)] [] 0) = some (.int .i64 (ws.getD i 0)) := by
    simp only [seqX_normal, bindR_some, regX_some, bodyX_ret, run_nil, run_cons, fget_cons', fput_cons', forget_nil, forget_cons', frame0, gcM, resA, resL, Nat.reduceBEq, Nat.reduceEqDiff, Nat.reduceLeDiff, ↓reduceIte, reduceCtorEq, Nat.zero_add, Option.map_some, List.elem_cons, List.elem_nil, x57_1, r57_0_l, s57_0_0, x57_3, r57_1_l, s57_1_0, s57_1_1, x57_4, x57_2, x57_0, b_57]
  have := aBack_int (site := site) (seen := []) (C := callA E fg 1000 (d + 1)) (f := 57) (rs_ex hr)
  simp only [opCallV, fi_57, aCall, List.append_nil, snaps, snap, Rd.bind]
  exact this
theorem fall_call {d : Nat} {site : Nat → Nat} {seen : List Nat} {ws : List Int} {ex : Bool} {k : Nat} (hk : k ≤ ws.length) (hl : ws.length ≤ 5) (hw : ∀ i, i < ws.length → 1 ≤ ws.getD i 0 ∧ ws.getD i 0 ≤ 9) :
    aBack site true seen (thaw (callA E fg 1000 (d + 2)) 56 [.imm (icells ws) ws.length ex, .int .i64 k, .clo 57 []] [] 0) = .pure (.int .i64 (allW ws k), []) :=
  aBack_int (rs_ex (sumI_run (C := callA E fg 1000 (d + 1)) (ex := ex) hk hl (fall_asks (d := d)) (fun i _ h2 => by have := hw i h2; omega)))

/-- The greatest reach of a stone. -/
def farF (hs ws : List Int) (k : Nat) : Fr := fadd (fadd (ctr hs ws k) ((allW ws k - ws.getD k 0) * hs.getD k 0) (allW ws k)) (hs.getD k 0) 1
theorem farthest_run {d : Nat} {hs ws : List Int} {e1 e2 : Bool} (h : OkL hs ws) {k : Nat} (hk : k < ws.length) :
    rsOf (callA E fg 1000 (d + 4) 29 [.imm (icells hs) hs.length e1, .imm (icells ws) ws.length e2, .int .i64 k] [] 0) = some (.tup [.agg (frc (farF hs ws k)), .int .i64 0]) := by
  change rsOf (bodyA E (callA E fg 1000 (d + 3)) fg 1000 29 _ _ _) = _
  have hle := h.le
  have hne := h.ne
  have heq := h.eq
  obtain ⟨x, hx⟩ := at_ex (l := hs) (k := k) (by omega)
  obtain ⟨w, hw⟩ := at_ex (l := ws) (k := k) hk
  have bx := h.h k hk
  have bw := h.w k hk
  have ww := w_le_all h hk
  have aw := allW_b h.le h.w hk
  have gx : hs.getD k 0 = x := by simp [hx]
  have gw : ws.getD k 0 = w := by simp [hw]
  rw [farF]
  rw [gx] at bx ⊢
  rw [gw] at bw ww ⊢
  have k0 : ¬ (k : Int) < 0 := by omega
  have kn : ¬ (k : Int) ≥ ws.length := by omega
  have kn2 : k < ws.length + 1 := by omega
  have cl := fun (site : Nat → Nat) seen => loads_call (d := d + 2) (site := site) (seen := seen) (e1 := e1) (e2 := e2) h
  have cp := fun (site : Nat → Nat) seen => placed_call (d := d) (site := site) (seen := seen) (e1 := e1) (e2 := e2) h
  have cs := fun (site : Nat → Nat) seen => fall_call (d := d + 1) (site := site) (seen := seen) (ex := e2) (Nat.le_of_lt hk) h.le h.w
  have hok := ctr_ok h k (Nat.le_of_lt hk)
  have hf := fcells_at (plI hs ws ws.length) k (ctr hs ws k) (plI_at hs ws (Nat.le_of_lt hk))
  have hfl : (fcells (plI hs ws ws.length)).length = (ws.length + 1) * 2 := by rw [fcells_length, plI_length]
  have hoff : k * 2 + 2 ≤ (ws.length + 1) * 2 := by omega
  have hok2 : FOk (k + 1) (fadd (ctr hs ws k) ((allW ws k - w) * x) (allW ws k)) := by
    rw [Int.mul_comm]
    exact fadd_ok hok (by omega) ⟨by omega, by omega⟩ aw
  have ca : ∀ (site : Nat → Nat) seen, aBack site true seen (thaw (callA E fg 1000 (d + 3)) 52 [.agg (frc (ctr hs ws k)), .int .i64 ((allW ws k - w) * x), .int .i64 (allW ws k)] [] 0) = .pure (.agg (frc (fadd (ctr hs ws k) ((allW ws k - w) * x) (allW ws k))), []) := fun site seen => by
    have := fadd_call (d := d + 1) (site := site) (seen := seen) (h := x) (w := allW ws k - w) (al := allW ws k) hok (by omega) (by omega) ⟨by omega, by omega⟩ aw
    rw [Int.mul_comm x] at this
    exact this
  have cb : ∀ (site : Nat → Nat) seen, aBack site true seen (thaw (callA E fg 1000 (d + 3)) 52 [.agg (frc (fadd (ctr hs ws k) ((allW ws k - w) * x) (allW ws k))), .int .i64 x, .int .i64 1] [] 0) = .pure (.agg (frc (fadd (fadd (ctr hs ws k) ((allW ws k - w) * x) (allW ws k)) x 1)), []) := fun site seen => by
    have := fadd_call (d := d + 1) (site := site) (seen := seen) (h := x) (w := 1) (al := 1) hok2 (by omega) (by omega) ⟨by omega, by omega⟩ (by omega)
    rw [Int.mul_one x] at this
    exact this
  have m1 : (allW ws k - w) * x ≤ 45 * 4194304 := Int.mul_le_mul (by omega) bx.2 (by omega) (by omega)
  have m2 : 0 ≤ (allW ws k - w) * x := Int.mul_nonneg (by omega) (by omega)
  have w1 : wrp .i64 (allW ws k - w) = allW ws k - w := wrp64 (by omega)
  have w2 : wrp .i64 ((allW ws k - w) * x) = (allW ws k - w) * x := wrp64 (by omega)
  simp only [frc, heq] at ca cb hf cl cp cs
  simp only [frc, seqX_normal, bindR_some, regX_some, condX_bool, blockX_normal, ↓gd, fset_cons, Bool.not_true, Bool.not_false, bodyX_ret, run_nil, run_cons, fget_cons', fput_cons', forget_nil, forget_cons', hget_nil', hget_cons', hset_nil', hset_cons', frame0, gcM, stp, opPick, opBox, justO, just, Rd.bind, Rd.run, Rd.opt, upds, acells, zeroCells, tsz, rdCells, aLoad, aStore, opStore, resA, resL, fresh, aIndexAddr, aNum, aLen, aBuiltin, aBin, aInt, putC, Nat.reduceAdd, Nat.reduceMul, Nat.reduceLT, Nat.reduceBEq, Nat.reduceEqDiff, Nat.reduceLeDiff, ↓reduceIte, reduceCtorEq, liveBlk_eq, Nat.zero_add, bne_iff_ne, ne_eq, List.nil_append, List.getElem?_toArray, rtX_some, addT_some, drX_some, runT_nil, runT_cons, neat_eq, descF_nil', descF_cons', ascH_nil', ascH_cons', stpT, Rd.foot, writing, touching, Tr.empty, dynPairs, apartT, disj, List.isEmpty_nil, List.isEmpty_cons, List.map_nil, List.map_cons, Bool.not_false, Bool.not_true, Bool.true_or, Bool.or_true, Bool.or_false, Bool.and_true, Bool.true_and, Bool.and_self, decide_true, decide_false, not_true_eq_false, partsOf, fillA, frz, putD_some, putD_none, and_true, Int.natCast_nonneg, Int.ofNat_lt, Int.toNat_natCast, aCall, snaps, snap, List.append_nil, Option.map_some, List.elem_cons, List.elem_nil, List.length_cons, List.length_nil, List.getElem?_cons_zero, List.drop_zero, List.take_succ_cons, List.take_nil, List.set_cons_zero, List.set_cons_succ, T_3, T_36, T_56, T_78, x29_1, r29_0_l, s29_0_0, s29_0_1, x29_3, r29_1_l, s29_1_0, s29_1_1, s29_1_2, s29_1_3, x29_7, r29_2_l, s29_2_0, s29_2_1, s29_2_2, x29_10, r29_3_l, s29_3_0, s29_3_1, s29_3_2, s29_3_3, x29_11, x29_9, x29_13, r29_4_l, s29_4_0, s29_4_1, s29_4_2, s29_4_3, s29_4_4, s29_4_5, s29_4_6, s29_4_7, s29_4_8, x29_16, r29_5_l, s29_5_0, s29_5_1, s29_5_2, x29_17, x29_15, x29_18, x29_14, x29_12, x29_8, x29_6, x29_5, x29_20, r29_6_l, s29_6_0, s29_6_1, s29_6_2, s29_6_3, s29_6_4, s29_6_5, s29_6_6, s29_6_7, x29_22, r29_7_l, s29_7_0, s29_7_1, s29_7_2, s29_7_3, x29_24, r29_8_l, r29_8_dr, r29_8_an, s29_8_0, s29_8_1, s29_8_2, s29_8_3, s29_8_4, s29_8_5, s29_8_6, s29_8_7, s29_8_8, s29_8_9, s29_8_10, s29_8_11, s29_8_12, s29_8_13, s29_8_14, s29_8_15, s29_8_16, s29_8_17, s29_8_18, s29_8_19, s29_8_20, x29_25, x29_23, x29_21, x29_19, x29_4, x29_2, x29_0, b_29, cl, cp, cs, ca, cb, back1_run, heq, hk, k0, kn, kn2, hf, hfl, hoff, w1, w2, icells_length, icells_at hx, icells_at hw, Nat.mul_one, aBuild, fillA, List.all_cons, List.all_nil]
end Go.AM.Ytikchlfbjdfioaa
