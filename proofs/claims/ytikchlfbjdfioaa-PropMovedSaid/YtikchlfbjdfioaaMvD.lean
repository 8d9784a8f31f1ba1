/- PropMoved's closure, which is handed the heap (printed by genmvd.py). Own work of this project. -/
import Derived.Test.YtikchlfbjdfioaaMvB
namespace Go.AM.Ytikchlfbjdfioaa
open Go Go.AM
set_option maxRecDepth 100000
set_option maxHeartbeats 4000000

/-! Slack -/
theorem p28 : (134217728 : Int) - 0 < 2 ^ 28 := by decide
theorem slack_ok {d : Nat} {l : List Stone} {ex : Bool} (h : OkP l) {s : Nat} (hs : s < l.length) (hw : weakL l < 0) :
    ∃ r, 0 ≤ r ∧ r ≤ 134217728 ∧ weakL (mv l s r) < 0 ∧ ¬ weakL (mv l s (r + 1)) < 0 ∧ rsOf (callA E fg 1000 (d + 6) 22 [.imm (pcells l) l.length ex, .int .i64 s] [] 0) = some (.tup [.int .i64 r, .int .i64 0]) := by
  obtain ⟨r, r1, r2, r3, r4, hr⟩ := slack_loop (d := d) (ex := ex) h hs 28 1000 0 134217728 [] (by omega) (by omega) (by omega) p28 (by omega)
  refine ⟨r, r1, r2, r3 (by rw [mv_zero l s (by omega)]; exact hw), r4 (mv_tips h hs fun k x h1 h2 => ?_), ?_⟩
  · obtain ⟨_, _, p1, _, _, _, _⟩ := h.fits k x h2
    have := edge_bounds h (k := s) (by omega)
    omega
  · change rsOf (bodyA E (callA E fg 1000 (d + 5)) fg 1000 22 _ _ _) = _
    have hp : IsP (.imm (pcells l) l.length ex) l := .inr ⟨ex, rfl⟩
    have hc := fun (site : Nat → Nat) seen => found_call (d := d + 2) (site := site) (seen := seen) hp s
    have hf : foundE l s = 0 := found_zero.2 ⟨h, by omega, by omega⟩
    have hwc := fun (site : Nat → Nat) seen => weak_call (d := d) (site := site) (seen := seen) (ex := ex) h
    have hg : ¬ weakL l ≥ 0 := by omega
    simp only [hf] at hc
    simp only [seqX_normal, bindR_some, regX_some, condX_bool, blockX_exit, blockX_normal, bodyX_ret, run_nil, run_cons, fget_cons', fput_nil, fput_cons', forget_nil, forget_cons', frame0, gcM, stp, just, Rd.bind, Rd.run, Rd.opt, upds, resA, resL, aBin, aInt, Nat.reduceBEq, Nat.reduceEqDiff, Nat.reduceLeDiff, ↓reduceIte, reduceCtorEq, Nat.zero_add, bne_iff_ne, ne_eq, decide_false, not_true_eq_false, putD_some, aCall, snaps, List.append_nil, Option.map_some, List.elem_cons, List.elem_nil, snap_int, snap_imm, x22_1, r22_0_l, s22_0_0, s22_0_1, x22_3, r22_1_l, s22_1_0, s22_1_1, s22_1_2, s22_1_3, x22_7, r22_2_l, s22_2_0, s22_2_1, s22_2_2, x22_10, r22_3_l, s22_3_0, s22_3_1, s22_3_2, x22_11, x22_9, x22_13, r22_4_l, s22_4_0, s22_4_1, s22_4_2, s22_4_3, x22_16, r22_5_l, s22_5_0, s22_5_1, x22_17, x22_15, x22_18, x22_14, x22_12, x22_8, x22_6, x22_5, x22_20, r22_6_l, s22_6_0, s22_6_1, x22_23, x22_22, x22_39, r22_12_l, s22_12_0, s22_12_1, s22_12_2, x22_40, x22_38, x22_21, x22_19, x22_4, x22_2, x22_0, b_22, hc, hwc, hg, hr]
theorem slack_lost {d : Nat} {l : List Stone} {ex : Bool} (h : OkP l) {s : Nat} (hs : s < l.length) (hw : ¬ weakL l < 0) : rsOf (callA E fg 1000 (d + 6) 22 [.imm (pcells l) l.length ex, .int .i64 s] [] 0) = some (.tup [.int .i64 0, .int .i64 12]) := by
  change rsOf (bodyA E (callA E fg 1000 (d + 5)) fg 1000 22 _ _ _) = _
  have hp : IsP (.imm (pcells l) l.length ex) l := .inr ⟨ex, rfl⟩
  have hc := fun (site : Nat → Nat) seen => found_call (d := d + 2) (site := site) (seen := seen) hp s
  have hf : foundE l s = 0 := found_zero.2 ⟨h, by omega, by omega⟩
  have hwc := fun (site : Nat → Nat) seen => weak_call (d := d) (site := site) (seen := seen) (ex := ex) h
  have hg : weakL l ≥ 0 := by omega
  simp only [hf] at hc
  simp only [seqX_normal, seqX_ret, bindR_some, regX_some, condX_bool, blockX_ret, bodyX_ret, run_nil, run_cons, fget_cons', fput_cons', forget_nil, forget_cons', frame0, gcM, stp, just, Rd.bind, Rd.run, Rd.opt, upds, resA, resL, aBin, aInt, Nat.reduceBEq, Nat.reduceEqDiff, Nat.reduceLeDiff, ↓reduceIte, reduceCtorEq, Nat.zero_add, bne_iff_ne, ne_eq, decide_true, not_true_eq_false, putD_some, aCall, snaps, List.append_nil, Option.map_some, List.elem_cons, List.elem_nil, snap_int, snap_imm, x22_1, r22_0_l, s22_0_0, s22_0_1, x22_3, r22_1_l, s22_1_0, s22_1_1, s22_1_2, s22_1_3, x22_7, r22_2_l, s22_2_0, s22_2_1, s22_2_2, x22_10, r22_3_l, s22_3_0, s22_3_1, s22_3_2, x22_11, x22_9, x22_13, r22_4_l, s22_4_0, s22_4_1, s22_4_2, s22_4_3, x22_16, r22_5_l, s22_5_0, s22_5_1, x22_17, x22_15, x22_18, x22_14, x22_12, x22_8, x22_6, x22_5, x22_4, x22_2, x22_0, b_22, hc, hwc, hg]

/-! Lay -/
theorem take_ok {l : List Stone} (h : OkP l) {k : Nat} (hk : k < l.length) : OkP (l.take (k + 1)) := by
  refine ⟨by simp; omega, by have := h.le; simp; omega, fun i s hs => ?_⟩
  rw [List.getElem?_take] at hs
  split at hs
  · exact h.fits i s hs
  · simp at hs
theorem pcells_take : ∀ (l : List Stone) (k : Nat), List.take (k * 4) (pcells l) = pcells (l.take k)
  | [], k => by simp [pcells]
  | a :: l, 0 => by simp [pcells]
  | a :: l, k + 1 => by
    have ih := pcells_take l k
    have e : (k + 1) * 4 = k * 4 + 4 := by omega
    rw [e, List.take_succ_cons, pcells, pcells, ← ih]
    simp [sc]
/-- The first number of stones that may tip, from one on. -/
def layFrom (l : List Stone) (k : Nat) : Nat → Int
  | 0 => 0
  | m + 1 => if weakL (l.take (k + 1)) < 0 then layFrom l (k + 1) m else ((k + 1 : Nat) : Int)
theorem layFrom_nonneg (l : List Stone) : ∀ m k, 0 ≤ layFrom l k m
  | 0, _ => by simp [layFrom]
  | m + 1, k => by
    have := layFrom_nonneg l m (k + 1)
    simp only [layFrom]
    split <;> omega
abbrev layS (l : List Stone) (ex : Bool) (k : Nat) : St := ([(13, .int .i64 k), (12, .int .i64 l.length), (0, .imm (pcells l) l.length ex)], [])
theorem lay_go {C : Callee} {l : List Stone} {ex : Bool} (h : OkP l) {k : Nat} (hkl : k < l.length) {q : Int} (cl : ∀ (site : Nat → Nat) seen ex, aBack site true seen (thaw C 33 [.imm (pcells (l.take (k + 1))) (k + 1) ex] [] 0) = .pure (.int .i64 q, [])) (hg : ¬ q ≥ 0) :
    ∃ s', execA E C (fg 21) 0 25 [] 1000 c21_17 (layS l ex k) = some (.normal, s') ∧ headA [] s' = layS l ex (k + 1) := by
  have hle := h.le
  have hpt := pcells_take l (k + 1)
  have b1 : ((k + 1 : Nat) : Int) ≤ l.length := by omega
  simp only [condX_bool, blockX_normal, run_nil, run_cons, fget_cons', fput_cons', forget_nil, forget_cons', gcM, stp, just, Rd.bind, Rd.run, Rd.opt, upds, tsz, aNum, aBin, aInt, Nat.reduceBEq, Nat.reduceEqDiff, Nat.reduceLeDiff, ↓reduceIte, reduceCtorEq, Nat.zero_add, decide_true, decide_false, window, putD_some, and_true, Int.natCast_nonneg, Int.ofNat_lt, Int.toNat_natCast, aCall, snaps, List.append_nil, List.elem_cons, List.elem_nil, List.drop_zero, seqN, bindN, regN, snap_imm, T_27, T_44, x21_18, r21_5_l, s21_5_0, x21_21, x21_22, x21_20, x21_26, r21_6_l, s21_6_0, s21_6_1, x21_28, r21_7_l, s21_7_0, s21_7_1, s21_7_2, s21_7_3, s21_7_4, s21_7_5, x21_31, r21_8_l, s21_8_0, s21_8_1, s21_8_2, s21_8_3, x21_32, x21_30, x21_33, x21_29, x21_27, x21_25, x21_24, x21_34, r21_9_l, s21_9_0, s21_9_1, x21_23, x21_19, x21_17, layS, hkl, cl, hg, hpt, aSlice, aBounds, bMax, bHigh, bLow, b1, Nat.sub_zero, Nat.zero_mul, pcells_length, wrp_succ (show k < 1000000 by omega)]
  exact ⟨_, rfl, rfl⟩
theorem lay_stop {C : Callee} {l : List Stone} {ex : Bool} (h : OkP l) {k : Nat} (hkl : k < l.length) {q : Int} (cl : ∀ (site : Nat → Nat) seen ex, aBack site true seen (thaw C 33 [.imm (pcells (l.take (k + 1))) (k + 1) ex] [] 0) = .pure (.int .i64 q, [])) (hg : q ≥ 0) :
    execA E C (fg 21) 0 25 [] 1000 c21_17 (layS l ex k) = some (.ret, [(3, .int .i64 0), (2, .int .i64 (k + 1 : Nat))], []) := by
  have hle := h.le
  have hpt := pcells_take l (k + 1)
  have b1 : ((k + 1 : Nat) : Int) ≤ l.length := by omega
  simp only [seqX_ret, condX_bool, blockX_ret, run_nil, run_cons, fget_cons', fput_cons', forget_nil, forget_cons', gcM, stp, just, Rd.bind, Rd.run, Rd.opt, upds, tsz, aNum, aBin, aInt, Nat.reduceBEq, Nat.reduceEqDiff, Nat.reduceLeDiff, ↓reduceIte, reduceCtorEq, Nat.zero_add, decide_true, window, putD_some, and_true, Int.natCast_nonneg, Int.ofNat_lt, Int.toNat_natCast, aCall, snaps, List.append_nil, List.elem_cons, List.elem_nil, List.drop_zero, seqN, bindN, regN, snap_imm, T_27, T_44, x21_18, r21_5_l, s21_5_0, x21_21, x21_22, x21_20, x21_26, r21_6_l, s21_6_0, s21_6_1, x21_28, r21_7_l, s21_7_0, s21_7_1, s21_7_2, s21_7_3, s21_7_4, s21_7_5, x21_31, r21_8_l, s21_8_0, s21_8_1, s21_8_2, s21_8_3, x21_32, x21_30, x21_33, x21_29, x21_27, x21_25, x21_24, x21_23, x21_19, x21_17, layS, hkl, cl, hg, hpt, aSlice, aBounds, bMax, bHigh, bLow, b1, Nat.sub_zero, Nat.zero_mul, pcells_length, wrp_succ (show k < 1000000 by omega)]
theorem lay_end {C : Callee} {l : List Stone} {ex : Bool} : execA E C (fg 21) 0 25 [] 1000 c21_17 (layS l ex l.length) = some (.exit 0, [(14, .bool false), (13, .int .i64 l.length), (12, .int .i64 l.length), (0, .imm (pcells l) l.length ex)], []) := by
  simp only [seqX_exit, condX_bool, run_nil, run_cons, fget_cons', fput_cons', forget_nil, forget_cons', gcM, stp, just, Rd.bind, Rd.run, Rd.opt, upds, aBin, aInt, Nat.reduceEqDiff, Nat.reduceLeDiff, ↓reduceIte, decide_false, putD_some, List.elem_nil, seqN, bindN, regN, x21_18, r21_5_l, s21_5_0, x21_21, x21_22, x21_20, x21_19, x21_17, layS, Int.lt_irrefl, decide_false, Bool.false_eq_true]
theorem lay_loop {C : Callee} {l : List Stone} {ex : Bool} (h : OkP l)
    (cl : ∀ (site : Nat → Nat) seen j ex, j < l.length → aBack site true seen (thaw C 33 [.imm (pcells (l.take (j + 1))) (j + 1) ex] [] 0) = .pure (.int .i64 (weakL (l.take (j + 1))), [])) : ∀ (m k F : Nat) (s0 : St), headA [] s0 = layS l ex k → k + m = l.length → m < F →
    iterA (execA E C (fg 21) 0 25 [] 1000 c21_17) (headA []) F s0 =
      if layFrom l k m = 0 then some (.exit 0, [(14, .bool false), (13, .int .i64 l.length), (12, .int .i64 l.length), (0, .imm (pcells l) l.length ex)], []) else some (.ret, [(3, .int .i64 0), (2, .int .i64 (layFrom l k m))], []) := by
  intro m
  induction m with
  | zero =>
    intro k F s0 hs hk hF
    obtain ⟨F, rfl⟩ : ∃ G, F = G + 1 := ⟨F - 1, by omega⟩
    obtain rfl : k = l.length := by omega
    rw [iterA_succ, hs, lay_end, seqX_exit, if_pos (by rfl)]
  | succ m ih =>
    intro k F s0 hs hk hF
    obtain ⟨F, rfl⟩ : ∃ G, F = G + 1 := ⟨F - 1, by omega⟩
    have hkl : k < l.length := by omega
    have hlf : layFrom l k (m + 1) = if weakL (l.take (k + 1)) < 0 then layFrom l (k + 1) m else ((k + 1 : Nat) : Int) := nrfl rfl
    have hne : ¬ ((k + 1 : Nat) : Int) = 0 := by omega
    rw [iterA_succ, hs, hlf]
    by_cases hw : weakL (l.take (k + 1)) < 0
    · obtain ⟨s', h1, h2⟩ := lay_go (C := C) (ex := ex) h hkl (fun site seen ex => cl site seen k ex hkl) (by omega)
      rw [if_pos hw, h1, seqN]
      exact ih (k + 1) F s' h2 (by omega) (by omega)
    · rw [if_neg hw, if_neg hne, lay_stop (C := C) (ex := ex) h hkl (fun site seen ex => cl site seen k ex hkl) (by omega), seqX_ret]
theorem take_weak {d : Nat} {site : Nat → Nat} {seen : List Nat} {l : List Stone} (h : OkP l) {j : Nat} (ex : Bool) (hj : j < l.length) : aBack site true seen (thaw (callA E fg 1000 (d + 5)) 33 [.imm (pcells (l.take (j + 1))) (j + 1) ex] [] 0) = .pure (.int .i64 (weakL (l.take (j + 1))), []) := by
  have := weak_call (d := d) (site := site) (seen := seen) (ex := ex) (take_ok h hj)
  rw [show (l.take (j + 1)).length = j + 1 by simp; omega] at this
  exact this
theorem lay_run {d : Nat} {l : List Stone} {ex : Bool} (h : OkP l) : rsOf (callA E fg 1000 (d + 6) 21 [.imm (pcells l) l.length ex] [] 0) = some (.tup [.int .i64 (layFrom l 0 l.length), .int .i64 (if layFrom l 0 l.length = 0 then 13 else 0)]) := by
  change rsOf (bodyA E (callA E fg 1000 (d + 5)) fg 1000 21 _ _ _) = _
  have hle := h.le
  have hp : IsP (.imm (pcells l) l.length ex) l := .inr ⟨ex, rfl⟩
  have hc := fun (site : Nat → Nat) seen => check_call (d := d + 3) (site := site) (seen := seen) hp
  simp only [check_zero.2 h] at hc
  have hl := lay_loop (C := callA E fg 1000 (d + 5)) (ex := ex) h (fun site seen j ex hj => take_weak h ex hj) l.length 0 1000 (layS l ex 0) (by rfl) (by omega) (by omega)
  simp only [layS, cl0] at hl
  by_cases hw : layFrom l 0 l.length = 0
  · simp only [hw, if_true] at hl
    simp only [condX_bool, blockX_exit, bodyX_ret, run_nil, run_cons, fget_cons', fput_nil, fput_cons', forget_nil, forget_cons', frame0, gcM, stp, just, Rd.bind, Rd.run, Rd.opt, upds, resA, resL, aLen, aBuiltin, aBin, aInt, Nat.reduceBEq, Nat.reduceEqDiff, Nat.reduceLeDiff, ↓reduceIte, reduceCtorEq, Nat.zero_add, bne_iff_ne, ne_eq, List.getElem?_toArray, not_true_eq_false, putD_some, aCall, snaps, snap, List.append_nil, Option.map_some, List.elem_cons, List.elem_nil, List.getElem?_cons_zero, seqN, bindN, regN, T_27, x21_1, r21_0_l, s21_0_0, s21_0_1, x21_4, r21_1_l, s21_1_0, s21_1_1, s21_1_2, x21_6, r21_2_l, s21_2_0, s21_2_1, x21_9, r21_3_l, s21_3_0, s21_3_1, s21_3_2, x21_10, x21_8, x21_11, x21_7, x21_5, x21_3, x21_14, r21_4_l, s21_4_0, s21_4_1, s21_4_2, x21_16, x21_15, x21_13, x21_36, r21_10_l, s21_10_0, s21_10_1, x21_37, x21_35, x21_12, x21_2, x21_0, b_21, hc, hl, hw]
  · simp only [hw, if_false] at hl
    simp only [seqX_ret, condX_bool, blockX_ret, bodyX_ret, run_nil, run_cons, fget_cons', fput_cons', forget_nil, forget_cons', frame0, gcM, stp, just, Rd.bind, Rd.run, Rd.opt, upds, resA, resL, aLen, aBuiltin, aBin, aInt, Nat.reduceBEq, Nat.reduceEqDiff, Nat.reduceLeDiff, ↓reduceIte, reduceCtorEq, Nat.zero_add, bne_iff_ne, ne_eq, List.getElem?_toArray, not_true_eq_false, putD_some, aCall, snaps, snap, List.append_nil, Option.map_some, List.elem_cons, List.elem_nil, List.getElem?_cons_zero, seqN, bindN, regN, T_27, x21_1, r21_0_l, s21_0_0, s21_0_1, x21_4, r21_1_l, s21_1_0, s21_1_1, s21_1_2, x21_6, r21_2_l, s21_2_0, s21_2_1, x21_9, r21_3_l, s21_3_0, s21_3_1, s21_3_2, x21_10, x21_8, x21_11, x21_7, x21_5, x21_3, x21_14, r21_4_l, s21_4_0, s21_4_1, s21_4_2, x21_16, x21_15, x21_13, x21_12, x21_2, x21_0, b_21, hc, hl, hw]
end Go.AM.Ytikchlfbjdfioaa
namespace Go.AM
theorem back1_run2 {k : Nat} {seen : List Nat} {r : Nat → AV} {b b0 : Blk} {H : AHeap} (h : hget H k = some b0) (h2 : hget H (k + 1048576) = none) : (back1 k seen r b).run H = ((frz seen).bind fun us => .pure (r (k + 1048576), us ++ [(k + 1048576, b)])).run H := by
  simp only [back1, freeOff, List.map_cons, List.map_nil, allFree, Rd.bind, Rd.run, Nat.add_zero, h, Nat.zero_add, h2, freeAll]
end Go.AM
namespace Go.AM.Ytikchlfbjdfioaa
open Go Go.AM
set_option maxRecDepth 100000
set_option maxHeartbeats 4000000

abbrev mvA (l : List Stone) (k : Nat) (st : BS) : AHeap := [(5, ⟨.box, [.ref 14 0 l.length l.length (l.length * 4) 4 false]⟩), (6, ⟨.box, [.int .i64 k]⟩), (14, ⟨st, pcells l⟩)]
abbrev mvB (l : List Stone) (k : Nat) (X : List AV) : AHeap := [(5, ⟨.box, [.ref 14 0 l.length l.length (l.length * 4) 4 false]⟩), (6, ⟨.box, [.int .i64 k]⟩), (14, ⟨.froz, pcells l⟩), (848, ⟨.row, X⟩)]

theorem mva_round {C : Callee} {l : List Stone} {X : List AV} (hl : l.length ≤ 5) {k s : Nat} {b : Int} (hb : 0 ≤ b ∧ b ≤ 134217729) (hf : ∀ (k : Nat) (x : Stone), l[k]? = some x → -33554432 ≤ x.pos ∧ x.pos ≤ 33554432) (i : Nat) (hi : s + i < l.length) :
    ∃ s', execA E C (fg 23) 840 26 (mvA l k .row) 1000 c23_9 ([(6, .int .i64 (s + i : Nat)), (5, .ref 848 0 l.length l.length (l.length * 4) 4 false), (0, .int .i64 b)], mvA l k .froz ++ [(848, ⟨.row, pcells (mvI l s b i)⟩)]) = some (.normal, s') ∧
      headA (mvA l k .row) s' = ([(6, .int .i64 (s + (i + 1) : Nat)), (5, .ref 848 0 l.length l.length (l.length * 4) 4 false), (0, .int .i64 b)], mvA l k .froz ++ [(848, ⟨.row, pcells (mvI l s b (i + 1))⟩)]) := by
  obtain ⟨x, hx⟩ := at_ex hi
  have hx2 : (mvI l s b i)[s + i]? = some x := by rw [mvI_at l s b i (by omega), if_neg (by omega)]; exact hx
  obtain ⟨p1, p2⟩ := hf _ x hx
  have hpl : (pcells (mvI l s b i)).length = l.length * 4 := by rw [pcells_length, mvI_length]
  have f1 := pcells_field (mvI l s b i) (s + i) x 1 hx2 (by omega)
  simp only [sc, List.getElem?_cons_succ, List.getElem?_cons_zero] at f1
  have w2 : wrp .i64 (x.pos + b) = x.pos + b := wrp64 (by omega)
  have hset := pcells_set (mvI l s b i) (s + i) x (x.pos + b) hx2
  have he : mvI l s b (i + 1) = (mvI l s b i).set (s + i) ⟨x.half, x.pos + b, x.least, x.most⟩ := by simp [mvI, mvS, hx]
  rw [he]
  rw [show s + (i + 1) = (s + i) + 1 by omega]
  generalize hj : s + i = j at *
  have hlt : j * 4 + 1 < l.length * 4 := by omega
  have hle1 : j * 4 + 1 + 1 ≤ l.length * 4 := by omega
  simp only [condX_bool, blockX_normal, run_nil, run_cons, fget_cons', fput_cons', forget_nil, forget_cons', hget_cons', hset_cons', gcM, stp, just, Rd.bind, Rd.run, Rd.opt, upds, acells, tsz, rdCells, fieldOf, aFieldAddr, aLoad, aStore, opStore, aIndexAddr, aNum, aLen, aBuiltin, aBin, aInt, putC, Nat.reduceLT, Nat.reduceBEq, Nat.reduceEqDiff, Nat.reduceLeDiff, ↓reduceIte, reduceCtorEq, liveBlk_eq, Nat.zero_add, List.nil_append, List.getElem?_toArray, decide_true, frz, putD_some, putD_none, and_true, Int.natCast_nonneg, Int.ofNat_lt, Int.toNat_natCast, snaps, snap, List.append_nil, List.elem_cons, List.elem_nil, List.length_cons, List.length_nil, List.getElem?_cons_zero, List.getElem?_cons_succ, seqN, bindN, regN, T_3, T_27, T_44, x23_11, r23_3_l, s23_3_0, s23_3_1, s23_3_2, s23_3_3, x23_13, x23_14, x23_12, x23_10, x23_17, r23_5_l, s23_5_0, s23_5_1, s23_5_2, s23_5_3, s23_5_4, s23_5_5, s23_5_6, s23_5_7, s23_5_8, s23_5_9, x23_16, x23_18, r23_4_l, s23_4_0, s23_4_1, s23_4_2, x23_15, x23_9, mvA, hi, hpl, f1, w2, hset, hle1, wrp_succ (show j < 1000000 by omega), List.not_mem_nil, List.cons_append, List.nil_append]
  exact ⟨_, rfl, rfl⟩
theorem mva_run {d : Nat} {l : List Stone} {X : List AV} (h0 : 0 < l.length) (hl : l.length ≤ 5) {s : Nat} (hs : s < l.length) {b : Int} (hb : 0 ≤ b ∧ b ≤ 134217729) (hf : ∀ (k : Nat) (x : Stone), l[k]? = some x → -33554432 ≤ x.pos ∧ x.pos ≤ 33554432) :
    callA E fg 1000 (d + 2) 23 [.int .i64 b, .ptr 5 0 1, .ptr 6 0 1] (mvA l s .row) 840 = some (.ref 848 0 l.length l.length (l.length * 4) 4 false, mvA l s .froz ++ [(848, ⟨.row, pcells (mv l s b)⟩)]) := by
  change bodyA E (callA E fg 1000 (d + 1)) fg 1000 23 _ _ _ = _
  have hcl := fun (site : Nat → Nat) seen => clone_call (d := d) (site := site) (seen := seen) (ex := false) h0 hl
  have hsn : s + (l.length - s) = l.length := by omega
  have hloop := iter_all (f := execA E (callA E fg 1000 (d + 1)) (fg 23) 840 26 (mvA l s .row) 1000 c23_9) (hd := headA (mvA l s .row)) (fun i => ([(6, .int .i64 (s + i : Nat)), (5, .ref 848 0 l.length l.length (l.length * 4) 4 false), (0, .int .i64 b)], mvA l s .froz ++ [(848, ⟨.row, pcells (mvI l s b i)⟩)])) (l.length - s) 1000 0
    ([(6, .int .i64 s), (5, .ref 848 0 l.length l.length (l.length * 4) 4 false), (0, .int .i64 b)], mvA l s .froz ++ [(848, ⟨.row, pcells l⟩)]) (by rfl) (by omega) (fun i h1 h2 => by
      exact mva_round (C := callA E fg 1000 (d + 1)) (X := X) (k := s) hl hb hf i (by omega)) (e := .exit 0) (se := ([(13, .bool false), (6, .int .i64 l.length), (5, .ref 848 0 l.length l.length (l.length * 4) 4 false), (0, .int .i64 b)], mvA l s .froz ++ [(848, ⟨.row, pcells (mv l s b)⟩)])) (by
      rw [Nat.zero_add, hsn]
      have e : mvI l s b (l.length - s) = mv l s b := rfl
      have hpl : (pcells (mv l s b)).length = l.length * 4 := by rw [pcells_length, mv_length]
      simp only [e]
      simp only [seqX_exit, condX_bool, run_nil, run_cons, fget_cons', fput_cons', forget_nil, forget_cons', hget_cons', gcM, stp, just, Rd.bind, Rd.run, Rd.opt, upds, aLen, aBuiltin, aBin, aInt, Nat.reduceBEq, Nat.reduceEqDiff, Nat.reduceLeDiff, ↓reduceIte, liveBlk_eq, List.nil_append, List.getElem?_toArray, decide_false, putD_some, List.elem_cons, List.elem_nil, List.getElem?_cons_zero, seqN, bindN, regN, T_27, x23_11, r23_3_l, s23_3_0, s23_3_1, s23_3_2, s23_3_3, x23_13, x23_14, x23_12, x23_10, x23_9, mvA, hpl, Int.lt_irrefl, decide_false, Bool.false_eq_true, List.cons_append, List.nil_append]) (by simp)
  simp only [mvA, List.cons_append, List.nil_append] at hloop ⊢
  simp only [blockX_exit, bodyX_ret, run_nil, run_cons, fget_cons', fput_nil, fput_cons', forget_nil, forget_cons', hget_nil', hget_cons', hset_nil', hset_cons', frame0, gcM, stp, just, Rd.bind, Rd.run, Rd.opt, upds, rdCells, aLoad, resA, resL, Nat.reduceAdd, Nat.reduceMul, Nat.reduceBEq, Nat.reduceEqDiff, Nat.reduceLeDiff, ↓reduceIte, reduceCtorEq, liveBlk_eq, Nat.zero_add, Nat.add_zero, List.nil_append, Bool.and_true, decide_true, frz, putD_some, aCall, snaps, List.append_nil, Option.map_some, List.elem_cons, List.elem_nil, List.length_cons, List.length_nil, List.getElem?_cons_zero, List.drop_zero, seqN, bindN, regN, snap_ref, T_3, T_27, x23_1, r23_0_l, s23_0_0, x23_3, r23_1_l, s23_1_0, s23_1_1, s23_1_2, x23_6, r23_2_l, s23_2_0, s23_2_1, x23_8, x23_7, x23_5, x23_20, r23_6_l, s23_6_0, s23_6_1, x23_21, x23_19, x23_4, x23_2, x23_0, b_23, hcl, back1_run, take_pc2, pcells_length, hloop, Nat.le_refl, List.cons_append, List.nil_append]

theorem mvb_round {C : Callee} {l : List Stone} {X : List AV} (hl : l.length ≤ 5) {k s : Nat} {b : Int} (hb : 0 ≤ b ∧ b ≤ 134217729) (hf : ∀ (k : Nat) (x : Stone), l[k]? = some x → -33554432 ≤ x.pos ∧ x.pos ≤ 33554432) (i : Nat) (hi : s + i < l.length) :
    ∃ s', execA E C (fg 23) 840 26 (mvB l k X) 1000 c23_9 ([(6, .int .i64 (s + i : Nat)), (5, .ref 1049424 0 l.length l.length (l.length * 4) 4 false), (0, .int .i64 b)], mvB l k X ++ [(1049424, ⟨.row, pcells (mvI l s b i)⟩)]) = some (.normal, s') ∧
      headA (mvB l k X) s' = ([(6, .int .i64 (s + (i + 1) : Nat)), (5, .ref 1049424 0 l.length l.length (l.length * 4) 4 false), (0, .int .i64 b)], mvB l k X ++ [(1049424, ⟨.row, pcells (mvI l s b (i + 1))⟩)]) := by
  obtain ⟨x, hx⟩ := at_ex hi
  have hx2 : (mvI l s b i)[s + i]? = some x := by rw [mvI_at l s b i (by omega), if_neg (by omega)]; exact hx
  obtain ⟨p1, p2⟩ := hf _ x hx
  have hpl : (pcells (mvI l s b i)).length = l.length * 4 := by rw [pcells_length, mvI_length]
  have f1 := pcells_field (mvI l s b i) (s + i) x 1 hx2 (by omega)
  simp only [sc, List.getElem?_cons_succ, List.getElem?_cons_zero] at f1
  have w2 : wrp .i64 (x.pos + b) = x.pos + b := wrp64 (by omega)
  have hset := pcells_set (mvI l s b i) (s + i) x (x.pos + b) hx2
  have he : mvI l s b (i + 1) = (mvI l s b i).set (s + i) ⟨x.half, x.pos + b, x.least, x.most⟩ := by simp [mvI, mvS, hx]
  rw [he]
  rw [show s + (i + 1) = (s + i) + 1 by omega]
  generalize hj : s + i = j at *
  have hlt : j * 4 + 1 < l.length * 4 := by omega
  have hle1 : j * 4 + 1 + 1 ≤ l.length * 4 := by omega
  simp only [condX_bool, blockX_normal, run_nil, run_cons, fget_cons', fput_cons', forget_nil, forget_cons', hget_cons', hset_cons', gcM, stp, just, Rd.bind, Rd.run, Rd.opt, upds, acells, tsz, rdCells, fieldOf, aFieldAddr, aLoad, aStore, opStore, aIndexAddr, aNum, aLen, aBuiltin, aBin, aInt, putC, Nat.reduceLT, Nat.reduceBEq, Nat.reduceEqDiff, Nat.reduceLeDiff, ↓reduceIte, reduceCtorEq, liveBlk_eq, Nat.zero_add, List.nil_append, List.getElem?_toArray, decide_true, frz, putD_some, putD_none, and_true, Int.natCast_nonneg, Int.ofNat_lt, Int.toNat_natCast, snaps, snap, List.append_nil, List.elem_cons, List.elem_nil, List.length_cons, List.length_nil, List.getElem?_cons_zero, List.getElem?_cons_succ, seqN, bindN, regN, T_3, T_27, T_44, x23_11, r23_3_l, s23_3_0, s23_3_1, s23_3_2, s23_3_3, x23_13, x23_14, x23_12, x23_10, x23_17, r23_5_l, s23_5_0, s23_5_1, s23_5_2, s23_5_3, s23_5_4, s23_5_5, s23_5_6, s23_5_7, s23_5_8, s23_5_9, x23_16, x23_18, r23_4_l, s23_4_0, s23_4_1, s23_4_2, x23_15, x23_9, mvB, hi, hpl, f1, w2, hset, hle1, wrp_succ (show j < 1000000 by omega), List.not_mem_nil, List.cons_append, List.nil_append]
  exact ⟨_, rfl, rfl⟩
theorem mvb_run {d : Nat} {l : List Stone} {X : List AV} (h0 : 0 < l.length) (hl : l.length ≤ 5) {s : Nat} (hs : s < l.length) {b : Int} (hb : 0 ≤ b ∧ b ≤ 134217729) (hf : ∀ (k : Nat) (x : Stone), l[k]? = some x → -33554432 ≤ x.pos ∧ x.pos ≤ 33554432) :
    callA E fg 1000 (d + 2) 23 [.int .i64 b, .ptr 5 0 1, .ptr 6 0 1] (mvB l s X) 840 = some (.ref 1049424 0 l.length l.length (l.length * 4) 4 false, mvB l s X ++ [(1049424, ⟨.row, pcells (mv l s b)⟩)]) := by
  change bodyA E (callA E fg 1000 (d + 1)) fg 1000 23 _ _ _ = _
  have hcl := fun (site : Nat → Nat) seen => clone_call (d := d) (site := site) (seen := seen) (ex := false) h0 hl
  have hsn : s + (l.length - s) = l.length := by omega
  have hloop := iter_all (f := execA E (callA E fg 1000 (d + 1)) (fg 23) 840 26 (mvB l s X) 1000 c23_9) (hd := headA (mvB l s X)) (fun i => ([(6, .int .i64 (s + i : Nat)), (5, .ref 1049424 0 l.length l.length (l.length * 4) 4 false), (0, .int .i64 b)], mvB l s X ++ [(1049424, ⟨.row, pcells (mvI l s b i)⟩)])) (l.length - s) 1000 0
    ([(6, .int .i64 s), (5, .ref 1049424 0 l.length l.length (l.length * 4) 4 false), (0, .int .i64 b)], mvB l s X ++ [(1049424, ⟨.row, pcells l⟩)]) (by rfl) (by omega) (fun i h1 h2 => by
      exact mvb_round (C := callA E fg 1000 (d + 1)) (X := X) (k := s) hl hb hf i (by omega)) (e := .exit 0) (se := ([(13, .bool false), (6, .int .i64 l.length), (5, .ref 1049424 0 l.length l.length (l.length * 4) 4 false), (0, .int .i64 b)], mvB l s X ++ [(1049424, ⟨.row, pcells (mv l s b)⟩)])) (by
      rw [Nat.zero_add, hsn]
      have e : mvI l s b (l.length - s) = mv l s b := rfl
      have hpl : (pcells (mv l s b)).length = l.length * 4 := by rw [pcells_length, mv_length]
      simp only [e]
      simp only [seqX_exit, condX_bool, run_nil, run_cons, fget_cons', fput_cons', forget_nil, forget_cons', hget_cons', gcM, stp, just, Rd.bind, Rd.run, Rd.opt, upds, aLen, aBuiltin, aBin, aInt, Nat.reduceBEq, Nat.reduceEqDiff, Nat.reduceLeDiff, ↓reduceIte, liveBlk_eq, List.nil_append, List.getElem?_toArray, decide_false, putD_some, List.elem_cons, List.elem_nil, List.getElem?_cons_zero, seqN, bindN, regN, T_27, x23_11, r23_3_l, s23_3_0, s23_3_1, s23_3_2, s23_3_3, x23_13, x23_14, x23_12, x23_10, x23_9, mvB, hpl, Int.lt_irrefl, decide_false, Bool.false_eq_true, List.cons_append, List.nil_append]) (by simp)
  simp only [mvB, List.cons_append, List.nil_append] at hloop ⊢
  simp only [blockX_exit, bodyX_ret, run_nil, run_cons, fget_cons', fput_nil, fput_cons', forget_nil, forget_cons', hget_nil', hget_cons', hset_nil', hset_cons', frame0, gcM, stp, just, Rd.bind, Rd.run, Rd.opt, upds, rdCells, aLoad, resA, resL, Nat.reduceAdd, Nat.reduceMul, Nat.reduceBEq, Nat.reduceEqDiff, Nat.reduceLeDiff, ↓reduceIte, reduceCtorEq, liveBlk_eq, Nat.zero_add, Nat.add_zero, List.nil_append, Bool.and_true, decide_true, frz, putD_some, aCall, snaps, List.append_nil, Option.map_some, List.elem_cons, List.elem_nil, List.length_cons, List.length_nil, List.getElem?_cons_zero, List.drop_zero, seqN, bindN, regN, snap_ref, T_3, T_27, x23_1, r23_0_l, s23_0_0, x23_3, r23_1_l, s23_1_0, s23_1_1, s23_1_2, x23_6, r23_2_l, s23_2_0, s23_2_1, x23_8, x23_7, x23_5, x23_20, r23_6_l, s23_6_0, s23_6_1, x23_21, x23_19, x23_4, x23_2, x23_0, b_23, hcl, back1_run2 (b0 := ⟨.row, X⟩), Nat.reduceAdd, take_pc2, pcells_length, hloop, Nat.le_refl, List.cons_append, List.nil_append]
end Go.AM.Ytikchlfbjdfioaa
