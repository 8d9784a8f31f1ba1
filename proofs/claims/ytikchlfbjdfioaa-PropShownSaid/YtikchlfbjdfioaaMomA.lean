/- Moments by the law's own sums; totals. Own work of this project. -/
import Derived.Test.YtikchlfbjdfioaaMadeA
namespace Go.AM.Ytikchlfbjdfioaa
open Go Go.AM
set_option maxRecDepth 100000
set_option maxHeartbeats 4000000

theorem weigh_at : ∀ {l : List Stone} {ws : List Int}, weighL l ws = 0 → ∀ {i : Nat} {s : Stone} {w : Int}, l[i]? = some s → ws[i]? = some w → s.least ≤ w ∧ w ≤ s.most
  | [], _, _, i, s, w, h, _ => by simp at h
  | _ :: _, [], _, i, s, w, _, h => by simp at h
  | a :: l, b :: ws, h, i, s, w, h1, h2 => by
    simp only [weighL] at h
    split at h
    · simp at h
    · split at h
      · simp at h
      · cases i with
        | zero => simp at h1 h2; subst h1; subst h2; omega
        | succ i => exact weigh_at h (by simpa using h1) (by simpa using h2)
theorem weighE_at {l : List Stone} {ws : List Int} (hw : weighE l ws = 0) {i : Nat} {s : Stone} {w : Int} (h1 : l[i]? = some s) (h2 : ws[i]? = some w) : s.least ≤ w ∧ w ≤ s.most := by
  unfold weighE at hw
  split at hw
  · exact weigh_at hw h1 h2
  · simp at hw

def leftM (l : List Stone) (ws : List Int) : Nat → Int
  | 0 => 0
  | k + 1 => momSum l ws (k + 1) (-1)
theorem sumF_step (F : Nat → Int) (k i : Nat) (h : k ≤ i) : sumF F k (i + 1 - k) = sumF F k (i - k) + F i := by
  rw [show i + 1 - k = (i - k) + 1 by omega]; simp only [sumF, show k + (i - k) = i by omega]

theorem moments_zero {C : Callee} {l : List Stone} {ws : List Int} {ex ex' : Bool} (h : OkP l) (hw : weighE l ws = 0) :
    rsOf (bodyA E C fg 1000 13 [.imm (pcells l) l.length ex, .imm (icells ws) ws.length ex', .int .i64 (0 : Nat)] [] 0) = some (.tup [.int .i64 (momSum l ws 0 1), .int .i64 0]) := by
  have hlen := weigh_len hw
  have hle := h.le
  have hb := fun i (h1 : 0 ≤ i) (h2 : i < l.length) => momTerm_bound h hw (Nat.zero_le l.length) 1 (i := i) h2
  have hloop := iter_all (f := execA E C (fg 13) 0 74 [] 1000 c13_7) (hd := headA []) (fun i => ([(8, .int .i64 i), (7, .int .i64 0), (6, .int .i64 (sumF (momTerm l ws 0 1) 0 (i - 0))), (2, .int .i64 (0 : Nat)), (1, .imm (icells ws) ws.length ex'), (0, .imm (pcells l) l.length ex)], [])) l.length 1000 0
    ([(8, .int .i64 (0 : Nat)), (7, .int .i64 0), (6, .int .i64 0), (2, .int .i64 (0 : Nat)), (1, .imm (icells ws) ws.length ex'), (0, .imm (pcells l) l.length ex)], []) (by simp [headA_nil, sumF]) (by omega) (fun i h1 h2 => by
      have hil : i < l.length := by omega
      have hiw : i < ws.length := by omega
      obtain ⟨s, hs⟩ := at_ex hil
      obtain ⟨w, hws⟩ := at_ex hiw
      have hm : momTerm l ws 0 1 i = w * s.pos := by simp [momTerm, hs, hws, far, rightE]
      have f1 := pcells_field l i s 1 hs (by omega)
      simp only [sc, List.getElem?_cons_succ, List.getElem?_cons_zero] at f1
      obtain ⟨b1, b2⟩ := sumF_bound (M := 2717908992) (by omega) hb (i - 0) (by omega)
      obtain ⟨b3, b4⟩ := hb i (by omega) hil
      have hst := sumF_step (momTerm l ws 0 1) 0 i (by omega)
      rw [hm] at hst b3 b4
      have w1 : wrp .i64 (w * s.pos) = w * s.pos := wrp64 (by omega)
      have w2 : wrp .i64 (sumF (momTerm l ws 0 1) 0 (i - 0) + w * s.pos) = sumF (momTerm l ws 0 1) 0 (i + 1 - 0) := by rw [hst]; exact wrp64 (by omega)
      simp only [seqX_normal, seqX_exit, bindR_some, regX_some, condX_bool, blockX_exit, Bool.not_true, Bool.not_false, run_nil, run_cons, fget_cons', fput_cons', forget_nil, forget_cons', gcM, stp, just, Rd.bind, Rd.run, Rd.opt, upds, tsz, rdCells, fieldOf, aFieldAddr, aLoad, aIndexAddr, aNum, aLen, aBuiltin, aBin, aInt, Nat.reduceAdd, Nat.reduceLT, Nat.reduceBEq, Nat.reduceEqDiff, Nat.reduceLeDiff, ↓reduceIte, reduceCtorEq, Nat.zero_add, beq_iff_eq, List.getElem?_toArray, rtX_some, addT_some, drX_some, runT_nil, runT_cons, neat_eq, descF_nil', descF_cons', ascH_nil', stpT, Rd.foot, writing, touching, Tr.empty, dynPairs, List.isEmpty_nil, List.map_nil, Bool.not_false, Bool.not_true, Bool.or_true, Bool.or_false, Bool.and_self, decide_true, putD_some, and_true, Int.natCast_nonneg, Int.ofNat_lt, Int.toNat_natCast, List.elem_cons, List.elem_nil, List.getElem?_cons_zero, List.getElem?_cons_succ, T_3, T_27, T_36, T_44, x13_9, r13_2_l, s13_2_0, s13_2_1, s13_2_2, s13_2_3, x13_11, x13_12, x13_10, x13_8, x13_17, r13_4_l, s13_4_0, s13_4_1, x13_20, r13_5_l, r13_5_dr, r13_5_an, s13_5_0, s13_5_1, s13_5_2, s13_5_3, s13_5_4, s13_5_5, s13_5_6, s13_5_7, s13_5_8, s13_5_9, s13_5_10, s13_5_11, s13_5_12, x13_21, x13_19, x13_22, x13_18, x13_16, x13_15, x13_14, x13_28, r13_3_l, s13_3_0, s13_3_1, s13_3_2, x13_13, x13_7, hil, hiw, icells_length, icells_at hws, pcells_length, Nat.mul_one, f1, w1, w2, wrp_succ (show i < 1000000 by omega), cl0]
      exact ⟨_, rfl, by simp only [headA_nil]⟩) (e := .exit 0) (se := ([(14, .bool false), (8, .int .i64 l.length), (7, .int .i64 0), (6, .int .i64 (momSum l ws 0 1)), (2, .int .i64 (0 : Nat)), (1, .imm (icells ws) ws.length ex'), (0, .imm (pcells l) l.length ex)], [])) (by
      rw [show 0 + l.length = l.length by omega]
      simp only [seqX_normal, seqX_exit, bindR_some, regX_some, condX_bool, run_nil, run_cons, fget_cons', fput_cons', forget_nil, forget_cons', gcM, stp, just, Rd.bind, Rd.run, Rd.opt, upds, aLen, aBuiltin, aBin, aInt, Nat.reduceBEq, Nat.reduceEqDiff, Nat.reduceLeDiff, ↓reduceIte, reduceCtorEq, List.getElem?_toArray, decide_false, putD_some, List.elem_cons, List.elem_nil, List.getElem?_cons_zero, T_27, x13_9, r13_2_l, s13_2_0, s13_2_1, s13_2_2, s13_2_3, x13_11, x13_12, x13_10, x13_8, x13_7, Int.lt_irrefl, decide_false, Bool.false_eq_true, momSum]) (by simp)
  simp only [cl0] at hloop
  simp only [seqX_normal, bindR_some, regX_some, blockX_exit, bodyX_ret, run_nil, run_cons, fget_cons', fput_cons', forget_nil, forget_cons', frame0, gcM, resA, resL, Nat.reduceAdd, Nat.reduceBEq, Nat.reduceEqDiff, Nat.reduceLeDiff, ↓reduceIte, reduceCtorEq, Nat.zero_add, Option.map_some, List.elem_cons, List.elem_nil, x13_1, r13_0_l, s13_0_0, s13_0_1, x13_4, r13_1_l, s13_1_0, s13_1_1, x13_6, x13_5, x13_3, x13_30, r13_9_l, s13_9_0, s13_9_1, s13_9_2, s13_9_3, x13_31, x13_29, x13_2, x13_0, b_13, cl0, hloop]

theorem moments_succ {C : Callee} {l : List Stone} {ws : List Int} {ex ex' : Bool} (h : OkP l) (hw : weighE l ws = 0) {k : Nat} (hk : k + 1 < l.length) :
    rsOf (bodyA E C fg 1000 13 [.imm (pcells l) l.length ex, .imm (icells ws) ws.length ex', .int .i64 (k + 1 : Nat)] [] 0) = some (.tup [.int .i64 (momSum l ws (k + 1) 1), .int .i64 (momSum l ws (k + 1) (-1))]) := by
  have hlen := weigh_len hw
  have hle := h.le
  have hkl : k < l.length := by omega
  obtain ⟨t, ht⟩ := at_ex hkl
  have hft := h.fits k t ht
  have hb := fun side i (h1 : k + 1 ≤ i) (h2 : i < l.length) => momTerm_bound h hw (Nat.le_of_lt hk) side (i := i) h2
  have e1 : wrp .i64 (((k + 1 : Nat) : Int) - 1) = (k : Int) := by rw [wrp64 (by omega)]; omega
  have e0 : ¬ ((k + 1 : Nat) : Int) = 0 := by omega
  have hloop := iter_all (f := execA E C (fg 13) 0 74 [] 1000 c13_7) (hd := headA []) (fun i => ([(8, .int .i64 i), (7, .int .i64 (sumF (momTerm l ws (k + 1) (-1)) (k + 1) (i - (k + 1)))), (6, .int .i64 (sumF (momTerm l ws (k + 1) 1) (k + 1) (i - (k + 1)))), (2, .int .i64 (k + 1 : Nat)), (1, .imm (icells ws) ws.length ex'), (0, .imm (pcells l) l.length ex)], [])) (l.length - (k + 1)) 1000 (k + 1)
    ([(8, .int .i64 (k + 1 : Nat)), (7, .int .i64 0), (6, .int .i64 0), (2, .int .i64 (k + 1 : Nat)), (1, .imm (icells ws) ws.length ex'), (0, .imm (pcells l) l.length ex)], []) (by simp [headA_nil, sumF]) (by omega) (fun i h1 h2 => by
      have hil : i < l.length := by omega
      have hiw : i < ws.length := by omega
      obtain ⟨s, hs⟩ := at_ex hil
      obtain ⟨w, hws⟩ := at_ex hiw
      have hm : momTerm l ws (k + 1) 1 i = w * (s.pos - t.pos - t.half) := by simp [momTerm, hs, hws, far, rightE, ht, show s.pos - (t.pos + t.half) = s.pos - t.pos - t.half by omega]
      have hm2 : momTerm l ws (k + 1) (-1) i = w * (t.pos - t.half - s.pos) := by simp [momTerm, hs, hws, far, leftE, ht]
      have f1 := pcells_field l i s 1 hs (by omega)
      simp only [sc, List.getElem?_cons_succ, List.getElem?_cons_zero] at f1
      have hfs := h.fits i s hs
      obtain ⟨b1, b2⟩ := sumF_bound (M := 2717908992) (by omega) (hb 1) (i - (k + 1)) (by omega)
      obtain ⟨b3, b4⟩ := hb 1 i (by omega) hil
      obtain ⟨b5, b6⟩ := sumF_bound (M := 2717908992) (by omega) (hb (-1)) (i - (k + 1)) (by omega)
      obtain ⟨b7, b8⟩ := hb (-1) i (by omega) hil
      have hst := sumF_step (momTerm l ws (k + 1) 1) (k + 1) i (by omega)
      have hst2 := sumF_step (momTerm l ws (k + 1) (-1)) (k + 1) i (by omega)
      rw [hm] at hst b3 b4
      rw [hm2] at hst2 b7 b8
      obtain ⟨_, _, p1, p2, _, _, _⟩ := hfs
      obtain ⟨q1, q2, p3, p4, _, _, _⟩ := hft
      have w1 : wrp .i64 (s.pos - t.pos) = s.pos - t.pos := wrp64 (by omega)
      have w2 : wrp .i64 (s.pos - t.pos - t.half) = s.pos - t.pos - t.half := wrp64 (by omega)
      have w3 : wrp .i64 (w * (s.pos - t.pos - t.half)) = w * (s.pos - t.pos - t.half) := wrp64 (by omega)
      have w4 : wrp .i64 (sumF (momTerm l ws (k + 1) 1) (k + 1) (i - (k + 1)) + w * (s.pos - t.pos - t.half)) = sumF (momTerm l ws (k + 1) 1) (k + 1) (i + 1 - (k + 1)) := by rw [hst]; exact wrp64 (by omega)
      have w5 : wrp .i64 (t.pos - t.half) = t.pos - t.half := wrp64 (by omega)
      have w6 : wrp .i64 (t.pos - t.half - s.pos) = t.pos - t.half - s.pos := wrp64 (by omega)
      have w7 : wrp .i64 (w * (t.pos - t.half - s.pos)) = w * (t.pos - t.half - s.pos) := wrp64 (by omega)
      have w8 : wrp .i64 (sumF (momTerm l ws (k + 1) (-1)) (k + 1) (i - (k + 1)) + w * (t.pos - t.half - s.pos)) = sumF (momTerm l ws (k + 1) (-1)) (k + 1) (i + 1 - (k + 1)) := by rw [hst2]; exact wrp64 (by omega)
      simp only [seqX_normal, bindR_some, regX_some, condX_bool, blockX_normal, Bool.not_true, Bool.not_false, run_nil, run_cons, fget_cons', fput_cons', forget_nil, forget_cons', hget_nil', hget_cons', hset_nil', hset_cons', gcM, stp, opBox, just, Rd.bind, Rd.run, Rd.opt, upds, acells, zeroCells, tsz, rdCells, fieldOf, aFieldAddr, aLoad, aStore, opStore, fresh, aIndexAddr, aNum, aLen, aBuiltin, aBin, aInt, putC, Nat.reduceAdd, Nat.reduceLT, Nat.reduceBEq, Nat.reduceEqDiff, Nat.reduceLeDiff, Int.reduceNeg, ↓reduceIte, reduceCtorEq, liveBlk_eq, Nat.zero_add, Nat.add_zero, beq_iff_eq, List.nil_append, List.getElem?_toArray, rtX_some, addT_some, drX_some, runT_nil, runT_cons, neat_eq, descF_nil', descF_cons', ascH_nil', ascH_cons', stpT, Rd.foot, writing, touching, Tr.empty, dynPairs, apartT, disj, List.isEmpty_nil, List.isEmpty_cons, List.map_nil, Bool.not_false, Bool.not_true, Bool.true_or, Bool.or_true, Bool.or_false, Bool.and_true, Bool.true_and, Bool.and_self, decide_true, frz, putD_some, putD_none, and_true, Int.natCast_nonneg, Int.ofNat_lt, Int.toNat_natCast, snaps, snap, List.append_nil, List.elem_cons, List.elem_nil, List.length_cons, List.length_nil, List.getElem?_cons_zero, List.getElem?_cons_succ, List.set_cons_zero, List.set_cons_succ, T_3, T_27, T_36, T_44, x13_9, r13_2_l, s13_2_0, s13_2_1, s13_2_2, s13_2_3, x13_11, x13_12, x13_10, x13_8, x13_17, r13_4_l, s13_4_0, s13_4_1, x13_20, r13_5_l, r13_5_dr, r13_5_an, s13_5_0, s13_5_1, s13_5_2, s13_5_3, s13_5_4, s13_5_5, s13_5_6, s13_5_7, s13_5_8, s13_5_9, s13_5_10, s13_5_11, s13_5_12, x13_21, x13_19, x13_22, x13_18, x13_16, x13_24, r13_6_l, s13_6_0, s13_6_1, s13_6_2, s13_6_3, s13_6_4, s13_6_5, s13_6_6, x13_26, r13_7_l, r13_7_dr, r13_7_an, s13_7_0, s13_7_1, s13_7_2, s13_7_3, s13_7_4, s13_7_5, s13_7_6, s13_7_7, s13_7_8, s13_7_9, s13_7_10, s13_7_11, s13_7_12, s13_7_13, s13_7_14, s13_7_15, s13_7_16, s13_7_17, s13_7_18, x13_27, r13_8_l, r13_8_dr, r13_8_an, s13_8_0, s13_8_1, s13_8_2, s13_8_3, s13_8_4, s13_8_5, s13_8_6, s13_8_7, s13_8_8, s13_8_9, s13_8_10, s13_8_11, s13_8_12, s13_8_13, s13_8_14, s13_8_15, s13_8_16, s13_8_17, s13_8_18, x13_25, x13_23, x13_15, x13_14, x13_28, r13_3_l, s13_3_0, s13_3_1, s13_3_2, x13_13, x13_7, hil, hiw, hkl, icells_length, icells_at hws, pcells_length, Nat.mul_one, f1, e0, e1, pcells_at l k t ht, sc, pcells_off l k hkl, w1, w2, w3, w4, w5, w6, w7, w8, wrp_succ (show i < 1000000 by omega)]
      exact ⟨_, rfl, by rfl⟩) (e := .exit 0) (se := ([(14, .bool false), (8, .int .i64 l.length), (7, .int .i64 (momSum l ws (k + 1) (-1))), (6, .int .i64 (momSum l ws (k + 1) 1)), (2, .int .i64 (k + 1 : Nat)), (1, .imm (icells ws) ws.length ex'), (0, .imm (pcells l) l.length ex)], [])) (by
      rw [show k + 1 + (l.length - (k + 1)) = l.length by omega]
      simp only [seqX_normal, seqX_exit, bindR_some, regX_some, condX_bool, run_nil, run_cons, fget_cons', fput_cons', forget_nil, forget_cons', gcM, stp, just, Rd.bind, Rd.run, Rd.opt, upds, aLen, aBuiltin, aBin, aInt, Nat.reduceBEq, Nat.reduceEqDiff, Nat.reduceLeDiff, Int.reduceNeg, ↓reduceIte, reduceCtorEq, List.getElem?_toArray, decide_false, putD_some, List.elem_cons, List.elem_nil, List.getElem?_cons_zero, T_27, x13_9, r13_2_l, s13_2_0, s13_2_1, s13_2_2, s13_2_3, x13_11, x13_12, x13_10, x13_8, x13_7, Int.lt_irrefl, decide_false, Bool.false_eq_true, momSum]) (by simp)
  simp only [seqX_normal, bindR_some, regX_some, blockX_exit, bodyX_ret, run_nil, run_cons, fget_cons', fput_cons', forget_nil, forget_cons', frame0, gcM, resA, resL, Nat.reduceAdd, Nat.reduceBEq, Nat.reduceEqDiff, Nat.reduceLeDiff, Int.reduceNeg, ↓reduceIte, reduceCtorEq, Nat.zero_add, Option.map_some, List.elem_cons, List.elem_nil, x13_1, r13_0_l, s13_0_0, s13_0_1, x13_4, r13_1_l, s13_1_0, s13_1_1, x13_6, x13_5, x13_3, x13_30, r13_9_l, s13_9_0, s13_9_1, s13_9_2, s13_9_3, x13_31, x13_29, x13_2, x13_0, b_13, hloop]

theorem moments_call {d : Nat} {site : Nat → Nat} {seen : List Nat} {l : List Stone} {ws : List Int} {ex ex' : Bool} (h : OkP l) (hw : weighE l ws = 0) {k : Nat} (hk : k < l.length) :
    aBack site true seen (thaw (callA E fg 1000 (d + 1)) 13 [.imm (pcells l) l.length ex, .imm (icells ws) ws.length ex', .int .i64 k] [] 0) = .pure (.tup [.int .i64 (momSum l ws k 1), .int .i64 (leftM l ws k)], []) := by
  cases k with
  | zero => exact aBack_ints (rs_ex (moments_zero (C := callA E fg 1000 d) h hw))
  | succ k => exact aBack_ints (rs_ex (moments_succ (C := callA E fg 1000 d) h hw hk))

/-! Totals -/
def totalF (ws : List Int) : Int := sumF (fun i => ws.getD i 0) 0 ws.length
theorem total_run {C : Callee} {ws : List Int} {ex : Bool} (hl : ws.length ≤ 6) (hb : ∀ (i : Nat) (w : Int), ws[i]? = some w → -1000 ≤ w ∧ w ≤ 1000) :
    rsOf (bodyA E C fg 1000 25 [.imm (icells ws) ws.length ex] [] 0) = some (.int .i64 (totalF ws)) := by
  have hb2 : ∀ i, 0 ≤ i → i < ws.length → -1000 ≤ ws.getD i 0 ∧ ws.getD i 0 ≤ 1000 := fun i _ h2 => by
    obtain ⟨w, hw⟩ := at_ex h2
    have := hb i w hw
    simpa [hw] using this
  have hloop := iter_all (f := execA E C (fg 25) 0 17 [] 1000 c25_9) (hd := headA []) (fun i => ([(8, .int .i64 i), (7, .int .i64 ws.length), (6, .imm (icells ws) ws.length ex), (3, .int .i64 (sumF (fun i => ws.getD i 0) 0 (i - 0)))], [])) ws.length 1000 0
    ([(8, .int .i64 0), (7, .int .i64 ws.length), (6, .imm (icells ws) ws.length ex), (3, .int .i64 0)], []) (by simp [headA_nil, sumF]) (by omega) (fun i h1 h2 => by
      have hiw : i < ws.length := by omega
      obtain ⟨w, hws⟩ := at_ex hiw
      obtain ⟨b1, b2⟩ := sumF_bound (M := 1000) (by omega) hb2 (i - 0) (by omega)
      obtain ⟨b3, b4⟩ := hb i w hws
      have hst := sumF_step (fun i => ws.getD i 0) 0 i (by omega)
      have hg : ws.getD i 0 = w := by simp [hws]
      simp only [hg] at hst
      have w2 : wrp .i64 (sumF (fun i => ws.getD i 0) 0 (i - 0) + w) = sumF (fun i => ws.getD i 0) 0 (i + 1 - 0) := by rw [hst]; exact wrp64 (by omega)
      simp only [seqX_normal, bindR_some, regX_some, condX_bool, blockX_normal, run_nil, run_cons, fget_cons', fput_cons', forget_nil, forget_cons', gcM, stp, just, Rd.bind, Rd.run, Rd.opt, upds, tsz, rdCells, aLoad, aIndexAddr, aNum, aBin, aInt, Nat.reduceLT, Nat.reduceBEq, Nat.reduceEqDiff, Nat.reduceLeDiff, ↓reduceIte, reduceCtorEq, decide_true, putD_some, and_true, Int.natCast_nonneg, Int.ofNat_lt, Int.toNat_natCast, List.elem_cons, List.elem_nil, T_3, T_36, x25_10, r25_3_l, s25_3_0, x25_13, x25_14, x25_12, x25_18, r25_4_l, s25_4_0, s25_4_1, s25_4_2, x25_19, r25_5_l, s25_5_0, s25_5_1, s25_5_2, s25_5_3, x25_17, x25_16, x25_20, r25_6_l, s25_6_0, s25_6_1, x25_15, x25_11, x25_9, hiw, icells_length, icells_at hws, Nat.mul_one, w2, wrp_succ (show i < 1000000 by omega)]
      exact ⟨_, rfl, by simp only [headA_nil]⟩) (e := .exit 0) (se := ([(9, .bool false), (8, .int .i64 ws.length), (7, .int .i64 ws.length), (6, .imm (icells ws) ws.length ex), (3, .int .i64 (totalF ws))], [])) (by
      rw [show 0 + ws.length = ws.length by omega]
      simp only [seqX_normal, seqX_exit, bindR_some, regX_some, condX_bool, run_nil, run_cons, fget_cons', fput_cons', forget_nil, forget_cons', gcM, stp, just, Rd.bind, Rd.run, Rd.opt, upds, aBin, aInt, Nat.reduceEqDiff, Nat.reduceLeDiff, ↓reduceIte, decide_false, putD_some, List.elem_nil, x25_10, r25_3_l, s25_3_0, x25_13, x25_14, x25_12, x25_11, x25_9, Int.lt_irrefl, decide_false, Bool.false_eq_true, totalF, Nat.sub_zero]) (by simp)
  simp only [seqX_normal, bindR_some, regX_some, blockX_exit, bodyX_ret, run_nil, run_cons, fget_cons', fput_nil, fput_cons', forget_nil, forget_cons', frame0, gcM, stp, just, Rd.bind, Rd.run, upds, resA, resL, aLen, aBuiltin, Nat.reduceBEq, Nat.reduceEqDiff, Nat.reduceLeDiff, ↓reduceIte, reduceCtorEq, List.getElem?_toArray, putD_some, Option.map_some, List.elem_cons, List.elem_nil, List.getElem?_cons_zero, T_36, x25_1, r25_0_l, s25_0_0, x25_3, r25_1_l, s25_1_0, x25_6, r25_2_l, s25_2_0, s25_2_1, s25_2_2, x25_8, x25_7, x25_5, x25_22, r25_7_l, s25_7_0, s25_7_1, x25_23, x25_21, x25_4, x25_2, x25_0, b_25, hloop]
theorem total_call {d : Nat} {site : Nat → Nat} {seen : List Nat} {ws : List Int} {ex : Bool} (hl : ws.length ≤ 6) (hb : ∀ (i : Nat) (w : Int), ws[i]? = some w → -1000 ≤ w ∧ w ≤ 1000) :
    aBack site true seen (thaw (callA E fg 1000 (d + 1)) 25 [.imm (icells ws) ws.length ex] [] 0) = .pure (.int .i64 (totalF ws), []) := aBack_int (rs_ex (total_run hl hb))
end Go.AM.Ytikchlfbjdfioaa
