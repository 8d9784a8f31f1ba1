/- Moments and their proofs. Own work of this project. -/
import Derived.Test.YtikchlfbjdfioaaPropE
namespace Go.AM.Ytikchlfbjdfioaa
open Go Go.AM
set_option maxRecDepth 100000
set_option maxHeartbeats 1000000

def momTerm (l : List Stone) (ws : List Int) (k : Nat) (side : Int) (i : Nat) : Int := ws.getD i 0 * far side (rightE l k) (leftE l k) (l.getD i default)
def momSum (l : List Stone) (ws : List Int) (k : Nat) (side : Int) : Int := sumF (momTerm l ws k side) k (l.length - k)

theorem momTerm_bound {l : List Stone} {ws : List Int} (h : OkP l) (hw : weighE l ws = 0) {k : Nat} (hk : k ≤ l.length) (side : Int) {i : Nat} (hi : i < l.length) : -2717908992 ≤ momTerm l ws k side i ∧ momTerm l ws k side i ≤ 2717908992 := by
  unfold weighE at hw
  split at hw
  · rename_i hlen
    have hlen : ws.length = l.length := by omega
    obtain ⟨s, hs⟩ := at_ex hi
    obtain ⟨w, hw1⟩ := at_ex (show i < ws.length by omega)
    have hwb := (weighL_fits hlen).1 hw i s w hs hw1
    obtain ⟨_, _, _, _, l1, lm, m9⟩ := h.fits i s hs
    obtain ⟨b1, b2⟩ := far_bound (side := side) (h.fits i s hs) (edge_bounds h hk)
    have hg : l.getD i default = s := by simp [hs]
    have hg2 : ws.getD i 0 = w := by simp [hw1]
    have := mul_bound (w := w) (x := far side (rightE l k) (leftE l k) s) (M := 301989888) (by omega) (by omega) b1 (by omega)
    unfold momTerm
    rw [hg, hg2]
    omega
  · simp at hw
theorem weigh_len {l : List Stone} {ws : List Int} (hw : weighE l ws = 0) : ws.length = l.length := by
  unfold weighE at hw
  split at hw
  · omega
  · simp at hw

theorem momTerm_run {d : Nat} {l : List Stone} {ex : Bool} {ws : List Int} (h : OkP l) (hw : weighE l ws = 0) {k : Nat} (hk : k ≤ l.length) (side : Int) {i : Nat} (hi : i < l.length) :
    rsOf (bodyA E (callA E fg 1000 (d + 1)) fg 1000 62 [.int .i64 i, .int .i64 (ws.getD i 0), .iptr [farV side (rightE l k) (leftE l k)] 0, .iptr [.imm (pcells l) l.length ex] 0] [] 0) = some (.int .i64 (momTerm l ws k side i)) := by
  obtain ⟨s, hs⟩ := at_ex hi
  have hg : l.getD i default = s := by simp [hs]
  obtain ⟨b1, b2⟩ := momTerm_bound h hw hk side hi
  have e : wrp .i64 (ws.getD i 0 * far side (rightE l k) (leftE l k) s) = momTerm l ws k side i := by unfold momTerm at b1 b2 ⊢; rw [hg] at b1 b2 ⊢; exact wrp64 (by omega)
  simp only [sc, seqX_normal, bindR_some, regX_some, Bool.not_true, Bool.not_false, bodyX_ret, run_nil, run_cons, fget_cons', fput_cons', forget_nil, forget_cons', frame0, gcM, just, Rd.bind, Rd.run, Rd.opt, upds, tsz, rdCells, aLoad, resA, resL, aIndexAddr, aNum, aBin, aInt, Nat.reduceAdd, Nat.reduceMul, Nat.reduceLT, Nat.reduceBEq, Nat.reduceEqDiff, Nat.reduceLeDiff, ↓reduceIte, reduceCtorEq, Nat.zero_add, rtX_some, addT_some, drX_some, runT_nil, runT_cons, neat_eq, descF_nil', descF_cons', ascH_nil', stpT, Rd.foot, writing, touching, Tr.empty, dynPairs, List.isEmpty_nil, List.map_nil, Bool.not_false, Bool.not_true, Bool.or_true, Bool.or_false, Bool.and_self, decide_true, putD_some, and_true, Int.natCast_nonneg, Int.ofNat_lt, Int.toNat_natCast, Option.map_some, List.elem_cons, List.elem_nil, List.getElem?_cons_zero, T_27, T_44, T_67, x62_1, r62_0_l, s62_0_0, x62_3, r62_1_l, r62_1_dr, r62_1_an, s62_1_0, s62_1_1, s62_1_2, s62_1_3, s62_1_4, s62_1_5, s62_1_6, s62_1_7, s62_1_8, x62_4, x62_2, x62_0, b_62, hi, pcells_length, pcells_at l i s hs, pcells_off l i hi, callVT_eq (far_pure _ _ _ _), far_ask s side _ _ (h.fits i s hs) (edge_bounds h hk), e]

theorem mom_asks {d : Nat} {l : List Stone} {ex : Bool} {ws : List Int} (h : OkP l) (hw : weighE l ws = 0) {k : Nat} (hk : k ≤ l.length) (side : Int) :
    Asks (callA E fg 1000 (d + 2)) (.clo 62 [.iptr [farV side (rightE l k) (leftE l k)] 0, .iptr [.imm (pcells l) l.length ex] 0]) (fun i => [.int .i64 (ws.getD i 0)]) (momTerm l ws k side) k ws.length := by
  refine ⟨fun _ => rfl, fun site i _ hi => ?_⟩
  have := aBack_int (site := site) (seen := []) (rs_ex (momTerm_run (d := d) (ex := ex) h hw hk side (i := i) (by rw [← weigh_len hw]; exact hi)))
  simp only [opCallV, fi_62, aCall, List.cons_append, List.nil_append, snaps, snap, Rd.bind]
  exact this

theorem moment_run {d : Nat} {l : List Stone} {ex ex' : Bool} {ws : List Int} (h : OkP l) (hw : weighE l ws = 0) {k : Nat} (hk : k ≤ l.length) (side : Int) :
    rsOf (callA E fg 1000 (d + 4) 39 [.imm (pcells l) l.length ex, .imm (icells ws) ws.length ex', .int .i64 k, .int .i64 side] [] 0) = some (.int .i64 (momSum l ws k side)) := by
  have hlen := weigh_len hw
  have hsum : ∀ site seen, aBack site true seen (thaw (callA E fg 1000 (d + 3)) 56 [.imm (icells ws) ws.length ex', .int .i64 k, .clo 62 [.iptr [farV side (rightE l k) (leftE l k)] 0, .iptr [.imm (pcells l) l.length ex] 0]] [] 0) = .pure (.int .i64 (sumF (momTerm l ws k side) k (ws.length - k)), []) := fun site seen =>
    aBack_int (site := site) (seen := seen) (rs_ex (sumI_run (C := callA E fg 1000 (d + 2)) (ex := ex') (by rw [hlen]; exact hk) (by rw [hlen]; exact h.le) (mom_asks (d := d) (ex := ex) h hw hk side) (fun i h1 h2 => by
      obtain ⟨b1, b2⟩ := momTerm_bound h hw hk side (i := i) (by rw [← hlen]; exact h2)
      omega)))
  change rsOf (bodyA E (callA E fg 1000 (d + 3)) fg 1000 39 _ _ _) = _
  have hbc := fun site => beyond_call (d := d + 1) (site := site) (ex := ex) h hk side
  simp only [farV, hlen] at hbc hsum
  simp only [seqX_normal, bindR_some, regX_some, bodyX_ret, run_nil, run_cons, fget_cons', fput_cons', forget_nil, forget_cons', hget_nil', hget_cons', hset_nil', hset_cons', frame0, gcM, stp, opBox, just, Rd.bind, Rd.run, Rd.opt, upds, acells, zeroCells, tsz, rdCells, aLoad, aStore, opStore, resA, resL, fresh, putC, Nat.reduceAdd, Nat.reduceBEq, Nat.reduceEqDiff, Nat.reduceLeDiff, ↓reduceIte, reduceCtorEq, liveBlk_eq, Nat.zero_add, List.nil_append, frz, putD_some, putD_none, and_true, aCall, snaps, snap, List.append_nil, Option.map_some, List.elem_cons, List.elem_nil, List.length_cons, List.length_nil, List.getElem?_cons_zero, List.set_cons_zero, T_27, T_67, x39_1, r39_0_l, s39_0_0, s39_0_1, x39_3, r39_1_l, s39_1_0, s39_1_1, s39_1_2, s39_1_3, s39_1_4, s39_1_5, x39_5, r39_2_l, s39_2_0, s39_2_1, s39_2_2, s39_2_3, s39_2_4, x39_6, x39_4, x39_2, x39_0, b_39, hbc, hsum, momSum, List.cons_append, hlen]
theorem moment_call {d : Nat} {site : Nat → Nat} {seen : List Nat} {l : List Stone} {ex ex' : Bool} {ws : List Int} (h : OkP l) (hw : weighE l ws = 0) {k : Nat} (hk : k ≤ l.length) (side : Int) :
    aBack site true seen (thaw (callA E fg 1000 (d + 4)) 39 [.imm (pcells l) l.length ex, .imm (icells ws) ws.length ex', .int .i64 k, .int .i64 side] [] 0) = .pure (.int .i64 (momSum l ws k side), []) :=
  aBack_int (rs_ex (moment_run h hw hk side))

def momN (l : List Stone) (ws : List Int) (z side : Int) : Int := if sidedE l z side = 0 then if weighE l ws = 0 then momSum l ws z.toNat side else 0 else 0
def momE (l : List Stone) (ws : List Int) (z side : Int) : Int := if sidedE l z side = 0 then weighE l ws else sidedE l z side
theorem isI_imm {a : AV} {ws : List Int} (h : IsI a ws) (hl : 0 < ws.length) : ∃ ex, a = .imm (icells ws) ws.length ex := by
  rcases h with ⟨_, rfl⟩ | h
  · simp at hl
  · exact h
theorem Moment_run {d : Nat} {a b : AV} {l : List Stone} {ws : List Int} (ha : IsP a l) (hb : IsI b ws) (z side : Int) :
    rsOf (callA E fg 1000 (d + 5) 15 [a, b, .int .i64 z, .int .i64 side] [] 0) = some (.tup [.int .i64 (momN l ws z side), .int .i64 (momE l ws z side)]) := by
  change rsOf (bodyA E (callA E fg 1000 (d + 4)) fg 1000 15 _ _ _) = _
  have hc := fun (site : Nat → Nat) seen => sided_call (d := d) (site := site) (seen := seen) ha z side
  by_cases h0 : sidedE l z side = 0
  · obtain ⟨h, z0, z1, _⟩ := sided_zero h0
    obtain ⟨k, rfl⟩ := Int.eq_ofNat_of_zero_le z0
    obtain ⟨ex, rfl⟩ := isP_imm ha h.ne
    have hwc := fun (site : Nat → Nat) seen => weighed_call (d := d + 3) (site := site) (seen := seen) (ex := ex) h hb
    by_cases hw : weighE l ws = 0
    · obtain ⟨ex', rfl⟩ := isI_imm hb (by rw [weigh_len hw]; exact h.ne)
      have hm := fun (site : Nat → Nat) seen => moment_call (d := d) (site := site) (seen := seen) (ex := ex) (ex' := ex') h hw (k := k) (by omega) side
      simp only [seqX_normal, bindR_some, regX_some, condX_bool, bodyX_ret, run_nil, run_cons, fget_cons', fput_cons', forget_nil, forget_cons', frame0, gcM, stp, just, Rd.bind, Rd.run, Rd.opt, upds, resA, resL, aBin, aInt, Nat.reduceAdd, Nat.reduceBEq, Nat.reduceEqDiff, Nat.reduceLeDiff, ↓reduceIte, reduceCtorEq, Nat.zero_add, bne_iff_ne, ne_eq, not_true_eq_false, putD_some, Int.toNat_natCast, aCall, snaps, snap, List.append_nil, Option.map_some, List.elem_cons, List.elem_nil, x15_1, r15_0_l, s15_0_0, s15_0_1, x15_4, r15_1_l, s15_1_0, s15_1_1, s15_1_2, s15_1_3, s15_1_4, x15_6, r15_2_l, s15_2_0, s15_2_1, x15_9, r15_3_l, s15_3_0, s15_3_1, s15_3_2, x15_10, x15_8, x15_11, x15_7, x15_5, x15_3, x15_14, r15_4_l, s15_4_0, s15_4_1, s15_4_2, s15_4_3, x15_16, r15_5_l, s15_5_0, s15_5_1, x15_19, r15_6_l, s15_6_0, s15_6_1, s15_6_2, x15_20, x15_18, x15_21, x15_17, x15_15, x15_13, x15_23, r15_7_l, s15_7_0, s15_7_1, s15_7_2, s15_7_3, s15_7_4, s15_7_5, s15_7_6, x15_24, x15_22, x15_12, x15_2, x15_0, b_15, hc, h0, hwc, hw, hm, momN, momE]
    · rcases hb with ⟨rfl, rfl⟩ | ⟨ex', rfl⟩ <;> simp only [seqX_normal, seqX_ret, bindR_some, regX_some, condX_bool, bodyX_ret, run_nil, run_cons, fget_cons', fput_cons', forget_nil, forget_cons', frame0, gcM, stp, just, Rd.bind, Rd.run, Rd.opt, upds, resA, resL, aBin, aInt, Nat.reduceAdd, Nat.reduceBEq, Nat.reduceEqDiff, Nat.reduceLeDiff, ↓reduceIte, reduceCtorEq, Nat.zero_add, bne_iff_ne, ne_eq, not_true_eq_false, not_false_eq_true, putD_some, aCall, snaps, snap, List.append_nil, Option.map_some, List.elem_cons, List.elem_nil, x15_1, r15_0_l, s15_0_0, s15_0_1, x15_4, r15_1_l, s15_1_0, s15_1_1, s15_1_2, s15_1_3, s15_1_4, x15_6, r15_2_l, s15_2_0, s15_2_1, x15_9, r15_3_l, s15_3_0, s15_3_1, s15_3_2, x15_10, x15_8, x15_11, x15_7, x15_5, x15_3, x15_14, r15_4_l, s15_4_0, s15_4_1, s15_4_2, s15_4_3, x15_16, r15_5_l, s15_5_0, s15_5_1, x15_19, r15_6_l, s15_6_0, s15_6_1, s15_6_2, x15_20, x15_18, x15_21, x15_17, x15_15, x15_13, x15_12, x15_2, x15_0, b_15, hc, h0, hwc, hw, momN, momE]
  · rcases ha with ⟨rfl, rfl⟩ | ⟨ex, rfl⟩ <;> simp only [seqX_normal, seqX_ret, bindR_some, regX_some, condX_bool, bodyX_ret, run_nil, run_cons, fget_cons', fput_cons', forget_nil, forget_cons', frame0, gcM, stp, just, Rd.bind, Rd.run, Rd.opt, upds, resA, resL, aBin, aInt, Nat.reduceAdd, Nat.reduceBEq, Nat.reduceEqDiff, Nat.reduceLeDiff, ↓reduceIte, reduceCtorEq, Nat.zero_add, bne_iff_ne, ne_eq, not_false_eq_true, putD_some, aCall, snaps, snap, List.append_nil, Option.map_some, List.elem_cons, List.elem_nil, x15_1, r15_0_l, s15_0_0, s15_0_1, x15_4, r15_1_l, s15_1_0, s15_1_1, s15_1_2, s15_1_3, s15_1_4, x15_6, r15_2_l, s15_2_0, s15_2_1, x15_9, r15_3_l, s15_3_0, s15_3_1, s15_3_2, x15_10, x15_8, x15_11, x15_7, x15_5, x15_3, x15_2, x15_0, b_15, hc, h0, momN, momE]
theorem Moment_call {d : Nat} {site : Nat → Nat} {seen : List Nat} {a b : AV} {l : List Stone} {ws : List Int} (ha : IsP a l) (hb : IsI b ws) (z side : Int) :
    aBack site true seen (thaw (callA E fg 1000 (d + 5)) 15 [a, b, .int .i64 z, .int .i64 side] [] 0) = .pure (.tup [.int .i64 (momN l ws z side), .int .i64 (momE l ws z side)], []) :=
  aBack_ints (rs_ex (Moment_run ha hb z side))

def provesE (l : List Stone) (ws : List Int) (z : Int) : Int :=
  if foundE l z = 0 then if weighE l ws = 0 then if (if momSum l ws z.toNat (-1) > momSum l ws z.toNat 1 then momSum l ws z.toNat (-1) else momSum l ws z.toNat 1) ≤ 0 then 14 else 0 else weighE l ws else foundE l z
theorem proves_run {d : Nat} {a b : AV} {l : List Stone} {ws : List Int} (ha : IsP a l) (hb : IsI b ws) (z : Int) :
    rsOf (callA E fg 1000 (d + 5) 19 [a, b, .int .i64 z] [] 0) = some (.int .i64 (provesE l ws z)) := by
  change rsOf (bodyA E (callA E fg 1000 (d + 4)) fg 1000 19 _ _ _) = _
  have hc := fun (site : Nat → Nat) seen => found_call (d := d + 1) (site := site) (seen := seen) ha z
  by_cases h0 : foundE l z = 0
  · obtain ⟨h, z0, z1⟩ := found_zero.1 h0
    obtain ⟨k, rfl⟩ := Int.eq_ofNat_of_zero_le z0
    obtain ⟨ex, rfl⟩ := isP_imm ha h.ne
    have hwc := fun (site : Nat → Nat) seen => weighed_call (d := d + 3) (site := site) (seen := seen) (ex := ex) h hb
    by_cases hw : weighE l ws = 0
    · obtain ⟨ex', rfl⟩ := isI_imm hb (by rw [weigh_len hw]; exact h.ne)
      have hm := fun (site : Nat → Nat) seen side => moment_call (d := d) (site := site) (seen := seen) (ex := ex) (ex' := ex') h hw (k := k) (by omega) side
      simp only [seqX_normal, seqX_ret, seqX_ite, bindR_some, regX_some, condX_bool, bodyX_ite, bodyX_ret, run_nil, run_cons, fget_cons', fput_nil, fput_cons', forget_nil, forget_cons', frame0, gcM, stp, justO, just, Rd.bind, Rd.run, Rd.opt, upds, resA, resL, aBuiltin, aMax, aBin, aInt, Nat.reduceAdd, Nat.reduceBEq, Nat.reduceEqDiff, Nat.reduceLeDiff, Int.reduceNeg, ↓reduceIte, reduceCtorEq, decide_eq_true_eq, Nat.zero_add, rs_ite, m_int, bne_iff_ne, ne_eq, not_true_eq_false, putD_some, Int.toNat_natCast, aCall, snaps, snap, List.append_nil, Option.map_some, List.elem_cons, List.elem_nil, x19_1, r19_0_l, s19_0_0, x19_4, r19_1_l, s19_1_0, s19_1_1, s19_1_2, s19_1_3, x19_6, r19_2_l, s19_2_0, s19_2_1, x19_9, r19_3_l, s19_3_0, s19_3_1, x19_10, x19_8, x19_11, x19_7, x19_5, x19_3, x19_14, r19_4_l, s19_4_0, s19_4_1, s19_4_2, s19_4_3, x19_16, r19_5_l, s19_5_0, s19_5_1, x19_19, r19_6_l, s19_6_0, s19_6_1, x19_20, x19_18, x19_21, x19_17, x19_15, x19_13, x19_24, r19_7_l, s19_7_0, s19_7_1, s19_7_2, s19_7_3, s19_7_4, s19_7_5, s19_7_6, s19_7_7, s19_7_8, s19_7_9, x19_27, r19_8_l, s19_8_0, x19_28, x19_26, x19_29, x19_25, x19_23, x19_31, r19_9_l, s19_9_0, x19_32, x19_30, x19_22, x19_12, x19_2, x19_0, b_19, hc, h0, hwc, hw, hm, provesE]
    · rcases hb with ⟨rfl, rfl⟩ | ⟨ex', rfl⟩ <;> simp only [seqX_normal, seqX_ret, bindR_some, regX_some, condX_bool, bodyX_ret, run_nil, run_cons, fget_cons', fput_cons', forget_nil, forget_cons', frame0, gcM, stp, just, Rd.bind, Rd.run, Rd.opt, upds, resA, resL, aBin, aInt, Nat.reduceAdd, Nat.reduceBEq, Nat.reduceEqDiff, Nat.reduceLeDiff, ↓reduceIte, reduceCtorEq, Nat.zero_add, bne_iff_ne, ne_eq, not_true_eq_false, not_false_eq_true, putD_some, aCall, snaps, snap, List.append_nil, Option.map_some, List.elem_cons, List.elem_nil, x19_1, r19_0_l, s19_0_0, x19_4, r19_1_l, s19_1_0, s19_1_1, s19_1_2, s19_1_3, x19_6, r19_2_l, s19_2_0, s19_2_1, x19_9, r19_3_l, s19_3_0, s19_3_1, x19_10, x19_8, x19_11, x19_7, x19_5, x19_3, x19_14, r19_4_l, s19_4_0, s19_4_1, s19_4_2, s19_4_3, x19_16, r19_5_l, s19_5_0, s19_5_1, x19_19, r19_6_l, s19_6_0, s19_6_1, x19_20, x19_18, x19_21, x19_17, x19_15, x19_13, x19_12, x19_2, x19_0, b_19, hc, h0, hwc, hw, provesE]
  · rcases ha with ⟨rfl, rfl⟩ | ⟨ex, rfl⟩ <;> simp only [seqX_normal, seqX_ret, bindR_some, regX_some, condX_bool, bodyX_ret, run_nil, run_cons, fget_cons', fput_cons', forget_nil, forget_cons', frame0, gcM, stp, just, Rd.bind, Rd.run, Rd.opt, upds, resA, resL, aBin, aInt, Nat.reduceAdd, Nat.reduceBEq, Nat.reduceEqDiff, Nat.reduceLeDiff, ↓reduceIte, reduceCtorEq, Nat.zero_add, bne_iff_ne, ne_eq, not_false_eq_true, putD_some, aCall, snaps, snap, List.append_nil, Option.map_some, List.elem_cons, List.elem_nil, x19_1, r19_0_l, s19_0_0, x19_4, r19_1_l, s19_1_0, s19_1_1, s19_1_2, s19_1_3, x19_6, r19_2_l, s19_2_0, s19_2_1, x19_9, r19_3_l, s19_3_0, s19_3_1, x19_10, x19_8, x19_11, x19_7, x19_5, x19_3, x19_2, x19_0, b_19, hc, h0, provesE]
theorem proves_call {d : Nat} {site : Nat → Nat} {seen : List Nat} {a b : AV} {l : List Stone} {ws : List Int} (ha : IsP a l) (hb : IsI b ws) (z : Int) :
    aBack site true seen (thaw (callA E fg 1000 (d + 5)) 19 [a, b, .int .i64 z] [] 0) = .pure (.int .i64 (provesE l ws z), []) :=
  aBack_int (rs_ex (proves_run ha hb z))
end Go.AM.Ytikchlfbjdfioaa
