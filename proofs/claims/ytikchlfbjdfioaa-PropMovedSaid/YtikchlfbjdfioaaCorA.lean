/- Corners: the visits of the law's 'weak'. Own work of this project. -/
import Derived.Test.YtikchlfbjdfioaaMadeA
import Derived.Test.YtikchlfbjdfioaaSyD
namespace Go.AM.Ytikchlfbjdfioaa
open Go Go.AM
set_option maxRecDepth 100000
set_option maxHeartbeats 4000000

def bitI (set i : Nat) : Int := if set.testBit i = true then 1 else 0
theorem bit_and : ∀ set : Nat, set < 32 → ∀ i : Nat, i < 5 → bk .i64 (bt .i64 ((set : Int).fdiv (pw2 (min i 64))) &&& bt .i64 1) = .int .i64 (bitI set i) := by
  intro set hs i hi
  have key : ∀ (set : Fin 32) (i : Fin 5), bk .i64 (bt .i64 (((set : Nat) : Int).fdiv (pw2 (min (i : Nat) 64))) &&& bt .i64 1) = .int .i64 (bitI set i) := by
    intro set i
    simp only [bk, AV.int.injEq, true_and]
    revert set i
    decide +kernel
  exact key ⟨set, hs⟩ ⟨i, hi⟩
def cw (l : List Stone) (set i : Nat) : Int := if set.testBit i = true then (l.getD i default).most else (l.getD i default).least
def cwI (l : List Stone) (set i : Nat) : List Int := (List.range i).map (cw l set)
theorem cwI_length (l set i) : (cwI l set i).length = i := by simp [cwI]
theorem cwI_succ (l set i) : cwI l set (i + 1) = cwI l set i ++ [cw l set i] := by simp [cwI, List.range_succ]
theorem cwI_at {l : List Stone} {set n i : Nat} (h : i < n) : (cwI l set n)[i]? = some (cw l set i) := by simp [cwI, h]
theorem cw_weigh {l : List Stone} (h : OkP l) (set : Nat) : weighE l (cwI l set l.length) = 0 := by
  have hz : ∀ {l : List Stone} {ws : List Int}, (∀ (i : Nat) (s : Stone) (w : Int), l[i]? = some s → ws[i]? = some w → s.least ≤ w ∧ w ≤ s.most) → weighL l ws = 0 := by
    intro l
    induction l with
    | nil => intro ws _; unfold weighL; rfl
    | cons s l ih =>
      intro ws hh
      cases ws with
      | nil => unfold weighL; rfl
      | cons w ws =>
        have h0 := hh 0 s w rfl rfl
        simp only [weighL]
        rw [if_neg (by omega), if_neg (by omega)]
        exact ih fun i s w h1 h2 => hh (i + 1) s w (by simpa using h1) (by simpa using h2)
  unfold weighE
  rw [if_pos (by rw [cwI_length])]
  refine hz fun i s w h1 h2 => ?_
  have hi := at_lt h1
  rw [cwI_at hi] at h2
  obtain rfl := Option.some.inj h2
  obtain ⟨_, _, _, _, l1, lm, m9⟩ := h.fits i s h1
  simp only [cw, List.getD_eq_getElem?_getD, h1, Option.getD_some]
  split <;> omega

/-- Where the first weight's list lies. -/
def cid (set : Nat) : Nat := if set.testBit 0 = true then 158 else 163
abbrev wkH (l : List Stone) (ex : Bool) (k : Nat) (b : Bool) : AHeap := [(1, ⟨.box, [.imm (pcells l) l.length ex]⟩), (3, ⟨.box, [.int .i64 k]⟩), (4, ⟨.box, [.bool b]⟩)]

theorem wk_round {C : Callee} {l : List Stone} {ex : Bool} (h : OkP l) (k : Nat) (b b0 : Bool) (set n2 : Nat) (hset : set < 32) (i : Nat) (hi : i < l.length) (out : List Int) (ho : out.length = i) :
    ∃ s', execA E C (fg 16) 128 41 (wkH l ex k b0) 1000 c16_21 ([(16, .int .i64 i), (15, .int .i64 l.length), (14, .imm (pcells l) l.length ex), (11, .int .i64 set), (10, .int .i64 n2), (5, outV (cid set) out), (4, .int .i64 set), (1, .clo 32 [.ptr 1 0 1, .ptr 3 0 1, .ptr 4 0 1]), (0, .imm (pcells l) l.length ex)], wkH l ex k b ++ outH (cid set) out) = some (.normal, s') ∧
      headA (wkH l ex k b0) s' = ([(16, .int .i64 (i + 1 : Nat)), (15, .int .i64 l.length), (14, .imm (pcells l) l.length ex), (11, .int .i64 set), (10, .int .i64 n2), (5, outV (cid set) (out ++ [cw l set i])), (4, .int .i64 set), (1, .clo 32 [.ptr 1 0 1, .ptr 3 0 1, .ptr 4 0 1]), (0, .imm (pcells l) l.length ex)], wkH l ex k b ++ outH (cid set) (out ++ [cw l set i])) := by
  obtain ⟨s, hs⟩ := at_ex hi
  have hle := h.le
  have hs' : l.getD i default = s := by simp [hs]
  have hba := bit_and set hset i (by omega)
  have hbits : IntKind.i64.bits = 64 := rfl
  have hin : ¬ (i : Int) < 0 := by omega
  have e : cw l set i = if set.testBit i = true then s.most else s.least := by rw [cw, hs']
  rw [e]
  cases out with
  | nil =>
    have h0 : i = 0 := by simpa using ho.symm
    simp only [outV, outH, List.nil_append, List.append_nil]
    by_cases hb : set.testBit i = true
    · have hbi : bitI set i = 1 := by rw [bitI, if_pos hb]
      rw [hbi] at hba
      have hc : cid set = 158 := by rw [cid, ← h0, if_pos hb]
      rw [if_pos hb, hc]
      simp only [seqX_normal, bindR_some, regX_some, condX_bool, blockX_normal, run_nil, run_cons, fget_cons', fput_cons', forget_nil, forget_cons', hget_nil', hget_cons', hset_nil', hset_cons', gcM, stp, opBox, just, Rd.bind, Rd.run, Rd.opt, upds, acells, zeroCells, tsz, elemT, rdCells, fieldOf, aFieldAddr, aLoad, aStore, opStore, fresh, aIndexAddr, aNum, aBuiltin, aBin, aInt, putC, evO, Nat.reduceAdd, Nat.reduceLT, Nat.reduceGT, Nat.reduceBEq, Nat.reduceEqDiff, Nat.reduceLeDiff, ↓reduceIte, reduceCtorEq, liveBlk_eq, Nat.zero_add, ne_eq, List.nil_append, List.getElem?_toArray, decide_true, not_true_eq_false, or_self, aBuildSlice, partsOf, fillA, repC, frz, isSliceT, aAppend, srcOf, window, putD_some, putD_none, and_true, Int.natCast_nonneg, Int.ofNat_lt, Int.toNat_natCast, snaps, snap, List.append_nil, List.elem_cons, List.elem_nil, List.length_cons, List.length_nil, List.getElem?_cons_zero, List.getElem?_cons_succ, List.drop_zero, List.take_succ_cons, List.take_nil, List.set_cons_zero, List.set_cons_succ, T_3, T_27, T_36, T_44, x16_22, r16_5_l, s16_5_0, x16_25, x16_26, x16_24, x16_30, r16_6_l, s16_6_0, s16_6_1, s16_6_2, s16_6_3, s16_6_4, s16_6_5, x16_32, r16_7_l, s16_7_0, s16_7_1, s16_7_2, s16_7_3, s16_7_4, x16_34, r16_8_l, s16_8_0, s16_8_1, s16_8_2, s16_8_3, s16_8_4, s16_8_5, x16_35, r16_9_l, s16_9_0, s16_9_1, s16_9_2, s16_9_3, s16_9_4, s16_9_5, x16_33, x16_31, x16_29, x16_28, x16_36, r16_10_l, s16_10_0, s16_10_1, x16_27, x16_23, x16_21, wkH, hi, pcells_length, pcells_at l i s hs, sc, pcells_off l i hi, aShift, hbits, hba, hin, Nat.mul_one, wrp_succ (show i < 1000000 by omega), fillA, beq_self_eq_true, room3 (show 1 ≤ 1000000 by omega), List.cons_append]
      exact ⟨_, rfl, rfl⟩
    · have hbi : bitI set i = 0 := by rw [bitI, if_neg hb]
      rw [hbi] at hba
      have hc : cid set = 163 := by rw [cid, ← h0, if_neg hb]
      rw [if_neg hb, hc]
      simp only [seqX_normal, bindR_some, regX_some, condX_bool, blockX_normal, run_nil, run_cons, fget_cons', fput_cons', forget_nil, forget_cons', hget_nil', hget_cons', hset_nil', hset_cons', gcM, stp, opBox, just, Rd.bind, Rd.run, Rd.opt, upds, acells, zeroCells, tsz, elemT, rdCells, fieldOf, aFieldAddr, aLoad, aStore, opStore, fresh, aIndexAddr, aNum, aBuiltin, aBin, aInt, putC, evO, Nat.reduceAdd, Nat.reduceLT, Nat.reduceGT, Nat.reduceBEq, Nat.reduceEqDiff, Nat.reduceLeDiff, ↓reduceIte, reduceCtorEq, liveBlk_eq, Nat.zero_add, ne_eq, List.nil_append, List.getElem?_toArray, decide_true, not_true_eq_false, or_self, aBuildSlice, partsOf, fillA, repC, frz, isSliceT, aAppend, srcOf, window, putD_some, putD_none, and_true, Int.natCast_nonneg, Int.ofNat_lt, Int.toNat_natCast, snaps, snap, List.append_nil, List.elem_cons, List.elem_nil, List.length_cons, List.length_nil, List.getElem?_cons_zero, List.getElem?_cons_succ, List.drop_zero, List.take_succ_cons, List.take_nil, List.set_cons_zero, List.set_cons_succ, T_3, T_27, T_36, T_44, x16_22, r16_5_l, s16_5_0, x16_25, x16_26, x16_24, x16_30, r16_6_l, s16_6_0, s16_6_1, s16_6_2, s16_6_3, s16_6_4, s16_6_5, x16_32, r16_7_l, s16_7_0, s16_7_1, s16_7_2, s16_7_3, s16_7_4, x16_34, r16_8_l, s16_8_0, s16_8_1, s16_8_2, s16_8_3, s16_8_4, s16_8_5, x16_35, r16_9_l, s16_9_0, s16_9_1, s16_9_2, s16_9_3, s16_9_4, s16_9_5, x16_33, x16_31, x16_29, x16_28, x16_36, r16_10_l, s16_10_0, s16_10_1, x16_27, x16_23, x16_21, wkH, hi, pcells_length, pcells_at l i s hs, sc, pcells_off l i hi, aShift, hbits, hba, hin, Nat.mul_one, wrp_succ (show i < 1000000 by omega), fillA, beq_self_eq_true, Int.reduceBEq, room3 (show 1 ≤ 1000000 by omega), List.cons_append]
      exact ⟨_, rfl, rfl⟩
  | cons a o =>
    have hlen : (icells (a :: o)).length = o.length + 1 := by simp [icells]
    have hno : ¬ o.length + 1 + 1 ≤ o.length + 1 := by omega
    have ho2 : o.length + 1 = i := by simpa using ho
    have hl2 : ∀ z : Int, (o ++ [z]).length = o.length + 1 := fun z => by simp
    have hcid : cid set = 158 ∨ cid set = 163 := by unfold cid; split <;> simp
    simp only [outV, outH, List.cons_append, hl2]
    by_cases hb : set.testBit i = true
    · have hbi : bitI set i = 1 := by rw [bitI, if_pos hb]
      rw [hbi] at hba
      rw [if_pos hb]
      rcases hcid with hc | hc <;> rw [hc]
      · simp only [seqX_normal, bindR_some, regX_some, condX_bool, blockX_normal, run_nil, run_cons, fget_cons', fput_cons', forget_nil, forget_cons', hget_nil', hget_cons', hset_nil', hset_cons', gcM, stp, opBox, just, Rd.bind, Rd.run, Rd.opt, upds, acells, zeroCells, tsz, elemT, rdCells, fieldOf, aFieldAddr, aLoad, aStore, opStore, fresh, aIndexAddr, aNum, aBuiltin, aBin, aInt, putC, evO, Nat.reduceAdd, Nat.reduceLT, Nat.reduceGT, Nat.reduceBEq, Nat.reduceEqDiff, Nat.reduceLeDiff, ↓reduceIte, reduceCtorEq, liveBlk_eq, Nat.zero_add, ne_eq, List.nil_append, List.getElem?_toArray, decide_true, not_true_eq_false, or_self, aBuildSlice, partsOf, fillA, repC, frz, isSliceT, aAppend, srcOf, window, putD_some, putD_none, and_true, Int.natCast_nonneg, Int.ofNat_lt, Int.toNat_natCast, snaps, snap, List.append_nil, List.elem_cons, List.elem_nil, List.length_cons, List.length_nil, List.getElem?_cons_zero, List.getElem?_cons_succ, List.drop_zero, List.take_succ_cons, List.take_nil, List.set_cons_zero, List.set_cons_succ, T_3, T_27, T_36, T_44, x16_22, r16_5_l, s16_5_0, x16_25, x16_26, x16_24, x16_30, r16_6_l, s16_6_0, s16_6_1, s16_6_2, s16_6_3, s16_6_4, s16_6_5, x16_32, r16_7_l, s16_7_0, s16_7_1, s16_7_2, s16_7_3, s16_7_4, x16_34, r16_8_l, s16_8_0, s16_8_1, s16_8_2, s16_8_3, s16_8_4, s16_8_5, x16_35, r16_9_l, s16_9_0, s16_9_1, s16_9_2, s16_9_3, s16_9_4, s16_9_5, x16_33, x16_31, x16_29, x16_28, x16_36, r16_10_l, s16_10_0, s16_10_1, x16_27, x16_23, x16_21, wkH, hi, pcells_length, pcells_at l i s hs, sc, pcells_off l i hi, aShift, hbits, hba, hin, Nat.mul_one, wrp_succ (show i < 1000000 by omega), fillA, beq_self_eq_true, room3 (show o.length + 1 + 1 ≤ 1000000 by omega), hlen, hno, take_icells, icells_snoc, Nat.le_refl, List.cons_append]
        exact ⟨_, rfl, rfl⟩
      · simp only [seqX_normal, bindR_some, regX_some, condX_bool, blockX_normal, run_nil, run_cons, fget_cons', fput_cons', forget_nil, forget_cons', hget_nil', hget_cons', hset_cons', gcM, stp, opBox, just, Rd.bind, Rd.run, Rd.opt, upds, acells, zeroCells, tsz, elemT, rdCells, fieldOf, aFieldAddr, aLoad, aStore, opStore, fresh, aIndexAddr, aNum, aBuiltin, aBin, aInt, putC, evO, Nat.reduceAdd, Nat.reduceLT, Nat.reduceGT, Nat.reduceBEq, Nat.reduceEqDiff, Nat.reduceLeDiff, ↓reduceIte, reduceCtorEq, liveBlk_eq, Nat.zero_add, ne_eq, List.nil_append, List.getElem?_toArray, decide_true, not_true_eq_false, or_self, aBuildSlice, partsOf, fillA, repC, frz, isSliceT, aAppend, srcOf, window, putD_some, putD_none, and_true, Int.natCast_nonneg, Int.ofNat_lt, Int.toNat_natCast, snaps, snap, List.append_nil, List.elem_cons, List.elem_nil, List.length_cons, List.length_nil, List.getElem?_cons_zero, List.getElem?_cons_succ, List.drop_zero, List.take_succ_cons, List.take_nil, List.set_cons_zero, List.set_cons_succ, T_3, T_27, T_36, T_44, x16_22, r16_5_l, s16_5_0, x16_25, x16_26, x16_24, x16_30, r16_6_l, s16_6_0, s16_6_1, s16_6_2, s16_6_3, s16_6_4, s16_6_5, x16_32, r16_7_l, s16_7_0, s16_7_1, s16_7_2, s16_7_3, s16_7_4, x16_34, r16_8_l, s16_8_0, s16_8_1, s16_8_2, s16_8_3, s16_8_4, s16_8_5, x16_35, r16_9_l, s16_9_0, s16_9_1, s16_9_2, s16_9_3, s16_9_4, s16_9_5, x16_33, x16_31, x16_29, x16_28, x16_36, r16_10_l, s16_10_0, s16_10_1, x16_27, x16_23, x16_21, wkH, hi, pcells_length, pcells_at l i s hs, sc, pcells_off l i hi, aShift, hbits, hba, hin, Nat.mul_one, wrp_succ (show i < 1000000 by omega), fillA, beq_self_eq_true, room3 (show o.length + 1 + 1 ≤ 1000000 by omega), hlen, hno, take_icells, icells_snoc, Nat.le_refl, List.cons_append]
        exact ⟨_, rfl, rfl⟩
    · have hbi : bitI set i = 0 := by rw [bitI, if_neg hb]
      rw [hbi] at hba
      rw [if_neg hb]
      rcases hcid with hc | hc <;> rw [hc]
      · simp only [seqX_normal, bindR_some, regX_some, condX_bool, blockX_normal, run_nil, run_cons, fget_cons', fput_cons', forget_nil, forget_cons', hget_nil', hget_cons', hset_nil', hset_cons', gcM, stp, opBox, just, Rd.bind, Rd.run, Rd.opt, upds, acells, zeroCells, tsz, elemT, rdCells, fieldOf, aFieldAddr, aLoad, aStore, opStore, fresh, aIndexAddr, aNum, aBuiltin, aBin, aInt, putC, evO, Nat.reduceAdd, Nat.reduceLT, Nat.reduceGT, Nat.reduceBEq, Nat.reduceEqDiff, Nat.reduceLeDiff, ↓reduceIte, reduceCtorEq, liveBlk_eq, Nat.zero_add, ne_eq, List.nil_append, List.getElem?_toArray, decide_true, not_true_eq_false, or_self, aBuildSlice, partsOf, fillA, repC, frz, isSliceT, aAppend, srcOf, window, putD_some, putD_none, and_true, Int.natCast_nonneg, Int.ofNat_lt, Int.toNat_natCast, snaps, snap, List.append_nil, List.elem_cons, List.elem_nil, List.length_cons, List.length_nil, List.getElem?_cons_zero, List.getElem?_cons_succ, List.drop_zero, List.take_succ_cons, List.take_nil, List.set_cons_zero, List.set_cons_succ, T_3, T_27, T_36, T_44, x16_22, r16_5_l, s16_5_0, x16_25, x16_26, x16_24, x16_30, r16_6_l, s16_6_0, s16_6_1, s16_6_2, s16_6_3, s16_6_4, s16_6_5, x16_32, r16_7_l, s16_7_0, s16_7_1, s16_7_2, s16_7_3, s16_7_4, x16_34, r16_8_l, s16_8_0, s16_8_1, s16_8_2, s16_8_3, s16_8_4, s16_8_5, x16_35, r16_9_l, s16_9_0, s16_9_1, s16_9_2, s16_9_3, s16_9_4, s16_9_5, x16_33, x16_31, x16_29, x16_28, x16_36, r16_10_l, s16_10_0, s16_10_1, x16_27, x16_23, x16_21, wkH, hi, pcells_length, pcells_at l i s hs, sc, pcells_off l i hi, aShift, hbits, hba, hin, Nat.mul_one, wrp_succ (show i < 1000000 by omega), fillA, beq_self_eq_true, Int.reduceBEq, room3 (show o.length + 1 + 1 ≤ 1000000 by omega), hlen, hno, take_icells, icells_snoc, Nat.le_refl, List.cons_append]
        exact ⟨_, rfl, rfl⟩
      · simp only [seqX_normal, bindR_some, regX_some, condX_bool, blockX_normal, run_nil, run_cons, fget_cons', fput_cons', forget_nil, forget_cons', hget_nil', hget_cons', hset_cons', gcM, stp, opBox, just, Rd.bind, Rd.run, Rd.opt, upds, acells, zeroCells, tsz, elemT, rdCells, fieldOf, aFieldAddr, aLoad, aStore, opStore, fresh, aIndexAddr, aNum, aBuiltin, aBin, aInt, putC, evO, Nat.reduceAdd, Nat.reduceLT, Nat.reduceGT, Nat.reduceBEq, Nat.reduceEqDiff, Nat.reduceLeDiff, ↓reduceIte, reduceCtorEq, liveBlk_eq, Nat.zero_add, ne_eq, List.nil_append, List.getElem?_toArray, decide_true, not_true_eq_false, or_self, aBuildSlice, partsOf, fillA, repC, frz, isSliceT, aAppend, srcOf, window, putD_some, putD_none, and_true, Int.natCast_nonneg, Int.ofNat_lt, Int.toNat_natCast, snaps, snap, List.append_nil, List.elem_cons, List.elem_nil, List.length_cons, List.length_nil, List.getElem?_cons_zero, List.getElem?_cons_succ, List.drop_zero, List.take_succ_cons, List.take_nil, List.set_cons_zero, List.set_cons_succ, T_3, T_27, T_36, T_44, x16_22, r16_5_l, s16_5_0, x16_25, x16_26, x16_24, x16_30, r16_6_l, s16_6_0, s16_6_1, s16_6_2, s16_6_3, s16_6_4, s16_6_5, x16_32, r16_7_l, s16_7_0, s16_7_1, s16_7_2, s16_7_3, s16_7_4, x16_34, r16_8_l, s16_8_0, s16_8_1, s16_8_2, s16_8_3, s16_8_4, s16_8_5, x16_35, r16_9_l, s16_9_0, s16_9_1, s16_9_2, s16_9_3, s16_9_4, s16_9_5, x16_33, x16_31, x16_29, x16_28, x16_36, r16_10_l, s16_10_0, s16_10_1, x16_27, x16_23, x16_21, wkH, hi, pcells_length, pcells_at l i s hs, sc, pcells_off l i hi, aShift, hbits, hba, hin, Nat.mul_one, wrp_succ (show i < 1000000 by omega), fillA, beq_self_eq_true, Int.reduceBEq, room3 (show o.length + 1 + 1 ≤ 1000000 by omega), hlen, hno, take_icells, icells_snoc, Nat.le_refl, List.cons_append]
        exact ⟨_, rfl, rfl⟩
end Go.AM.Ytikchlfbjdfioaa
namespace Go.AM
theorem callV_mut {E : Env} {C : Callee} {f : AV} {args : List AV} {g : FuncId} {xs : List AV} (h : mutV E f args = some (g, xs)) (Bn : Nat) (d : Option Nat) (site) (φ H) (keep) : callV E C Bn d site φ H f args keep = mutX d φ (C g xs H Bn) := by
  simp only [callV, h]
end Go.AM
namespace Go.AM.Ytikchlfbjdfioaa
open Go Go.AM
set_option maxRecDepth 100000
set_option maxHeartbeats 4000000

def wkB (l : List Stone) (k : Nat) (w : List Int) : Bool := decide (momSum l w k 1 > 0) || decide (leftM l w k > 0)
def wkAcc (l : List Stone) (k : Nat) : Nat → Bool
  | 0 => false
  | s + 1 => wkAcc l k s || wkB l k (cwI l s l.length)

theorem wk_visit {d : Nat} {l : List Stone} {ex : Bool} (h : OkP l) {k : Nat} (hk : k < l.length) (b : Bool) {id : Nat} (hid : id = 158 ∨ id = 163) {w : List Int} (hw : weighE l w = 0) :
    callA E fg 1000 (d + 2) 32 [.ref id 0 l.length l.length l.length 1 false, .ptr 1 0 1, .ptr 3 0 1, .ptr 4 0 1] (wkH l ex k b ++ [(id, ⟨.row, icells w⟩)]) 456 = some (.tup [], wkH l ex k (b || wkB l k w) ++ [(id, ⟨.row, icells w⟩)]) := by
  change bodyA E (callA E fg 1000 (d + 1)) fg 1000 32 _ _ _ = _
  have hlw := weigh_len hw
  have hm := fun (site : Nat → Nat) seen => moments_call (d := d) (site := site) (seen := seen) (ex := ex) (ex' := false) h hw hk
  simp only [hlw] at hm
  have tw : List.take l.length (icells w) = icells w := List.take_of_length_le (by rw [icells_length, hlw]; exact Nat.le_refl _)
  have lw : (icells w).length = l.length := by rw [icells_length, hlw]
  by_cases hR : momSum l w k 1 > 0 <;> by_cases hL : leftM l w k > 0 <;> cases b <;> rcases hid with rfl | rfl <;>
  simp only [seqX_normal, bindR_some, regX_some, ↓gd, fset_cons, Bool.not_false, bodyX_normal, run_nil, run_cons, fget_cons', fput_cons', forget_nil, forget_cons', hget_cons', hset_cons', frame0, gcM, stp, opPick, justO, just, Rd.bind, Rd.run, Rd.opt, upds, acells, tsz, rdCells, aLoad, aStore, opStore, opExtract, resA, resL, aBin, aInt, putC, Nat.reduceAdd, Nat.reduceBEq, Nat.reduceEqDiff, Nat.reduceLeDiff, ↓reduceIte, reduceCtorEq, liveBlk_eq, Nat.zero_add, List.nil_append, Bool.not_false, Bool.or_true, Bool.or_false, Bool.and_true, decide_true, decide_false, frz, putD_some, putD_none, and_true, aCall, snaps, snap, List.append_nil, Option.map_some, List.elem_cons, List.elem_nil, List.length_cons, List.length_nil, List.getElem?_cons_zero, List.getElem?_cons_succ, List.drop_zero, List.set_cons_zero, T_3, T_27, T_4, x32_1, r32_0_l, s32_0_0, s32_0_1, s32_0_2, s32_0_3, s32_0_4, s32_0_5, s32_0_6, s32_0_7, s32_0_8, x32_2, r32_1_l, s32_1_0, s32_1_1, s32_1_2, s32_1_3, s32_1_4, s32_1_5, s32_1_6, s32_1_7, s32_1_8, s32_1_9, x32_0, b_32, wkH, wkB, hm, hR, hL, tw, lw, Nat.mul_one, Nat.le_refl, List.cons_append, Nat.zero_add, List.set_cons_zero]

theorem weakmut (caps args : List AV) : mutV E (.clo 32 caps) args = some (32, args ++ caps) := rfl
theorem outV_cw {l : List Stone} (h : OkP l) (set : Nat) : outV (cid set) (cwI l set l.length) = .ref (cid set) 0 l.length l.length l.length 1 false ∧ outH (cid set) (cwI l set l.length) = [(cid set, ⟨.row, icells (cwI l set l.length)⟩)] := by
  have := outV_ne (id := cid set) (l := cwI l set l.length) (by rw [cwI_length]; exact h.ne)
  rw [cwI_length] at this
  exact this

theorem wk_outer {d : Nat} {l : List Stone} {ex : Bool} (h : OkP l) {k : Nat} (hk : k < l.length) (b b0 : Bool) (n2 set : Nat) (hset : set < n2) (hn2 : n2 ≤ 32) :
    ∃ s', execA E (callA E fg 1000 (d + 2)) (fg 16) 128 41 (wkH l ex k b0) 1000 c16_4 ([(11, .int .i64 set), (10, .int .i64 n2), (1, .clo 32 [.ptr 1 0 1, .ptr 3 0 1, .ptr 4 0 1]), (0, .imm (pcells l) l.length ex)], wkH l ex k b) = some (.normal, s') ∧
      headA (wkH l ex k b0) s' = ([(11, .int .i64 (set + 1 : Nat)), (10, .int .i64 n2), (1, .clo 32 [.ptr 1 0 1, .ptr 3 0 1, .ptr 4 0 1]), (0, .imm (pcells l) l.length ex)], wkH l ex k (b || wkB l k (cwI l set l.length))) := by
  have hle := h.le
  obtain ⟨e1, e2⟩ := outV_cw h set
  have hcid : cid set = 158 ∨ cid set = 163 := by unfold cid; split <;> simp
  have hvis := wk_visit (d := d) (ex := ex) h hk b hcid (cw_weigh h set)
  have hloop := iter_all (f := execA E (callA E fg 1000 (d + 2)) (fg 16) 128 41 (wkH l ex k b0) 1000 c16_21) (hd := headA (wkH l ex k b0)) (fun i => ([(16, .int .i64 i), (15, .int .i64 l.length), (14, .imm (pcells l) l.length ex), (11, .int .i64 set), (10, .int .i64 n2), (5, outV (cid set) (cwI l set i)), (4, .int .i64 set), (1, .clo 32 [.ptr 1 0 1, .ptr 3 0 1, .ptr 4 0 1]), (0, .imm (pcells l) l.length ex)], wkH l ex k b ++ outH (cid set) (cwI l set i))) l.length 1000 0
    ([(16, .int .i64 0), (15, .int .i64 l.length), (14, .imm (pcells l) l.length ex), (11, .int .i64 set), (10, .int .i64 n2), (5, .nilsl), (4, .int .i64 set), (1, .clo 32 [.ptr 1 0 1, .ptr 3 0 1, .ptr 4 0 1]), (0, .imm (pcells l) l.length ex)], wkH l ex k b) (by rfl) (by omega) (fun i h1 h2 => by
      have := wk_round (C := callA E fg 1000 (d + 2)) (ex := ex) h k b b0 set n2 (by omega) i (by omega) (cwI l set i) (cwI_length l set i)
      rw [cwI_succ]
      exact this) (e := .exit 2) (se := ([(17, .bool false), (16, .int .i64 l.length), (15, .int .i64 l.length), (14, .imm (pcells l) l.length ex), (11, .int .i64 set), (10, .int .i64 n2), (5, .ref (cid set) 0 l.length l.length l.length 1 false), (4, .int .i64 set), (1, .clo 32 [.ptr 1 0 1, .ptr 3 0 1, .ptr 4 0 1]), (0, .imm (pcells l) l.length ex)], wkH l ex k b ++ [(cid set, ⟨.row, icells (cwI l set l.length)⟩)])) (by
      rw [Nat.zero_add]
      simp only [e1, e2]
      simp only [seqX_normal, seqX_exit, bindR_some, regX_some, condX_bool, run_nil, run_cons, fget_cons', fput_cons', forget_nil, forget_cons', gcM, stp, just, Rd.bind, Rd.run, Rd.opt, upds, aBin, aInt, Nat.reduceEqDiff, Nat.reduceLeDiff, ↓reduceIte, decide_false, putD_some, List.elem_nil, x16_22, r16_5_l, s16_5_0, x16_25, x16_26, x16_24, x16_23, x16_21, wkH, Int.lt_irrefl, decide_false, Bool.false_eq_true]) (by simp)
  rcases hcid with hc | hc <;> rw [hc] at hvis hloop <;> simp only [wkH, List.cons_append, List.nil_append] at hvis hloop ⊢
  · simp only [seqX_normal, bindR_some, regX_some, condX_bool, blockX_exit, blockX_normal, run_nil, run_cons, fget_cons', fput_cons', forget_nil, forget_cons', gcM, stp, just, Rd.bind, Rd.run, Rd.opt, upds, aLen, aBuiltin, aBin, aInt, Nat.reduceAdd, Nat.reduceMul, Nat.reduceBEq, Nat.reduceEqDiff, Nat.reduceLeDiff, ↓reduceIte, reduceCtorEq, List.nil_append, List.getElem?_toArray, decide_true, putD_some, Int.ofNat_lt, mutX, List.elem_cons, List.elem_nil, List.getElem?_cons_zero, T_27, x16_5, r16_1_l, s16_1_0, x16_8, x16_9, x16_7, x16_13, r16_2_l, s16_2_0, s16_2_1, x16_15, r16_3_l, s16_3_0, x16_18, r16_4_l, s16_4_0, s16_4_1, s16_4_2, x16_20, x16_19, x16_17, x16_37, r16_11_l, s16_11_0, s16_11_1, s16_11_2, x16_16, x16_14, x16_12, x16_11, x16_38, r16_12_l, s16_12_0, s16_12_1, x16_10, x16_6, x16_4, hset, hloop, callV_mut (weakmut _ _), List.cons_append, List.nil_append, hvis, wrp_succ (show set < 1000000 by omega)]
    exact ⟨_, rfl, rfl⟩
  · simp only [seqX_normal, bindR_some, regX_some, condX_bool, blockX_exit, blockX_normal, run_nil, run_cons, fget_cons', fput_cons', forget_nil, forget_cons', gcM, stp, just, Rd.bind, Rd.run, Rd.opt, upds, aLen, aBuiltin, aBin, aInt, Nat.reduceAdd, Nat.reduceMul, Nat.reduceBEq, Nat.reduceEqDiff, Nat.reduceLeDiff, ↓reduceIte, reduceCtorEq, List.nil_append, List.getElem?_toArray, decide_true, putD_some, Int.ofNat_lt, mutX, List.elem_cons, List.elem_nil, List.getElem?_cons_zero, T_27, x16_5, r16_1_l, s16_1_0, x16_8, x16_9, x16_7, x16_13, r16_2_l, s16_2_0, s16_2_1, x16_15, r16_3_l, s16_3_0, x16_18, r16_4_l, s16_4_0, s16_4_1, s16_4_2, x16_20, x16_19, x16_17, x16_37, r16_11_l, s16_11_0, s16_11_1, s16_11_2, x16_16, x16_14, x16_12, x16_11, x16_38, r16_12_l, s16_12_0, s16_12_1, x16_10, x16_6, x16_4, hset, hloop, callV_mut (weakmut _ _), List.cons_append, List.nil_append, hvis, wrp_succ (show set < 1000000 by omega)]
    exact ⟨_, rfl, rfl⟩

theorem corners_run {d : Nat} {l : List Stone} {ex : Bool} (h : OkP l) {k : Nat} (hk : k < l.length) :
    callA E fg 1000 (d + 3) 16 [.imm (pcells l) l.length ex, .clo 32 [.ptr 1 0 1, .ptr 3 0 1, .ptr 4 0 1]] (wkH l ex k false) 128 = some (.tup [], wkH l ex k (wkAcc l k (2 ^ l.length))) := by
  change bodyA E (callA E fg 1000 (d + 2)) fg 1000 16 _ _ _ = _
  have hle := h.le
  have h32 : 2 ^ l.length ≤ 32 := by
    have : 2 ^ l.length ≤ 2 ^ 5 := Nat.pow_le_pow_right (by omega) hle
    simpa using this
  have hsh : wrp .i64 (1 * pw2 (min l.length 64)) = ((2 ^ l.length : Nat) : Int) := by
    rw [show min l.length 64 = l.length by omega, pw2, Int.one_mul]
    generalize 2 ^ l.length = N at h32 ⊢
    exact wrp64 (by omega)
  have hbits : IntKind.i64.bits = 64 := rfl
  have hln : ¬ (l.length : Int) < 0 := by omega
  have hloop := iter_all (f := execA E (callA E fg 1000 (d + 2)) (fg 16) 128 41 (wkH l ex k false) 1000 c16_4) (hd := headA (wkH l ex k false)) (fun s => ([(11, .int .i64 s), (10, .int .i64 (2 ^ l.length : Nat)), (1, .clo 32 [.ptr 1 0 1, .ptr 3 0 1, .ptr 4 0 1]), (0, .imm (pcells l) l.length ex)], wkH l ex k (wkAcc l k s))) (2 ^ l.length) 1000 0
    ([(11, .int .i64 0), (10, .int .i64 (2 ^ l.length : Nat)), (1, .clo 32 [.ptr 1 0 1, .ptr 3 0 1, .ptr 4 0 1]), (0, .imm (pcells l) l.length ex)], wkH l ex k false) (by rfl) (by omega) (fun s h1 h2 => by
      exact wk_outer (d := d) (ex := ex) h hk (wkAcc l k s) false (2 ^ l.length) s (by omega) h32) (e := .exit 0) (se := ([(12, .bool false), (11, .int .i64 (2 ^ l.length : Nat)), (10, .int .i64 (2 ^ l.length : Nat)), (1, .clo 32 [.ptr 1 0 1, .ptr 3 0 1, .ptr 4 0 1]), (0, .imm (pcells l) l.length ex)], wkH l ex k (wkAcc l k (2 ^ l.length)))) (by
      rw [Nat.zero_add]
      simp only [seqX_normal, seqX_exit, bindR_some, regX_some, condX_bool, run_nil, run_cons, fget_cons', fput_cons', forget_nil, forget_cons', gcM, stp, just, Rd.bind, Rd.run, Rd.opt, upds, aBin, aInt, Nat.reduceEqDiff, Nat.reduceLeDiff, ↓reduceIte, decide_false, putD_some, List.elem_nil, x16_5, r16_1_l, s16_1_0, x16_8, x16_9, x16_7, x16_6, x16_4, Int.lt_irrefl, decide_false, Bool.false_eq_true]) (by simp)
  simp only [seqX_normal, bindR_some, regX_some, blockX_exit, bodyX_normal, run_nil, run_cons, fget_cons', fput_cons', forget_nil, forget_cons', frame0, gcM, stp, just, Rd.bind, Rd.run, Rd.opt, upds, resA, resL, aLen, aBuiltin, aBin, Nat.reduceBEq, Nat.reduceEqDiff, Nat.reduceLeDiff, ↓reduceIte, reduceCtorEq, Nat.zero_add, List.getElem?_toArray, putD_some, Int.toNat_natCast, Option.map_some, List.elem_cons, List.elem_nil, List.getElem?_cons_zero, T_27, x16_1, r16_0_l, s16_0_0, s16_0_1, s16_0_2, s16_0_3, x16_3, x16_2, x16_0, b_16, aShift, hbits, hln, hsh, hloop]

/-! The law's own 'weak' is the program's. -/
theorem momTerm_cw {l : List Stone} {k : Nat} {side : Int} {w : List Int} (h : OkP l) (hw : weighE l w = 0) {i : Nat} (hi : i < l.length) : momTerm l w k side i ≤ term side (rightE l k) (leftE l k) (l.getD i default) := by
  obtain ⟨s, hs⟩ := at_ex hi
  obtain ⟨x, hx⟩ := at_ex (l := w) (k := i) (by rw [weigh_len hw]; exact hi)
  have hb := weighE_at hw hs hx
  obtain ⟨_, _, _, _, l1, lm, m9⟩ := h.fits i s hs
  simp only [momTerm, term, List.getD_eq_getElem?_getD, hs, hx, Option.getD_some]
  generalize far side (rightE l k) (leftE l k) s = f
  unfold wt
  split
  · exact Int.mul_le_mul_of_nonneg_right hb.2 (by omega)
  · exact Int.mul_le_mul_of_nonpos_right hb.1 (by omega)
theorem sumF_le (F G : Nat → Int) (k : Nat) : ∀ m, (∀ i, k ≤ i → i < k + m → F i ≤ G i) → sumF F k m ≤ sumF G k m
  | 0, _ => by simp [sumF]
  | m + 1, h => by
    have ih := sumF_le F G k m (fun i h1 h2 => h i h1 (by omega))
    have := h (k + m) (by omega) (by omega)
    simp only [sumF]; omega
theorem sumF_eq (F G : Nat → Int) (k : Nat) : ∀ m, (∀ i, k ≤ i → i < k + m → F i = G i) → sumF F k m = sumF G k m
  | 0, _ => rfl
  | m + 1, h => by simp only [sumF, sumF_eq F G k m (fun i h1 h2 => h i h1 (by omega)), h (k + m) (by omega) (by omega)]
theorem mom_le_worst {l : List Stone} {k : Nat} {side : Int} {w : List Int} (h : OkP l) (hw : weighE l w = 0) : momSum l w k side ≤ worstSum l k side := by
  by_cases hk : k ≤ l.length
  · exact sumF_le _ _ _ _ fun i _ h2 => momTerm_cw h hw (by omega)
  · unfold momSum worstSum; rw [show l.length - k = 0 by omega]; simp [sumF]
/-- The bits of the worst truth. -/
def bitsOf (f : Nat → Bool) : Nat → Nat
  | 0 => 0
  | n + 1 => bitsOf f n + if f n = true then 2 ^ n else 0
theorem bitsOf_lt (f : Nat → Bool) : ∀ n, bitsOf f n < 2 ^ n
  | 0 => by simp [bitsOf]
  | n + 1 => by
    have := bitsOf_lt f n
    simp only [bitsOf, Nat.pow_succ]
    split <;> omega
theorem bitsOf_bit (f : Nat → Bool) : ∀ n i, i < n → (bitsOf f n).testBit i = f i
  | 0, i, h => by omega
  | n + 1, i, h => by
    have hlt := bitsOf_lt f n
    simp only [bitsOf]
    by_cases hin : i = n
    · subst hin
      cases hf : f i
      · simp only [Bool.false_eq_true, if_false, Nat.add_zero]
        exact Nat.testBit_lt_two_pow hlt
      · simp only [if_true]
        rw [Nat.add_comm, Nat.testBit_two_pow_add_eq, Nat.testBit_lt_two_pow hlt]; rfl
    · have hi : i < n := by omega
      have ih := bitsOf_bit f n i hi
      split
      · rw [Nat.add_comm, Nat.testBit_two_pow_add_gt hi, ih]
      · simpa using ih
theorem worst_corner {l : List Stone} (k : Nat) (side : Int) (h : OkP l) : ∃ set, set < 2 ^ l.length ∧ momSum l (cwI l set l.length) k side = worstSum l k side := by
  refine ⟨bitsOf (fun i => decide (far side (rightE l k) (leftE l k) (l.getD i default) > 0)) l.length, bitsOf_lt _ _, ?_⟩
  refine sumF_eq _ _ _ _ fun i h1 h2 => ?_
  have hi : i < l.length := by omega
  simp only [momTerm, List.getD_eq_getElem?_getD, cwI_at hi, Option.getD_some, cw, bitsOf_bit _ _ i hi, term, wt, decide_eq_true_eq]
theorem wkAcc_iff (l : List Stone) (k : Nat) : ∀ n, wkAcc l k n = true ↔ ∃ s, s < n ∧ wkB l k (cwI l s l.length) = true
  | 0 => by simp [wkAcc]
  | n + 1 => by
    simp only [wkAcc, Bool.or_eq_true, wkAcc_iff l k n]
    constructor
    · rintro (⟨s, h1, h2⟩ | h)
      · exact ⟨s, by omega, h2⟩
      · exact ⟨n, by omega, h⟩
    · rintro ⟨s, h1, h2⟩
      by_cases hs : s = n
      · subst hs; exact .inr h2
      · exact .inl ⟨s, by omega, h2⟩
theorem worst_left0 {l : List Stone} (h : OkP l) : worstSum l 0 (-1) ≤ 0 := by
  obtain ⟨set, _, e⟩ := worst_corner 0 (-1) h
  rw [← e]
  have hw := cw_weigh h set
  have hnp : ∀ (F : Nat → Int) (k m : Nat), (∀ i, k ≤ i → i < k + m → F i ≤ 0) → sumF F k m ≤ 0 := by
    intro F k m
    induction m with
    | zero => intro _; simp [sumF]
    | succ m ih =>
      intro hh
      have := hh (k + m) (by omega) (by omega)
      have := ih (fun i h1 h2 => hh i h1 (by omega))
      simp only [sumF]; omega
  refine hnp _ _ _ fun i h1 h2 => ?_
  have hi : i < l.length := by omega
  obtain ⟨s, hs⟩ := at_ex hi
  obtain ⟨w, hws⟩ := at_ex (l := cwI l set l.length) (k := i) (by rw [weigh_len hw]; exact hi)
  obtain ⟨_, _, p1, p2, l1, lm, m9⟩ := h.fits i s hs
  have hwt := weighE_at hw hs hws
  simp only [momTerm, far, leftE, List.getD_eq_getElem?_getD, hs, hws, Option.getD_some]
  rw [if_neg (by omega)]
  exact Int.mul_nonpos_of_nonneg_of_nonpos (by omega) (by omega)
theorem wk_may {l : List Stone} (h : OkP l) (k : Nat) : wkAcc l k (2 ^ l.length) = true ↔ mayTip l k 1 = true ∨ mayTip l k (-1) = true := by
  rw [wkAcc_iff]
  simp only [mayTip, decide_eq_true_eq]
  constructor
  · rintro ⟨s, _, hb⟩
    simp only [wkB, Bool.or_eq_true, decide_eq_true_eq] at hb
    rcases hb with hb | hb
    · have := mom_le_worst (k := k) (side := 1) h (cw_weigh h s)
      exact .inl (by omega)
    · cases k with
      | zero => simp [leftM] at hb
      | succ k =>
        have := mom_le_worst (k := k + 1) (side := -1) h (cw_weigh h s)
        exact .inr (Int.lt_of_lt_of_le hb this)
  · rintro (hb | hb)
    · obtain ⟨s, h1, h2⟩ := worst_corner k 1 h
      refine ⟨s, h1, ?_⟩
      simp only [wkB, Bool.or_eq_true, decide_eq_true_eq]
      exact .inl (by omega)
    · cases k with
      | zero => have := worst_left0 h; omega
      | succ k =>
        obtain ⟨s, h1, h2⟩ := worst_corner (k + 1) (-1) h
        refine ⟨s, h1, ?_⟩
        simp only [wkB, Bool.or_eq_true, decide_eq_true_eq, leftM]
        rw [← h2] at hb
        exact .inr (decide_eq_true hb)

theorem lweak_loop {d : Nat} {l : List Stone} {ex : Bool} (h : OkP l) : ∀ (m k F : Nat) (x : AHeap), k + m = l.length → m < F → headA [] ([(7, .int .i64 k), (6, .int .i64 l.length), (1, .ptr 1 0 1)], x) = ([(7, .int .i64 k), (6, .int .i64 l.length), (1, .ptr 1 0 1)], [(1, ⟨.box, [.imm (pcells l) l.length ex]⟩)]) →
    ∃ y, iterA (execA E (callA E fg 1000 (d + 3)) (fg 8) 0 16 [] 1000 c8_7) (headA []) F ([(7, .int .i64 k), (6, .int .i64 l.length), (1, .ptr 1 0 1)], x) =
      if weakFrom l k m = -1 then some (.exit 0, [(8, .bool false), (7, .int .i64 l.length), (6, .int .i64 l.length), (1, .ptr 1 0 1)], [(1, ⟨.box, [.imm (pcells l) l.length ex]⟩)]) else some (.ret, [(2, .int .i64 (weakFrom l k m))], y)
  | 0, k, F + 1, x, hk, _, hx => by
    obtain rfl : k = l.length := by omega
    refine ⟨[], ?_⟩
    rw [iterA_succ, hx]
    simp only [seqX_normal, seqX_exit, bindR_some, regX_some, condX_bool, run_nil, run_cons, fget_cons', fput_cons', forget_nil, forget_cons', gcM, stp, just, Rd.bind, Rd.run, Rd.opt, upds, aBin, aInt, Nat.reduceEqDiff, Nat.reduceLeDiff, Int.reduceNeg, ↓reduceIte, decide_false, putD_some, List.elem_nil, x8_8, r8_2_l, s8_2_0, x8_11, x8_12, x8_10, x8_9, x8_7, Int.lt_irrefl, decide_false, Bool.false_eq_true, weakFrom]
  | m + 1, k, F + 1, x, hk, hF, hx => by
    have hkl : k < l.length := by omega
    have hle := h.le
    have hne : (k : Int) ≠ -1 := by omega
    have hcr := corners_run (d := d) (ex := ex) h hkl
    have hmay := wk_may h k
    simp only [wkH] at hcr
    obtain ⟨y, ih⟩ := lweak_loop (d := d) (ex := ex) h m (k + 1) F (wkH l ex k (wkAcc l k (2 ^ l.length))) (by omega) (by omega) (by rfl)
    simp only [wkH] at ih
    by_cases hb : wkAcc l k (2 ^ l.length) = true
    · have hm := hmay.1 hb
      refine ⟨wkH l ex k true, ?_⟩
      rw [iterA_succ, hx]
      rw [hb] at hcr
      simp only [seqX_normal, seqX_ret, bindR_some, regX_some, condX_bool, blockX_ret, run_nil, run_cons, fget_cons', fput_cons', forget_nil, forget_cons', hget_nil', hget_cons', hset_nil', hset_cons', gcM, stp, opBox, just, Rd.bind, Rd.run, Rd.opt, upds, acells, zeroCells, tsz, rdCells, aLoad, aStore, opStore, fresh, aBin, aInt, putC, Nat.reduceMul, Nat.reduceBEq, Nat.reduceEqDiff, Nat.reduceLeDiff, Int.reduceNeg, ↓reduceIte, reduceCtorEq, liveBlk_eq, Nat.zero_add, List.nil_append, decide_true, frz, putD_some, putD_none, and_true, Int.ofNat_lt, mutX, snaps, snap, List.append_nil, List.elem_cons, List.elem_nil, List.length_cons, List.length_nil, List.getElem?_cons_zero, List.set_cons_zero, T_3, T_27, T_4, x8_8, r8_2_l, s8_2_0, x8_11, x8_12, x8_10, x8_16, r8_3_l, s8_3_0, s8_3_1, s8_3_2, x8_18, r8_4_l, s8_4_0, s8_4_1, x8_20, r8_5_l, s8_5_0, s8_5_1, s8_5_2, x8_22, r8_6_l, s8_6_0, x8_25, r8_7_l, s8_7_0, s8_7_1, x8_26, x8_24, x8_27, x8_23, x8_21, x8_19, x8_17, x8_15, x8_14, x8_13, x8_9, x8_7, wkH, hkl, hcr, weakFrom, hm, hne]
    · have hm : ¬ (mayTip l k 1 = true ∨ mayTip l k (-1) = true) := fun hm => hb (hmay.2 hm)
      refine ⟨y, ?_⟩
      rw [iterA_succ, hx]
      have hb' : wkAcc l k (2 ^ l.length) = false := by simpa using hb
      rw [hb'] at hcr ih
      simp only [seqX_normal, bindR_some, regX_some, condX_bool, blockX_normal, run_nil, run_cons, fget_cons', fput_cons', forget_nil, forget_cons', hget_nil', hget_cons', hset_nil', hset_cons', gcM, stp, opBox, just, Rd.bind, Rd.run, Rd.opt, upds, acells, zeroCells, tsz, rdCells, aLoad, aStore, opStore, fresh, aBin, aInt, putC, Nat.reduceMul, Nat.reduceBEq, Nat.reduceEqDiff, Nat.reduceLeDiff, Int.reduceNeg, ↓reduceIte, reduceCtorEq, liveBlk_eq, Nat.zero_add, List.nil_append, decide_true, frz, putD_some, putD_none, and_true, Int.ofNat_lt, mutX, snaps, snap, List.append_nil, List.elem_cons, List.elem_nil, List.length_cons, List.length_nil, List.getElem?_cons_zero, List.set_cons_zero, T_3, T_27, T_4, x8_8, r8_2_l, s8_2_0, x8_11, x8_12, x8_10, x8_16, r8_3_l, s8_3_0, s8_3_1, s8_3_2, x8_18, r8_4_l, s8_4_0, s8_4_1, x8_20, r8_5_l, s8_5_0, s8_5_1, s8_5_2, x8_22, r8_6_l, s8_6_0, x8_25, r8_7_l, s8_7_0, s8_7_1, x8_26, x8_24, x8_27, x8_23, x8_21, x8_19, x8_17, x8_15, x8_14, x8_28, r8_8_l, s8_8_0, s8_8_1, x8_13, x8_9, x8_7, hkl, hcr, weakFrom, hm, wrp_succ (show k < 1000000 by omega), ih]
theorem lweak_run {d : Nat} {l : List Stone} {ex : Bool} (h : OkP l) : rsOf (callA E fg 1000 (d + 4) 8 [.imm (pcells l) l.length ex] [] 0) = some (.int .i64 (weakL l)) := by
  change rsOf (bodyA E (callA E fg 1000 (d + 3)) fg 1000 8 _ _ _) = _
  obtain ⟨y, hl⟩ := lweak_loop (d := d) (ex := ex) h l.length 0 1000 [(1, ⟨.box, [.imm (pcells l) l.length ex]⟩)] (by omega) (by have := h.le; omega) (by rfl)
  simp only [Int.natCast_zero] at hl
  by_cases hw : weakFrom l 0 l.length = -1
  · simp only [hw, if_true] at hl
    simp only [seqX_normal, bindR_some, regX_some, blockX_exit, bodyX_ret, run_nil, run_cons, fget_cons', fput_nil, fput_cons', forget_nil, forget_cons', hget_nil', hget_cons', hset_nil', frame0, gcM, stp, opBox, just, Rd.bind, Rd.run, Rd.opt, upds, acells, rdCells, aLoad, resA, resL, fresh, aLen, aBuiltin, Nat.reduceBEq, Nat.reduceEqDiff, Nat.reduceLeDiff, Int.reduceNeg, ↓reduceIte, reduceCtorEq, liveBlk_eq, Nat.zero_add, List.getElem?_toArray, putD_some, Option.map_some, List.elem_cons, List.elem_nil, List.length_cons, List.length_nil, List.getElem?_cons_zero, T_27, x8_1, r8_0_l, s8_0_0, s8_0_1, x8_4, r8_1_l, s8_1_0, s8_1_1, s8_1_2, x8_6, x8_5, x8_3, x8_30, r8_9_l, s8_9_0, x8_31, x8_29, x8_2, x8_0, b_8, hl, weakL, hw]
  · simp only [hw, if_false] at hl
    simp only [seqX_normal, seqX_ret, bindR_some, regX_some, blockX_ret, bodyX_ret, run_nil, run_cons, fget_cons', fput_cons', forget_nil, forget_cons', hget_nil', hget_cons', hset_nil', frame0, gcM, stp, opBox, just, Rd.bind, Rd.run, Rd.opt, upds, acells, rdCells, aLoad, resA, resL, fresh, aLen, aBuiltin, Nat.reduceBEq, Nat.reduceEqDiff, Nat.reduceLeDiff, ↓reduceIte, reduceCtorEq, liveBlk_eq, Nat.zero_add, List.getElem?_toArray, putD_some, Option.map_some, List.elem_cons, List.elem_nil, List.length_cons, List.length_nil, List.getElem?_cons_zero, T_27, x8_1, r8_0_l, s8_0_0, s8_0_1, x8_4, r8_1_l, s8_1_0, s8_1_1, s8_1_2, x8_6, x8_5, x8_3, x8_2, x8_0, b_8, hl, weakL]
theorem lweak_call {d : Nat} {site : Nat → Nat} {seen : List Nat} {l : List Stone} {ex : Bool} (h : OkP l) : aBack site true seen (thaw (callA E fg 1000 (d + 4)) 8 [.imm (pcells l) l.length ex] [] 0) = .pure (.int .i64 (weakL l), []) :=
  aBack_int (rs_ex (lweak_run h))
end Go.AM.Ytikchlfbjdfioaa
