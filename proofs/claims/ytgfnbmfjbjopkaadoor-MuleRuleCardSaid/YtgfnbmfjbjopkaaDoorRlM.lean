/- A part of the proof of muleRule_card: MrC, MrD, MrE, MrF, MrW. Own work of this project; texts printed by own programs among it. -/
import Derived.KernelRfl
import Derived.Test.YtgfnbmfjbjopkaaDoorRlL
section
namespace Go.AM.YtgfnbmfjbjopkaaDoor
open Go Go.AM Go.AM.Mule
set_option maxRecDepth 100000
set_option maxHeartbeats 8000000
/-- Does a pair lead from a load to one that is left? -/
def blkB (es : List Pr) (left i : Nat) : Bool := es.any (blkP i left)
structure MrC' (C : Callee) (es : List Pr) (left : Nat) : Prop where
  cf : ∀ (site : Nat → Nat) seen a (i : Nat), SV bc es a → i < 6 → aBack site true seen (thaw C 42 [a, .clo 43 [.iptr [.int .i64 (i : Int)] 0, .iptr [.int .i64 (left : Int)] 0]] [] 0) = .pure (.bool (blkB es left i), [])
  price : ∀ (site : Nat → Nat) seen l day, LdOk l → 0 ≤ day ∧ day ≤ 1000 → aBack site true seen (thaw C 44 [.agg (lc l), .int .i64 day] [] 0) = .pure (.int .i64 (ldC l day), [])
  mem : ∀ (site : Nat → Nat) seen (s : Nat), s < 64 → s ≠ 0 → aBack site true seen (thaw C 41 [.int .i64 (s : Int)] [] 0) = back1 (site 0) seen (fun k => .ref k 0 (lst s).length (lst s).length (lst s).length 1 false) ⟨.row, ins (lst s)⟩
theorem mrC' {es : List Pr} {left : Nat} (hl : left < 64) (he : ∀ q ∈ es, ∃ a b : Nat, q = ((a : Int), (b : Int)) ∧ b < 6) (hlen : es.length < 900) (d : Nat) : MrC' (callA E fg 1000 (d + 3)) es left := by
  refine ⟨fun site seen a i ha hi => cp_call (d := d + 1) (site := site) (seen := seen) ⟨fun _ => rfl, fun site q hq => ?_, rfl⟩ (fun n => rfl) ha hlen, fun _ _ _ _ a b => price_call a b, fun _ _ _ a b => mem_ref a b⟩
  have := aBack_bool (site := site) (seen := []) (rs_ex (blk_run (C := callA E fg 1000 d) (i := i) hl (he q hq)))
  simp only [opCallV, fi_43, aCall, List.cons_append, List.nil_append, List.append_nil, snaps, snap, bc, Rd.bind]
  exact this
abbrev freeL (es : List Pr) (left : Nat) (l : List Nat) : List Nat := l.filter fun i => !blkB es left i
abbrev rwS (ls : List Ld) (es : List Pr) (n : Nat) (ro : List AV) (at_ : Int) (left : Nat) (day : Int) (l : List Nat) (i : Nat) : St :=
  ([(63, .int .i64 i), (62, .int .i64 l.length), (61, .ref 61 0 l.length l.length l.length 1 false), (13, .int .i64 (selC (freeL es left (l.take i)) fun i => cF ls i day)), (12, .int .i64 (selW (freeL es left (l.take i)) fun i => cF ls i day)), (9, .int .i64 day), (8, .int .i64 at_), (7, .ptr 7 0 1), (5, .ref 24 0 n n n 1 false), (3, .ptr 3 0 2)],
    (3, ⟨.box, [.ref 18 0 n n (n * 5) 5 false, caB n es.length]⟩) :: (7, ⟨.box, [.int .i64 (left : Int)]⟩) :: (18, ⟨.froz, cls lc ls⟩) :: (24, ⟨.row, ro⟩) :: (61, ⟨.row, ins l⟩) :: caH es)
theorem rw_go {C : Callee} {ls : List Ld} {B : List Nat} {es : List Pr} {n : Nat} {ro : List AV} {at_ : Int} {left : Nat} {day : Int} {l : List Nat} (hC : MrC' C es left) (h : TrOk ls B n) (hl : ∀ i ∈ l, i < n) (h6 : l.length ≤ 6) (hd : 0 ≤ day ∧ day ≤ 1000) (i : Nat) (hi : i < l.length) :
    ∃ s', (execA E C (fg 6) 0 99 [] 1000 c6_57) (rwS ls es n ro at_ left day l i) = some (.normal, s') ∧ headA [] s' = rwS ls es n ro at_ left day l (i + 1) := by
  have hk : l[i]? = some l[i] := List.getElem?_eq_getElem hi
  have hkn := hl _ (List.getElem_mem hi)
  have ht : l.take (i + 1) = l.take i ++ [l[i]] := by rw [List.take_add_one, hk]; rfl
  obtain ⟨y, y1, y2, y3⟩ := cF_at h hkn
  have hcf := fun site seen a ha => hC.cf site seen a l[i] ha (by have := h.le; omega)
  have hprice := fun site seen => hC.price site seen y day y2 hd
  have hat := ins_at hk
  have hin := ins_length l
  have ay := cls_at lc_len y1
  have hlen : (cls lc ls).length = n * 5 := by rw [cls_length lc_len, h.l]
  have g1 : (i : Int) < l.length := by omega
  have g2 : (l[i] : Int) < n := by omega
  have hbl : (cls bc es).length = es.length * 2 := cls_length bc_len es
  have tbl : List.take (es.length * 2) (cls bc es) = cls bc es := List.take_of_length_le (by omega)
  simp only [lc] at ay hprice
  cases hb : blkB es left l[i] with
  | true =>
    have e : freeL es left (l.take (i + 1)) = freeL es left (l.take i) := by
      rw [ht]; simp only [freeL, List.filter_append, List.filter_cons, hb, Bool.not_true, Bool.false_eq_true, if_false, List.filter_nil, List.append_nil]
    rw [hb] at hcf
    simp only [rwS, e]
    generalize selC (freeL es left (l.take i)) (fun i => cF ls i day) = sc at *
    generalize selW (freeL es left (l.take i)) (fun i => cF ls i day) = sw' at *
    generalize l[i] = k at *
    rcases caV n es with ⟨e1, e2⟩ | ⟨e1, e2⟩ <;> rw [e1, e2]
    · have hes : es = [] := by
        refine Classical.byContradiction fun hc => ?_
        have : caB n es.length = .ref 117 0 es.length es.length (es.length * 2) 2 false := if_neg (by simpa using hc)
        rw [e1] at this
        exact absurd this (by simp)
      have hcf0 := fun site seen => hcf site seen .nilsl (.inl ⟨hes, rfl⟩)
      simp (disch := omega) only [seqX_exit, condX_bool, blockX_exit, run_nil, run_cons, fget_cons', fput_cons', forget_nil, forget_cons', hget_nil', hget_cons', hset_cons', gcM_n, gcM_c, stp, opBox, just, Rd.bind, Rd.run, Rd.opt, upds, acells, zeroCells, tsz, rdCells, fieldOf, aFieldAddr, aLoad, aStore, opStore, fresh, aIndexAddr, aNum, aBin, aInt, putC, Nat.reduceAdd, Nat.reduceLT, Nat.reduceBEq, Nat.reduceEqDiff, Nat.reduceLeDiff, ↓reduceIte, liveBlk_eq, Nat.zero_add, List.nil_append, decide_true, putD_some, putD_none, and_true, Int.natCast_nonneg, Int.toNat_natCast, aCall, snaps, List.append_nil, List.elem_cons, List.elem_nil, List.length_cons, List.length_nil, List.getElem?_cons_zero, List.getElem?_cons_succ, List.set_cons_zero, frz_nil, seqN, bindN, regN, snap_int, snap_nilsl, snap_ptr', snap_clo, List.cons_append, Nat.le_refl, Nat.mul_one, List.not_mem_nil, beq_self_eq_true, Bool.false_eq_true, T_3, T_23, T_25, T_36, beq_self_eq_true, x6_58, r6_18_l, s6_18_0, x6_61, x6_62, x6_60, x6_66, r6_19_l, s6_19_0, s6_19_1, s6_19_2, s6_19_3, x6_69, r6_20_l, s6_20_0, s6_20_1, s6_20_2, s6_20_3, x6_71, x6_72, x6_70, x6_68, x6_67, x6_65, x6_64, x6_80, r6_24_l, s6_24_0, s6_24_1, x6_63, x6_59, x6_57, g1, hat, hin, hcf0, wrp_succ (show i < 1000000 by omega)]
      exact ⟨_, rfl, rfl⟩
    · have hcf0 := fun site seen ex => hcf site seen (.imm (cls bc es) es.length ex) (.inr ⟨ex, rfl⟩)
      simp (disch := omega) only [seqX_exit, condX_bool, blockX_exit, run_nil, run_cons, fget_cons', fput_cons', forget_nil, forget_cons', hget_nil', hget_cons', hset_cons', gcM_n, gcM_c, stp, opBox, just, Rd.bind, Rd.run, Rd.opt, upds, acells, zeroCells, tsz, rdCells, fieldOf, aFieldAddr, aLoad, aStore, opStore, fresh, aIndexAddr, aNum, aBin, aInt, putC, Nat.reduceAdd, Nat.reduceLT, Nat.reduceBEq, Nat.reduceEqDiff, Nat.reduceLeDiff, ↓reduceIte, liveBlk_eq, Nat.zero_add, List.nil_append, Bool.and_true, decide_true, putD_some, putD_none, and_true, Int.natCast_nonneg, Int.toNat_natCast, aCall, snaps, List.append_nil, List.elem_cons, List.elem_nil, List.length_cons, List.length_nil, List.getElem?_cons_zero, List.getElem?_cons_succ, List.drop_zero, List.set_cons_zero, frz_nil, seqN, bindN, regN, snap_int, snap_ref, snap_ptr', snap_clo, List.cons_append, Nat.le_refl, Nat.mul_one, List.not_mem_nil, beq_self_eq_true, Bool.false_eq_true, T_3, T_23, T_25, T_36, beq_self_eq_true, x6_58, r6_18_l, s6_18_0, x6_61, x6_62, x6_60, x6_66, r6_19_l, s6_19_0, s6_19_1, s6_19_2, s6_19_3, x6_69, r6_20_l, s6_20_0, s6_20_1, s6_20_2, s6_20_3, x6_71, x6_72, x6_70, x6_68, x6_67, x6_65, x6_64, x6_80, r6_24_l, s6_24_0, s6_24_1, x6_63, x6_59, x6_57, g1, hat, hin, hbl, tbl, hcf0, wrp_succ (show i < 1000000 by omega)]
      exact ⟨_, rfl, rfl⟩
  | false =>
    have e : freeL es left (l.take (i + 1)) = freeL es left (l.take i) ++ [l[i]] := by
      rw [ht]; simp only [freeL, List.filter_append, List.filter_cons, hb, Bool.not_false, if_true, List.filter_nil]
    obtain ⟨s1, s2⟩ := sel_snoc (freeL es left (l.take i)) l[i] (fun i => cF ls i day)
    rw [hb] at hcf
    simp only [rwS, e, s1, s2, y3]
    have e0 : (fun i => cF ls i day) = fun i => cF ls i day := rfl
    generalize selC (freeL es left (l.take i)) (fun i => cF ls i day) = sc at *
    generalize selW (freeL es left (l.take i)) (fun i => cF ls i day) = sw' at *
    clear s1 s2
    generalize l[i] = k at *
    generalize ldC y day = cy at *
    have hcases : (sw' < 0 ∧ (sw' < 0 ∨ cy ≤ sc)) ∨ (¬ sw' < 0 ∧ cy ≤ sc ∧ (sw' < 0 ∨ cy ≤ sc)) ∨ (¬ sw' < 0 ∧ ¬ cy ≤ sc ∧ ¬ (sw' < 0 ∨ cy ≤ sc)) := by omega
    rcases caV n es with ⟨e1, e2⟩ | ⟨e1, e2⟩ <;> rw [e1, e2]
    · have hes : es = [] := by
        refine Classical.byContradiction fun hc => ?_
        have : caB n es.length = .ref 117 0 es.length es.length (es.length * 2) 2 false := if_neg (by simpa using hc)
        rw [e1] at this
        exact absurd this (by simp)
      have hcf0 := fun site seen => hcf site seen .nilsl (.inl ⟨hes, rfl⟩)
      rcases hcases with ⟨c1, c2⟩ | ⟨c1, c3, c2⟩ | ⟨c1, c3, c2⟩
      · rw [if_pos c2, if_pos c2]
        simp (disch := omega) only [condX_bool, blockX_normal, ↓gd, fset_cons, Bool.not_false, run_nil, run_cons, fget_cons', fput_cons', forget_nil, forget_cons', hget_nil', hget_cons', hset_cons', gcM_n, gcM_c, stp, opPick, opBox, just, Rd.bind, Rd.run, Rd.opt, upds, acells, zeroCells, tsz, rdCells, fieldOf, aFieldAddr, aLoad, aStore, opStore, fresh, aIndexAddr, aNum, aBin, aInt, putC, Nat.reduceAdd, Nat.reduceLT, Nat.reduceBEq, Nat.reduceEqDiff, Nat.reduceLeDiff, ↓reduceIte, reduceCtorEq, liveBlk_eq, Nat.zero_add, Nat.add_zero, List.nil_append, Bool.not_false, decide_true, putD_some, putD_none, and_true, Int.natCast_nonneg, Int.toNat_natCast, aCall, snaps, List.append_nil, List.elem_cons, List.elem_nil, List.length_cons, List.length_nil, List.getElem?_cons_zero, List.getElem?_cons_succ, List.set_cons_zero, frz_nil, seqN, bindN, regN, snap_int, snap_nilsl, snap_ptr', snap_agg, snap_clo, List.cons_append, Nat.le_refl, Nat.mul_one, List.not_mem_nil, beq_self_eq_true, Bool.false_eq_true, T_3, T_22, T_23, T_25, T_36, T_62, beq_self_eq_true, x6_58, r6_18_l, s6_18_0, x6_61, x6_62, x6_60, x6_66, r6_19_l, s6_19_0, s6_19_1, s6_19_2, s6_19_3, x6_69, r6_20_l, s6_20_0, s6_20_1, s6_20_2, s6_20_3, x6_71, x6_72, x6_70, x6_68, x6_74, r6_21_l, s6_21_0, s6_21_1, s6_21_2, s6_21_3, s6_21_4, s6_21_5, s6_21_6, s6_21_7, x6_76, r6_22_l, s6_22_0, s6_22_1, s6_22_2, s6_22_3, s6_22_4, s6_22_5, s6_22_6, x6_78, r6_23_l, s6_23_0, s6_23_1, s6_23_2, s6_23_3, x6_79, x6_77, x6_75, x6_73, x6_67, x6_65, x6_64, x6_80, r6_24_l, s6_24_0, s6_24_1, x6_63, x6_59, x6_57, g1, g2, hat, hin, hcf0, ay, hlen, hprice, c1, if_pos, wrp_succ (show i < 1000000 by omega)]
        exact ⟨_, rfl, rfl⟩
      · rw [if_pos c2, if_pos c2]
        simp (disch := omega) only [condX_bool, blockX_normal, ↓gd, fset_cons, run_nil, run_cons, fget_cons', fput_cons', forget_nil, forget_cons', hget_nil', hget_cons', hset_cons', gcM_n, gcM_c, stp, opPick, opBox, just, Rd.bind, Rd.run, Rd.opt, upds, acells, zeroCells, tsz, rdCells, fieldOf, aFieldAddr, aLoad, aStore, opStore, fresh, aIndexAddr, aNum, aBin, aInt, putC, Nat.reduceAdd, Nat.reduceLT, Nat.reduceBEq, Nat.reduceEqDiff, Nat.reduceLeDiff, ↓reduceIte, liveBlk_eq, Nat.zero_add, Nat.add_zero, List.nil_append, decide_true, decide_false, putD_some, putD_none, and_true, Int.natCast_nonneg, Int.toNat_natCast, aCall, snaps, List.append_nil, List.elem_cons, List.elem_nil, List.length_cons, List.length_nil, List.getElem?_cons_zero, List.getElem?_cons_succ, List.set_cons_zero, frz_nil, seqN, bindN, regN, snap_int, snap_nilsl, snap_ptr', snap_agg, snap_clo, List.cons_append, Nat.le_refl, Nat.mul_one, List.not_mem_nil, beq_self_eq_true, Bool.false_eq_true, T_3, T_22, T_23, T_25, T_36, T_62, beq_self_eq_true, x6_58, r6_18_l, s6_18_0, x6_61, x6_62, x6_60, x6_66, r6_19_l, s6_19_0, s6_19_1, s6_19_2, s6_19_3, x6_69, r6_20_l, s6_20_0, s6_20_1, s6_20_2, s6_20_3, x6_71, x6_72, x6_70, x6_68, x6_74, r6_21_l, s6_21_0, s6_21_1, s6_21_2, s6_21_3, s6_21_4, s6_21_5, s6_21_6, s6_21_7, x6_76, r6_22_l, s6_22_0, s6_22_1, s6_22_2, s6_22_3, s6_22_4, s6_22_5, s6_22_6, x6_78, r6_23_l, s6_23_0, s6_23_1, s6_23_2, s6_23_3, x6_79, x6_77, x6_75, x6_73, x6_67, x6_65, x6_64, x6_80, r6_24_l, s6_24_0, s6_24_1, x6_63, x6_59, x6_57, g1, g2, hat, hin, hcf0, ay, hlen, hprice, c1, c3, if_pos, wrp_succ (show i < 1000000 by omega)]
        exact ⟨_, rfl, rfl⟩
      · rw [if_neg c2, if_neg c2]
        simp (disch := omega) only [condX_bool, blockX_normal, ↓gd, fset_cons, run_nil, run_cons, fget_cons', fput_cons', forget_nil, forget_cons', hget_nil', hget_cons', hset_cons', gcM_n, gcM_c, stp, opPick, opBox, just, Rd.bind, Rd.run, Rd.opt, upds, acells, zeroCells, tsz, rdCells, fieldOf, aFieldAddr, aLoad, aStore, opStore, fresh, aIndexAddr, aNum, aBin, aInt, putC, Nat.reduceAdd, Nat.reduceLT, Nat.reduceBEq, Nat.reduceEqDiff, Nat.reduceLeDiff, ↓reduceIte, liveBlk_eq, Nat.zero_add, Nat.add_zero, List.nil_append, decide_true, decide_false, putD_some, putD_none, and_true, Int.natCast_nonneg, Int.toNat_natCast, aCall, snaps, List.append_nil, List.elem_cons, List.elem_nil, List.length_cons, List.length_nil, List.getElem?_cons_zero, List.getElem?_cons_succ, List.set_cons_zero, frz_nil, seqN, bindN, regN, snap_int, snap_nilsl, snap_ptr', snap_agg, snap_clo, List.cons_append, Nat.le_refl, Nat.mul_one, List.not_mem_nil, beq_self_eq_true, Bool.false_eq_true, T_3, T_22, T_23, T_25, T_36, T_62, beq_self_eq_true, x6_58, r6_18_l, s6_18_0, x6_61, x6_62, x6_60, x6_66, r6_19_l, s6_19_0, s6_19_1, s6_19_2, s6_19_3, x6_69, r6_20_l, s6_20_0, s6_20_1, s6_20_2, s6_20_3, x6_71, x6_72, x6_70, x6_68, x6_74, r6_21_l, s6_21_0, s6_21_1, s6_21_2, s6_21_3, s6_21_4, s6_21_5, s6_21_6, s6_21_7, x6_76, r6_22_l, s6_22_0, s6_22_1, s6_22_2, s6_22_3, s6_22_4, s6_22_5, s6_22_6, x6_78, r6_23_l, s6_23_0, s6_23_1, s6_23_2, s6_23_3, x6_79, x6_77, x6_75, x6_73, x6_67, x6_65, x6_64, x6_80, r6_24_l, s6_24_0, s6_24_1, x6_63, x6_59, x6_57, g1, g2, hat, hin, hcf0, ay, hlen, hprice, c1, c3, if_pos, wrp_succ (show i < 1000000 by omega)]
        exact ⟨_, rfl, rfl⟩
    · have hcf0 := fun site seen ex => hcf site seen (.imm (cls bc es) es.length ex) (.inr ⟨ex, rfl⟩)
      rcases hcases with ⟨c1, c2⟩ | ⟨c1, c3, c2⟩ | ⟨c1, c3, c2⟩
      · rw [if_pos c2, if_pos c2]
        simp (disch := omega) only [condX_bool, blockX_normal, ↓gd, fset_cons, Bool.not_false, run_nil, run_cons, fget_cons', fput_cons', forget_nil, forget_cons', hget_nil', hget_cons', hset_cons', gcM_n, gcM_c, stp, opPick, opBox, just, Rd.bind, Rd.run, Rd.opt, upds, acells, zeroCells, tsz, rdCells, fieldOf, aFieldAddr, aLoad, aStore, opStore, fresh, aIndexAddr, aNum, aBin, aInt, putC, Nat.reduceAdd, Nat.reduceLT, Nat.reduceBEq, Nat.reduceEqDiff, Nat.reduceLeDiff, ↓reduceIte, reduceCtorEq, liveBlk_eq, Nat.zero_add, Nat.add_zero, List.nil_append, Bool.not_false, Bool.and_true, decide_true, putD_some, putD_none, and_true, Int.natCast_nonneg, Int.toNat_natCast, aCall, snaps, List.append_nil, List.elem_cons, List.elem_nil, List.length_cons, List.length_nil, List.getElem?_cons_zero, List.getElem?_cons_succ, List.drop_zero, List.set_cons_zero, frz_nil, seqN, bindN, regN, snap_int, snap_ref, snap_ptr', snap_agg, snap_clo, List.cons_append, Nat.le_refl, Nat.mul_one, List.not_mem_nil, beq_self_eq_true, Bool.false_eq_true, T_3, T_22, T_23, T_25, T_36, T_62, beq_self_eq_true, x6_58, r6_18_l, s6_18_0, x6_61, x6_62, x6_60, x6_66, r6_19_l, s6_19_0, s6_19_1, s6_19_2, s6_19_3, x6_69, r6_20_l, s6_20_0, s6_20_1, s6_20_2, s6_20_3, x6_71, x6_72, x6_70, x6_68, x6_74, r6_21_l, s6_21_0, s6_21_1, s6_21_2, s6_21_3, s6_21_4, s6_21_5, s6_21_6, s6_21_7, x6_76, r6_22_l, s6_22_0, s6_22_1, s6_22_2, s6_22_3, s6_22_4, s6_22_5, s6_22_6, x6_78, r6_23_l, s6_23_0, s6_23_1, s6_23_2, s6_23_3, x6_79, x6_77, x6_75, x6_73, x6_67, x6_65, x6_64, x6_80, r6_24_l, s6_24_0, s6_24_1, x6_63, x6_59, x6_57, g1, g2, hat, hin, hbl, tbl, hcf0, ay, hlen, hprice, c1, if_pos, wrp_succ (show i < 1000000 by omega)]
        exact ⟨_, rfl, rfl⟩
      · rw [if_pos c2, if_pos c2]
        simp (disch := omega) only [condX_bool, blockX_normal, ↓gd, fset_cons, run_nil, run_cons, fget_cons', fput_cons', forget_nil, forget_cons', hget_nil', hget_cons', hset_cons', gcM_n, gcM_c, stp, opPick, opBox, just, Rd.bind, Rd.run, Rd.opt, upds, acells, zeroCells, tsz, rdCells, fieldOf, aFieldAddr, aLoad, aStore, opStore, fresh, aIndexAddr, aNum, aBin, aInt, putC, Nat.reduceAdd, Nat.reduceLT, Nat.reduceBEq, Nat.reduceEqDiff, Nat.reduceLeDiff, ↓reduceIte, liveBlk_eq, Nat.zero_add, Nat.add_zero, List.nil_append, Bool.and_true, decide_true, decide_false, putD_some, putD_none, and_true, Int.natCast_nonneg, Int.toNat_natCast, aCall, snaps, List.append_nil, List.elem_cons, List.elem_nil, List.length_cons, List.length_nil, List.getElem?_cons_zero, List.getElem?_cons_succ, List.drop_zero, List.set_cons_zero, frz_nil, seqN, bindN, regN, snap_int, snap_ref, snap_ptr', snap_agg, snap_clo, List.cons_append, Nat.le_refl, Nat.mul_one, List.not_mem_nil, beq_self_eq_true, Bool.false_eq_true, T_3, T_22, T_23, T_25, T_36, T_62, beq_self_eq_true, x6_58, r6_18_l, s6_18_0, x6_61, x6_62, x6_60, x6_66, r6_19_l, s6_19_0, s6_19_1, s6_19_2, s6_19_3, x6_69, r6_20_l, s6_20_0, s6_20_1, s6_20_2, s6_20_3, x6_71, x6_72, x6_70, x6_68, x6_74, r6_21_l, s6_21_0, s6_21_1, s6_21_2, s6_21_3, s6_21_4, s6_21_5, s6_21_6, s6_21_7, x6_76, r6_22_l, s6_22_0, s6_22_1, s6_22_2, s6_22_3, s6_22_4, s6_22_5, s6_22_6, x6_78, r6_23_l, s6_23_0, s6_23_1, s6_23_2, s6_23_3, x6_79, x6_77, x6_75, x6_73, x6_67, x6_65, x6_64, x6_80, r6_24_l, s6_24_0, s6_24_1, x6_63, x6_59, x6_57, g1, g2, hat, hin, hbl, tbl, hcf0, ay, hlen, hprice, c1, c3, if_pos, wrp_succ (show i < 1000000 by omega)]
        exact ⟨_, rfl, rfl⟩
      · rw [if_neg c2, if_neg c2]
        simp (disch := omega) only [condX_bool, blockX_normal, ↓gd, fset_cons, run_nil, run_cons, fget_cons', fput_cons', forget_nil, forget_cons', hget_nil', hget_cons', hset_cons', gcM_n, gcM_c, stp, opPick, opBox, just, Rd.bind, Rd.run, Rd.opt, upds, acells, zeroCells, tsz, rdCells, fieldOf, aFieldAddr, aLoad, aStore, opStore, fresh, aIndexAddr, aNum, aBin, aInt, putC, Nat.reduceAdd, Nat.reduceLT, Nat.reduceBEq, Nat.reduceEqDiff, Nat.reduceLeDiff, ↓reduceIte, liveBlk_eq, Nat.zero_add, Nat.add_zero, List.nil_append, Bool.and_true, decide_true, decide_false, putD_some, putD_none, and_true, Int.natCast_nonneg, Int.toNat_natCast, aCall, snaps, List.append_nil, List.elem_cons, List.elem_nil, List.length_cons, List.length_nil, List.getElem?_cons_zero, List.getElem?_cons_succ, List.drop_zero, List.set_cons_zero, frz_nil, seqN, bindN, regN, snap_int, snap_ref, snap_ptr', snap_agg, snap_clo, List.cons_append, Nat.le_refl, Nat.mul_one, List.not_mem_nil, beq_self_eq_true, Bool.false_eq_true, T_3, T_22, T_23, T_25, T_36, T_62, beq_self_eq_true, x6_58, r6_18_l, s6_18_0, x6_61, x6_62, x6_60, x6_66, r6_19_l, s6_19_0, s6_19_1, s6_19_2, s6_19_3, x6_69, r6_20_l, s6_20_0, s6_20_1, s6_20_2, s6_20_3, x6_71, x6_72, x6_70, x6_68, x6_74, r6_21_l, s6_21_0, s6_21_1, s6_21_2, s6_21_3, s6_21_4, s6_21_5, s6_21_6, s6_21_7, x6_76, r6_22_l, s6_22_0, s6_22_1, s6_22_2, s6_22_3, s6_22_4, s6_22_5, s6_22_6, x6_78, r6_23_l, s6_23_0, s6_23_1, s6_23_2, s6_23_3, x6_79, x6_77, x6_75, x6_73, x6_67, x6_65, x6_64, x6_80, r6_24_l, s6_24_0, s6_24_1, x6_63, x6_59, x6_57, g1, g2, hat, hin, hbl, tbl, hcf0, ay, hlen, hprice, c1, c3, if_pos, wrp_succ (show i < 1000000 by omega)]
        exact ⟨_, rfl, rfl⟩
end Go.AM.YtgfnbmfjbjopkaaDoor
end

section
namespace Go.AM.YtgfnbmfjbjopkaaDoor
open Go Go.AM Go.AM.Mule
set_option maxRecDepth 100000
set_option maxHeartbeats 8000000
/-- What goes before what is left is left. -/
theorem rS_down {ls : List Ld} {B : List Nat} {n : Nat} (h : TrOk ls B n) (hT : Ord (bit B)) (hlt : ∀ a b, bit B a b = true → a < n ∧ b < n) : ∀ k, k ≤ n → ∀ a b, b ∈ lst (rS ls B n k) → bit B a b = true → a ∈ lst (rS ls B n k)
  | 0, _, a, b, _, hab => by
    simp only [rS]; rw [lst_full n h.le]; exact List.mem_range.2 (hlt a b hab).1
  | k + 1, hk, a, b, hb, hab => by
    have h0 := rS_ne h hT (show k < n by omega)
    obtain ⟨e, hm⟩ := rS_step h hT k h0
    rw [e] at hb ⊢
    have hbm := List.mem_of_mem_erase hb
    have ham := rS_down h hT hlt k (by omega) a b hbm hab
    have hne : a ≠ pkS ls B (rS ls B n k) := by
      intro ea
      have hl := pk_mem (ls := ls) hT (lt64 h.le (rS_lt ls B n k)) h0
      have := (mem_lasts.1 hl).2 b hbm
      rw [← ea, hab] at this
      exact absurd this (by simp)
    exact (List.mem_erase_of_ne hne).2 ham
theorem free_lasts {ls : List Ld} {B : List Nat} {n : Nat} {es : List Pr} {left : Nat} (h : TrOk ls B n) (hr : ∀ a b, bit B a b = true ↔ Mule.Reach (es.map tN) a b) (hok : ∀ q ∈ es, ∃ a b : Nat, q = ((a : Int), (b : Int)) ∧ b < 6) (hl : left < 64)
    (hdn : ∀ a b, b ∈ lst left → bit B a b = true → a ∈ lst left) : freeL es left (lst left) = lsL B left := by
  unfold freeL lsL lastsL
  apply List.filter_congr
  intro i hi
  rw [Bool.eq_iff_iff]
  simp only [Bool.not_eq_true', blkB, List.any_eq_false, List.all_eq_true]
  constructor
  · intro h1 k hk
    cases hb : bit B i k with
    | false => rfl
    | true =>
      exfalso
      have := (hr i k).1 hb
      have step : ∀ {a b : Nat}, Mule.Reach (es.map tN) a b → b ∈ lst left → ∃ c, Mule.Edge (es.map tN) a c ∧ c ∈ lst left := by
        intro a b hab
        induction hab with
        | single e => exact fun hm => ⟨_, e, hm⟩
        | tail _ e ih => exact fun hm => ih (hdn _ _ hm ((hr _ _).2 (.single e)))
      obtain ⟨c, hc1, hc2⟩ := step this hk
      obtain ⟨q, hq1, hq2⟩ := List.mem_map.1 hc1
      obtain ⟨x, y, rfl, _⟩ := hok q hq1
      simp only [tN, Int.toNat_natCast, Prod.mk.injEq] at hq2
      have := h1 _ hq1
      unfold blkP at this
      rw [hq2.1, hq2.2] at this
      rw [decide_eq_true rfl, Int.toNat_natCast, (mem_lst hl).1 hc2] at this
      simp at this
  · intro h1 q hq
    obtain ⟨x, y, rfl, _⟩ := hok q hq
    unfold blkP
    intro hc
    simp only [Bool.and_eq_true, decide_eq_true_eq, Int.toNat_natCast] at hc
    have hx : x = i := by omega
    subst hx
    have hy : y ∈ lst left := (mem_lst hl).2 hc.2
    have := h1 y hy
    have he : bit B x y = true := (hr x y).2 (.single (List.mem_map.2 ⟨_, hq, rfl⟩))
    rw [he] at this
    simp at this
abbrev roS (ls : List Ld) (B : List Nat) (es : List Pr) (n k : Nat) : St :=
  ([(8, .int .i64 ((n : Int) - 1 - k)), (7, .ptr 7 0 1), (5, .ref 24 0 n n n 1 false), (3, .ptr 3 0 2)],
    (3, ⟨.box, [.ref 18 0 n n (n * 5) 5 false, caB n es.length]⟩) :: (7, ⟨.box, [.int .i64 (rS ls B n k : Nat)]⟩) :: (18, ⟨.froz, cls lc ls⟩) :: (24, ⟨.row, ins (ruO ls B n)⟩) :: caH es)
theorem loopS {f : St → XR} (st : Nat → St) (n : Nat) (s0 : St) (h : ∀ i, i < n → ∃ s', f (st i) = some (.normal, s') ∧ headA [] s' = st (i + 1)) (h0 : headA [] s0 = st 0) (hn : n < 1000) {e : Ex} {se : St} (he : f (st n) = some (e, se)) (hne : e ≠ .normal) : iterA f (headA []) 1000 s0 = some (e, se) :=
  iter_all st n 1000 0 s0 h0 hn (fun i _ hi => h i (by omega)) (by rw [Nat.zero_add]; exact he) hne
theorem rO_at (ls B n) : ∀ m k, k < m → (rO ls B n m)[k]? = some (pkS ls B (rS ls B n k))
  | 0, k, h => by omega
  | m + 1, k, h => by
    have hl := rO_len ls B n m
    simp only [rO]
    by_cases e : k < m
    · rw [List.getElem?_append_left (by omega)]; exact rO_at ls B n m k e
    · rw [show k = m by omega, List.getElem?_append_right (by omega), hl, Nat.sub_self]; rfl
theorem ro_go {C : Callee} {ls : List Ld} {B : List Nat} {es : List Pr} {n : Nat} (h : TrOk ls B n) (hT : Ord (bit B)) (k : Nat) (hk : k < n) (hC : MrC' C es (rS ls B n k)) (hf : freeL es (rS ls B n k) (lst (rS ls B n k)) = lsL B (rS ls B n k)) :
    ∃ s', (execA E C (fg 6) 0 99 [] 1000 c6_23) (roS ls B es n k) = some (.normal, s') ∧ headA [] s' = roS ls B es n (k + 1) := by
  have h0 := rS_ne h hT hk
  have hlt := rS_lt ls B n k
  have h64 := lt64 h.le hlt
  have hmem := fun site seen => hC.mem site seen _ h64 h0
  have hln := lst_ltN h.le hlt
  have h6 := lst_len (rS ls B n k)
  have hdb := daysS_b h hlt
  have hil := ins_length (lst (rS ls B n k))
  have hpk := pk_mem (ls := ls) hT h64 h0
  have hpn := hln _ (ls_mem hpk)
  have hne := ls_ne hT h64 h0
  have hsel : selW (lsL B (rS ls B n k)) (fun i => cF ls i (daysS ls (rS ls B n k))) = (pkS ls B (rS ls B n k) : Nat) := if_neg hne
  have hro : (ruO ls B n)[n - 1 - k]? = some (pkS ls B (rS ls B n k)) := by
    have hl := rO_len ls B n n
    rw [← ruO_eq h hT, List.getElem?_reverse (by omega), hl, show n - 1 - (n - 1 - k) = k by omega]
    exact rO_at ls B n n k hk
  have hat := ins_at hro
  have hrl : (ins (ruO ls B n)).length = n := by rw [ins_length, ← ruO_eq h hT, List.length_reverse, rO_len]
  have hl1 := fun (at_ : Int) => loopN (f := (execA E C (fg 6) 0 99 [] 1000 c6_38)) (rdS ls es n (ins (ruO ls B n)) at_ (rS ls B n k) (lst (rS ls B n k))) (lst (rS ls B n k)).length (fun i hi => rd_go h hln h6 i hi) (by rcases caV n es with ⟨e1, e2⟩ | ⟨e1, e2⟩ <;> simp only [rdS] <;> rw [e1, e2] <;> rfl) (by omega)
    (e := .exit 2) (se := ([(48, .bool false), (47, .int .i64 (lst (rS ls B n k)).length), (46, .int .i64 (lst (rS ls B n k)).length), (45, .ref 45 0 (lst (rS ls B n k)).length (lst (rS ls B n k)).length (lst (rS ls B n k)).length 1 false), (9, .int .i64 (daysS ls (rS ls B n k))), (8, .int .i64 at_), (7, .ptr 7 0 1), (5, .ref 24 0 n n n 1 false), (3, .ptr 3 0 2)],
      (3, ⟨.box, [.ref 18 0 n n (n * 5) 5 false, caB n es.length]⟩) :: (7, ⟨.box, [.int .i64 (rS ls B n k : Nat)]⟩) :: (18, ⟨.froz, cls lc ls⟩) :: (24, ⟨.row, ins (ruO ls B n)⟩) :: (45, ⟨.row, ins (lst (rS ls B n k))⟩) :: caH es))
    (by
      simp only [rdS, List.take_length]
      rw [show days (hiF ls) (lst (rS ls B n k)) = daysS ls (rS ls B n k) from rfl]
      generalize daysS ls (rS ls B n k) = day at *
      generalize lst (rS ls B n k) = l at *
      simp (disch := omega) only [seqX_exit, condX_bool, run_nil, run_cons, fget_cons', fput_cons', forget_nil, forget_cons', gcM_n, stp, just, Rd.bind, Rd.run, Rd.opt, upds, aBin, aInt, Nat.reduceEqDiff, Nat.reduceLeDiff, ↓reduceIte, decide_false, putD_some, List.elem_nil, seqN, bindN, regN, Int.lt_irrefl, Bool.false_eq_true, x6_39, r6_12_l, s6_12_0, x6_42, x6_43, x6_41, x6_40, x6_38]) (by simp)
  have hl2 := fun (at_ : Int) => loopS (f := (execA E C (fg 6) 0 99 [] 1000 c6_57)) (rwS ls es n (ins (ruO ls B n)) at_ (rS ls B n k) (daysS ls (rS ls B n k)) (lst (rS ls B n k))) (lst (rS ls B n k)).length ((rwS ls es n (ins (ruO ls B n)) at_ (rS ls B n k) (daysS ls (rS ls B n k)) (lst (rS ls B n k)) 0).1, (3, ⟨.box, [.ref 18 0 n n (n * 5) 5 false, caB n es.length]⟩) :: (7, ⟨.box, [.int .i64 (rS ls B n k : Nat)]⟩) :: (18, ⟨.froz, cls lc ls⟩) :: (24, ⟨.row, ins (ruO ls B n)⟩) :: (45, ⟨.row, ins (lst (rS ls B n k))⟩) :: (61, ⟨.row, ins (lst (rS ls B n k))⟩) :: caH es) (fun i hi => rw_go hC h hln h6 (by omega) i hi) (by rcases caV n es with ⟨e1, e2⟩ | ⟨e1, e2⟩ <;> simp only [rwS] <;> rw [e1, e2] <;> rfl) (by omega)
    (e := .exit 4) (se := ([(64, .bool false), (63, .int .i64 (lst (rS ls B n k)).length), (62, .int .i64 (lst (rS ls B n k)).length), (61, .ref 61 0 (lst (rS ls B n k)).length (lst (rS ls B n k)).length (lst (rS ls B n k)).length 1 false), (13, .int .i64 (selC (lsL B (rS ls B n k)) fun i => cF ls i (daysS ls (rS ls B n k)))), (12, .int .i64 (pkS ls B (rS ls B n k) : Nat)), (9, .int .i64 (daysS ls (rS ls B n k))), (8, .int .i64 at_), (7, .ptr 7 0 1), (5, .ref 24 0 n n n 1 false), (3, .ptr 3 0 2)],
      (3, ⟨.box, [.ref 18 0 n n (n * 5) 5 false, caB n es.length]⟩) :: (7, ⟨.box, [.int .i64 (rS ls B n k : Nat)]⟩) :: (18, ⟨.froz, cls lc ls⟩) :: (24, ⟨.row, ins (ruO ls B n)⟩) :: (61, ⟨.row, ins (lst (rS ls B n k))⟩) :: caH es))
    (by
      simp only [rwS, List.take_length, hf, hsel]
      generalize selC (lsL B (rS ls B n k)) (fun i => cF ls i (daysS ls (rS ls B n k))) = sc at *
      generalize daysS ls (rS ls B n k) = day at *
      generalize lst (rS ls B n k) = l at *
      simp (disch := omega) only [seqX_exit, condX_bool, run_nil, run_cons, fget_cons', fput_cons', forget_nil, forget_cons', gcM_n, stp, just, Rd.bind, Rd.run, Rd.opt, upds, aBin, aInt, Nat.reduceEqDiff, Nat.reduceLeDiff, ↓reduceIte, decide_false, putD_some, List.elem_nil, seqN, bindN, regN, Int.lt_irrefl, Bool.false_eq_true, x6_58, r6_18_l, s6_18_0, x6_61, x6_62, x6_60, x6_59, x6_57]) (by simp)
  have l1 := hl1 ((n : Int) - 1 - k)
  have l2 := hl2 ((n : Int) - 1 - k)
  have z1 : selW [] (fun i => cF ls i (daysS ls (rS ls B n k))) = -1 := rfl
  have z2 : selC [] (fun i => cF ls i (daysS ls (rS ls B n k))) = 0 := rfl
  have z3 : freeL es (rS ls B n k) [] = [] := rfl
  simp only [rdS, List.take_zero, days, cl0, z1, z2, z3] at l1 l2
  have hle := h.le
  have ej : ((n : Int) - 1 - k).toNat = n - 1 - k := by omega
  have g1 : (n : Int) - 1 - k ≥ 0 := by omega
  have g2 : (n : Int) - 1 - k < n := by omega
  have w1 : wrp .i64 ((n : Int) - 1 - k - 1) = (n : Int) - 1 - (k + 1 : Nat) := by rw [wrp64 (by omega)]; omega
  have hshl := shlI (i := pkS ls B (rS ls B n k)) (by omega)
  have han := bkI_andNot h64 (shl_lt (show pkS ls B (rS ls B n k) < 6 by omega))
  rw [show rS ls B n k &&& (63 - 1 <<< pkS ls B (rS ls B n k)) = rS ls B n (k + 1) from rfl] at han
  simp only [roS]
  clear hl1 hl2 hf hsel hdb h6 hln h64 hlt
  generalize selC (lsL B (rS ls B n k)) (fun i => cF ls i (daysS ls (rS ls B n k))) = sc at *
  generalize rS ls B n (k + 1) = left2 at *
  generalize pkS ls B (rS ls B n k) = pk at *
  generalize daysS ls (rS ls B n k) = day at *
  generalize lst (rS ls B n k) = l at *
  generalize rS ls B n k = left at *
  generalize ins (ruO ls B n) = ro at *
  rcases caV n es with ⟨e1, e2⟩ | ⟨e1, e2⟩ <;> rw [e1, e2] at l1 l2 ⊢
  · simp (disch := omega) only [condX_bool, blockX_exit, blockX_normal, Bool.not_true, Bool.not_false, run_nil, run_cons, fget_cons', fput_nil, fput_cons', forget_nil, forget_cons', hget_nil', hget_cons', hset_nil', hset_cons', gcM_n, gcM_c, stp, just, Rd.bind, Rd.run, Rd.opt, upds, acells, tsz, rdCells, aLoad, aStore, opStore, aIndexAddr, aNum, aLen, aBuiltin, aBin, aInt, putC, Nat.reduceAdd, Nat.reduceLT, Nat.reduceBEq, Nat.reduceEqDiff, Nat.reduceLeDiff, Int.reduceNeg, ↓reduceIte, liveBlk_eq, Nat.zero_add, List.nil_append, List.getElem?_toArray, rtX_some, addT_some, drX_some, runT_nil, runT_cons, neat_eq, descF_nil', descF_cons', ascH_nil', ascH_cons', stpT, Rd.foot, writing, touching, Tr.empty, dynPairs, apartT, disj, List.isEmpty_nil, List.isEmpty_cons, List.map_nil, List.map_cons, Bool.not_false, Bool.not_true, Bool.true_or, Bool.or_true, Bool.or_false, Bool.and_true, Bool.true_and, Bool.and_self, decide_true, putD_some, putD_none, and_true, aCall, snaps, List.append_nil, List.elem_cons, List.elem_nil, List.length_cons, List.length_nil, List.getElem?_cons_zero, List.set_cons_zero, frz_nil, seqN, bindN, regN, snap_int, List.all_cons, List.all_nil, back1_r, Nat.le_refl, Nat.mul_one, Nat.zero_mul, List.not_mem_nil, beq_self_eq_true, bne_self_eq_false, Bool.false_eq_true, T_3, T_36, List.all_cons, List.all_nil, List.getD_cons_zero, List.getD_cons_succ, beq_self_eq_true, x6_25, r6_8_l, s6_8_0, s6_8_1, x6_27, x6_28, x6_26, x6_24, x6_32, r6_10_l, s6_10_0, x6_35, r6_11_l, s6_11_0, s6_11_1, s6_11_2, s6_11_3, x6_37, x6_36, x6_34, x6_51, r6_16_l, s6_16_0, s6_16_1, x6_54, r6_17_l, s6_17_0, s6_17_1, s6_17_2, s6_17_3, x6_56, x6_55, x6_53, x6_83, r6_25_l, s6_25_0, s6_25_1, s6_25_2, s6_25_3, s6_25_4, s6_25_5, x6_86, r6_26_l, s6_26_0, x6_87, x6_85, x6_88, x6_84, x6_82, x6_89, r6_27_l, r6_27_dr, r6_27_an, s6_27_0, s6_27_1, s6_27_2, s6_27_3, s6_27_4, x6_81, x6_52, x6_50, x6_33, x6_31, x6_30, x6_90, r6_9_l, s6_9_0, s6_9_1, s6_9_2, x6_29, x6_23, g1, g2, ej, hmem, hil, l1, l2, hat, hrl, w1, hshl, han]
    exact ⟨_, rfl, rfl⟩
  · simp (disch := omega) only [condX_bool, blockX_exit, blockX_normal, Bool.not_true, Bool.not_false, run_nil, run_cons, fget_cons', fput_nil, fput_cons', forget_nil, forget_cons', hget_nil', hget_cons', hset_cons', gcM_n, gcM_c, stp, just, Rd.bind, Rd.run, Rd.opt, upds, acells, tsz, rdCells, aLoad, aStore, opStore, aIndexAddr, aNum, aLen, aBuiltin, aBin, aInt, putC, Nat.reduceAdd, Nat.reduceLT, Nat.reduceBEq, Nat.reduceEqDiff, Nat.reduceLeDiff, Int.reduceNeg, ↓reduceIte, liveBlk_eq, Nat.zero_add, List.nil_append, List.getElem?_toArray, rtX_some, addT_some, drX_some, runT_nil, runT_cons, neat_eq, descF_nil', descF_cons', ascH_nil', ascH_cons', stpT, Rd.foot, writing, touching, Tr.empty, dynPairs, apartT, disj, List.isEmpty_nil, List.isEmpty_cons, List.map_nil, List.map_cons, Bool.not_false, Bool.not_true, Bool.true_or, Bool.or_true, Bool.or_false, Bool.and_true, Bool.true_and, Bool.and_self, decide_true, putD_some, putD_none, and_true, aCall, snaps, List.append_nil, List.elem_cons, List.elem_nil, List.length_cons, List.length_nil, List.getElem?_cons_zero, List.set_cons_zero, frz_nil, seqN, bindN, regN, snap_int, List.all_cons, List.all_nil, back1_r, Nat.le_refl, Nat.mul_one, Nat.zero_mul, List.not_mem_nil, beq_self_eq_true, bne_self_eq_false, Bool.false_eq_true, T_3, T_36, List.all_cons, List.all_nil, List.getD_cons_zero, List.getD_cons_succ, beq_self_eq_true, x6_25, r6_8_l, s6_8_0, s6_8_1, x6_27, x6_28, x6_26, x6_24, x6_32, r6_10_l, s6_10_0, x6_35, r6_11_l, s6_11_0, s6_11_1, s6_11_2, s6_11_3, x6_37, x6_36, x6_34, x6_51, r6_16_l, s6_16_0, s6_16_1, x6_54, r6_17_l, s6_17_0, s6_17_1, s6_17_2, s6_17_3, x6_56, x6_55, x6_53, x6_83, r6_25_l, s6_25_0, s6_25_1, s6_25_2, s6_25_3, s6_25_4, s6_25_5, x6_86, r6_26_l, s6_26_0, x6_87, x6_85, x6_88, x6_84, x6_82, x6_89, r6_27_l, r6_27_dr, r6_27_an, s6_27_0, s6_27_1, s6_27_2, s6_27_3, s6_27_4, x6_81, x6_52, x6_50, x6_33, x6_31, x6_30, x6_90, r6_9_l, s6_9_0, s6_9_1, s6_9_2, x6_29, x6_23, g1, g2, ej, hmem, hil, l1, l2, hat, hrl, w1, hshl, han]
    exact ⟨_, rfl, rfl⟩
end Go.AM.YtgfnbmfjbjopkaaDoor
end

section
namespace Go.AM.YtgfnbmfjbjopkaaDoor
open Go Go.AM Go.AM.Mule
set_option maxRecDepth 100000
set_option maxHeartbeats 8000000
theorem aBack_agg1 {C : Callee} {site : Nat → Nat} {seen : List Nat} {f : FuncId} {args : List AV} {id n g sz : Nat} {cells : List AV} {H' : AHeap} (h : C f args [] 0 = some (.agg [.ref id 0 n n g sz false, .nilsl], H')) (hg : hget H' id = some ⟨.row, cells⟩) (e1 : cells.length = g) :
    aBack site true seen (thaw C f args [] 0) = back1 (site 0) seen (fun k0 => .agg [.ref k0 0 n n g sz false, .nilsl]) ⟨.row, cells⟩ := by
  subst e1
  simp only [thaw, h, frzRet, aBack, sitesB, aBackAt, imp, imps, hg, List.length_nil, List.not_mem_nil, not_false_eq_true, and_true, if_true, List.map_cons, List.map_nil, AM.apart, List.elem_nil, Bool.not_false, Bool.and_true, AV.leads, AV.leads.leadsL, Bool.or_false, back1]
theorem aBack_agg2 {C : Callee} {site : Nat → Nat} {seen : List Nat} {f : FuncId} {args : List AV} {id id' n n' g g' sz sz' : Nat} {cells cells' : List AV} {H' : AHeap} (h : C f args [] 0 = some (.agg [.ref id 0 n n g sz false, .ref id' 0 n' n' g' sz' false], H')) (hg : hget H' id = some ⟨.row, cells⟩) (hg' : hget H' id' = some ⟨.row, cells'⟩) (hne : id' ≠ id) (hs : site 1 ≠ site 0) (e1 : cells.length = g) (e2 : cells'.length = g') :
    aBack site true seen (thaw C f args [] 0) = back2 (site 0) (site 1) seen (fun k0 k1 => .agg [.ref k0 0 n n g sz false, .ref k1 0 n' n' g' sz' false]) ⟨.row, cells⟩ ⟨.row, cells'⟩ := by
  subst e1; subst e2
  have hb : ∀ off, (site 1 + off == site 0 + off) = false := fun off => by rw [beq_eq_false_iff_ne]; omega
  simp only [thaw, h, frzRet, aBack, sitesB, aBackAt, imp, imps, hg, hg', hne, hb, List.length_nil, List.length_cons, List.not_mem_nil, List.mem_cons, or_false, not_false_eq_true, and_true, if_true, List.map_cons, List.map_nil, AM.apart, List.elem_cons, List.elem_nil, Bool.not_false, Bool.and_true, AV.leads, AV.leads.leadsL, Bool.or_false, Bool.true_or, Nat.zero_add, back2]
/-- What a call for a caravan by numbers gives. -/
theorem made_call0 {d : Nat} {site : Nat → Nat} {seen : List Nat} {D : Dro} (h : DOk D) {many : Int} (hm : many = 5 ∨ many = 6) (he : mdP D (nOf D many) = []) :
    aBack site true seen (thaw (callA E fg 1000 (d + 2)) 40 [.agg (dcs D), .int .i64 many] [] 0) = back1 (site 0) seen (fun k => .agg [.ref k 0 (nOf D many) (nOf D many) (nOf D many * 5) 5 false, .nilsl]) ⟨.row, cls lc (mdL D (nOf D many))⟩ := by
  obtain ⟨g, H', hg, hr, h1, h2⟩ := made_run (d := d) h hm
  have hn6 : nOf D many ≤ 6 := by have := nOf_b h hm; rcases hm with rfl | rfl <;> omega
  rw [he] at hr
  exact aBack_agg1 hr h1 (by rw [cls_length lc_len, mdL_len h hn6])
theorem made_call1 {d : Nat} {site : Nat → Nat} {seen : List Nat} {D : Dro} (h : DOk D) {many : Int} (hm : many = 5 ∨ many = 6) (he : mdP D (nOf D many) ≠ []) (hs : site 1 ≠ site 0) :
    aBack site true seen (thaw (callA E fg 1000 (d + 2)) 40 [.agg (dcs D), .int .i64 many] [] 0) = back2 (site 0) (site 1) seen (fun k0 k1 => .agg [.ref k0 0 (nOf D many) (nOf D many) (nOf D many * 5) 5 false, .ref k1 0 (mdP D (nOf D many)).length (mdP D (nOf D many)).length ((mdP D (nOf D many)).length * 2) 2 false]) ⟨.row, cls lc (mdL D (nOf D many))⟩ ⟨.row, cls bc (mdP D (nOf D many))⟩ := by
  obtain ⟨g, H', hg, hr, h1, h2⟩ := made_run (d := d) h hm
  have hn6 : nOf D many ≤ 6 := by have := nOf_b h hm; rcases hm with rfl | rfl <;> omega
  have h0 : (mdP D (nOf D many)).length ≠ 0 := by rw [Ne, List.length_eq_zero_iff]; exact he
  have hb : bV g (mdP D (nOf D many)).length = .ref g 0 (mdP D (nOf D many)).length (mdP D (nOf D many)).length ((mdP D (nOf D many)).length * 2) 2 false := if_neg h0
  rw [hb] at hr
  exact aBack_agg2 hr h1 (h2 h0) (by rcases hg with rfl | rfl <;> omega) hs (by rw [cls_length lc_len, mdL_len h hn6]) (cls_length bc_len _)
/-- A call of mule.Rule. -/
theorem Rule_call {d : Nat} {site : Nat → Nat} {seen : List Nat} {ls : List Ld} {es : List Pr} {a b : AV} (ha : SV lc ls a) (hb : SV bc es b) (h : chk ls es = 0) :
    aBack site true seen (thaw (callA E fg 1000 (d + 7)) 21 [.agg [a, b]] [] 0) = back1 (site 0) seen (fun j => .tup [.ref j 0 ls.length ls.length ls.length 1 false, .int .i64 0]) ⟨.row, ins (ruO ls (sets ls.length es) ls.length)⟩ := by
  obtain ⟨H', h1, h2⟩ := rule_good (d := d) ha hb h
  obtain ⟨tr, ord, _, _⟩ := chk_tr h
  have hlen : (ins (ruO ls (sets ls.length es) ls.length)).length = ls.length := by rw [ins_length, ← ruO_eq tr ord, List.length_reverse, rO_len]
  have := aBack_refint (site := site) (seen := seen) (C := callA E fg 1000 (d + 7)) (f := 21) (args := [.agg [a, b]]) (id := 18) (n := ls.length) (sz := 1) (k := .i64) (z := 0) (cells := ins (ruO ls (sets ls.length es) ls.length)) (H' := H') (by rw [hlen]; exact h1) h2
  rw [hlen] at this
  exact this
end Go.AM.YtgfnbmfjbjopkaaDoor
end

section
namespace Go.AM
theorem headA_dropB {k : Nat} {c : List AV} {T : AHeap} (hc : refsL c = []) {φ : AFr} {T' : AHeap} (hT : hget T' k = none) (h : headA [] (φ, (k, ⟨.box, []⟩) :: T) = (φ, T')) : headA [] (φ, (k, ⟨.box, c⟩) :: T) = (φ, T') := by
  simp only [headA, mark_box hc] at h ⊢
  generalize mark ((k, ⟨.box, []⟩) :: T) 1000 (refsF φ) [] = keep at *
  simp only [keepB] at h ⊢
  have hno : ∀ S, (k, ⟨.box, []⟩) :: S ≠ T' := by
    intro S e
    rw [← e, hget_cons', if_pos rfl] at hT
    exact absurd hT (by simp)
  cases hcnd : (keep.elem k || (hget [] k).isSome) with
  | true =>
    rw [hcnd] at h
    simp only [cond_true, gcIf] at h
    cases hcl : closedB φ ((k, ⟨.box, []⟩) :: keepB [] keep T) with
    | true =>
      rw [hcl] at h
      simp only [Prod.mk.injEq, true_and] at h
      exact absurd h (hno _)
    | false =>
      rw [hcl] at h
      simp only [Prod.mk.injEq, true_and] at h
      exact absurd h (hno _)
  | false =>
    rw [hcnd] at h
    simp only [cond_false, gcIf] at h ⊢
    cases hcl : closedB φ (keepB [] keep T) with
    | true =>
      rw [hcl] at h
      exact h
    | false =>
      rw [hcl] at h
      simp only [Prod.mk.injEq, true_and] at h
      exact absurd h (hno _)
end Go.AM
namespace Go.AM.YtgfnbmfjbjopkaaDoor
open Go Go.AM Go.AM.Mule
set_option maxRecDepth 100000
set_option maxHeartbeats 8000000
theorem bit_lt {es : List (Nat × Nat)} {n : Nat} (hp : ∀ p ∈ es, p.1 < n ∧ p.2 < n) {a b : Nat} (hr : Mule.Reach es a b) : a < n ∧ b < n := by
  have step : ∀ {a b : Nat}, Mule.Edge es a b → a < n ∧ b < n := fun h => hp _ h
  induction hr with
  | single e => exact step e
  | tail _ e ih => exact ⟨ih.1, (step e).2⟩
theorem mdP_ok {D : Dro} (h : DOk D) {n : Nat} (hn : n ≤ 6) : ∀ q ∈ mdP D n, ∃ a b : Nat, q = ((a : Int), (b : Int)) ∧ b < 6 := fun q hq => by
  obtain ⟨a, b, e, _, h2, h3, _⟩ := mem_mdP h n hn q hq
  exact ⟨a, b, e, by omega⟩
theorem muleRule_law {D : Dro} (h : DOk D) (hw : ∃ H0, callA E fg 1000 40 17 [] [] 0 = some (.bool true, H0)) :
    rsOf (bodyA E (callA E fg 1000 40) fg 1000 6 [.agg (dcs D)] [] 0) = some (.bool true) := by
  have hm : (6 : Int) = 5 ∨ (6 : Int) = 6 := .inr rfl
  obtain ⟨n1, n2⟩ := nOf_b h hm
  have h6 : nOf D 6 ≤ 6 := by omega
  have hmade0 := fun site seen he => made_call0 (d := 38) (site := site) (seen := seen) h hm he
  have hmade1 := fun site seen he hs => made_call1 (d := 38) (site := site) (seen := seen) h hm he hs
  have hck := made_chk h n1 h6
  have hok := mdP_ok h h6
  have hpl := mdP_len (D := D) h6
  have hll := mdL_len h h6
  generalize nOf D 6 = n at *
  generalize mdL D n = ls at *
  generalize mdP D n = es at *
  obtain ⟨tr, ord, hreach, hlt⟩ := chk_tr hck
  have hRule := fun site seen a b ha hb => Rule_call (d := 33) (site := site) (seen := seen) (a := a) (b := b) ha hb hck
  rw [hll] at tr ord hreach hlt hRule
  have hworks := fun site seen => aBack_bool (site := site) (seen := seen) hw
  have hbit : ∀ a b, bit (sets n es) a b = true → a < n ∧ b < n := fun a b hb => bit_lt hlt ((hreach a b).1 hb)
  generalize sets n es = B at *
  have hgo := fun k hk => ro_go (C := callA E fg 1000 40) tr ord k hk (mrC' (lt64 tr.le (rS_lt ls B n k)) hok (by omega) 37) (free_lasts tr hreach hok (lt64 tr.le (rS_lt ls B n k)) (rS_down tr ord hbit k (by omega)))
  have hrl : (ins (ruO ls B n)).length = n := by rw [ins_length, ← ruO_eq tr ord, List.length_reverse, rO_len]
  have hcl : (cls lc ls).length = n * 5 := by rw [cls_length lc_len, hll]
  have hcb := cls_length bc_len es
  have tcl : List.take (n * 5) (cls lc ls) = cls lc ls := List.take_of_length_le (by omega)
  have tcb : List.take (es.length * 2) (cls bc es) = cls bc es := List.take_of_length_le (by omega)
  have hdl := dcs_len h
  have tdl : List.take 38 (dcs D) = dcs D := List.take_of_length_le (by omega)
  have hsn := dcs_snap h (d := 198) (by omega)
  have hsh := shlI (i := n) (by omega)
  have h2 : 2 ^ n ≤ 64 := Nat.pow_le_pow_right (by omega) (show n ≤ 6 from h6)
  have h21 : 1 ≤ 2 ^ n := Nat.one_le_two_pow
  have ws : wrp .i64 (((1 <<< n : Nat) : Int) - 1) = (rS ls B n 0 : Nat) := by
    rw [Nat.one_shiftLeft]
    have : rS ls B n 0 = 2 ^ n - 1 := rfl
    rw [this, wrp64 (by omega)]; omega
  have wn : wrp .i64 ((n : Int) - 1) = (n : Int) - 1 - (0 : Nat) := by rw [wrp64 (by omega)]; omega
  generalize callA E fg 1000 40 = C at *
  have hfin : ((n : Int) - 1 - n) = -1 := by omega
  have hn1 : ¬ ((-1 : Int) ≥ 0) := by omega
  have hl := fun se he => loopS (f := (execA E C (fg 6) 0 99 [] 1000 c6_23)) (fun k => roS ls B es n k) n ((roS ls B es n 0).1, (1, ⟨.box, dcs D⟩) :: (roS ls B es n 0).2) hgo (by
      rcases caV n es with ⟨e1, e2⟩ | ⟨e1, e2⟩ <;> simp only [roS] <;> rw [e1, e2] <;> exact headA_dropB (refs_ints _ dcs_int) rfl rfl) (by omega) (e := .exit 0) (se := se) he (by simp)
  by_cases he : es = []
  · subst he
    have hm0 := fun site seen => hmade0 site seen rfl
    have hR := fun site seen ex => hRule site seen (.imm (cls lc ls) n ex) .nilsl (.inr ⟨ex, by rw [hll]⟩) (.inl ⟨rfl, rfl⟩)
    have l1 := hl ([(41, .bool false), (8, .int .i64 (-1)), (7, .ptr 7 0 1), (5, .ref 24 0 n n n 1 false), (3, .ptr 3 0 2)], (roS ls B [] n n).2) (by
      simp only [roS, hfin, caH, caB, List.length_nil, if_true]
      generalize rS ls B n n = left at *
      generalize ruO ls B n = ro at *
      simp (disch := omega) only [seqX_exit, condX_bool, run_nil, run_cons, fget_cons', fput_cons', forget_nil, forget_cons', gcM_c, stp, just, Rd.bind, Rd.run, Rd.opt, upds, aBin, aInt, Nat.reduceBEq, Nat.reduceEqDiff, Nat.reduceLeDiff, Int.reduceNeg, ↓reduceIte, decide_false, putD_some, List.elem_cons, List.elem_nil, seqN, bindN, regN, beq_self_eq_true, Bool.false_eq_true, beq_self_eq_true, x6_25, r6_8_l, s6_8_0, s6_8_1, x6_27, x6_28, x6_26, x6_24, x6_23, hn1])
    simp only [caH, caB, List.length_nil, if_true] at l1
    simp (disch := omega) only [condX_bool, blockX_exit, ↓gd, fset_cons, bodyX_ret, run_nil, run_cons, fget_cons', fput_nil, fput_cons', forget_nil, forget_cons', hget_nil', hget_cons', hset_nil', hset_cons', frame0, gcM_c, stp, opPick, opBox, justO, just, Rd.bind, Rd.run, Rd.opt, upds, acells, zeroCells, tsz, rdCells, fieldOf, aFieldAddr, aLoad, aStore, opStore, opExtract, resA, resL, fresh, aLen, aBuiltin, aBin, aInt, putC, Nat.reduceAdd, Nat.reduceBEq, Nat.reduceEqDiff, Nat.reduceLeDiff, Int.reduceNeg, ↓reduceIte, reduceCtorEq, liveBlk_eq, Nat.zero_add, Nat.add_zero, List.nil_append, List.getElem?_toArray, Bool.and_true, decide_true, putD_some, putD_none, and_true, aCall, snaps, List.append_nil, Option.map_some, List.elem_cons, List.elem_nil, List.length_cons, List.length_nil, List.getElem?_cons_zero, List.getElem?_cons_succ, List.drop_zero, List.take_succ_cons, List.take_nil, List.set_cons_zero, List.set_cons_succ, frz_nil, frz_eq, frzB_row, seqN, bindN, regN, snap_int, snap_nilsl, snap_ref, snap_agg, back1_r, List.cons_append, Nat.le_refl, Nat.zero_mul, List.not_mem_nil, beq_self_eq_true, bne_self_eq_false, Bool.false_eq_true, T_3, T_22, T_25, T_36, T_58, beq_self_eq_true, x6_1, r6_0_l, s6_0_0, s6_0_1, x6_3, r6_1_l, s6_1_0, s6_1_1, s6_1_2, s6_1_3, x6_5, r6_2_l, s6_2_0, s6_2_1, s6_2_2, s6_2_3, x6_7, r6_3_l, s6_3_0, s6_3_1, s6_3_2, s6_3_3, s6_3_4, s6_3_5, s6_3_6, x6_10, r6_4_l, s6_4_0, s6_4_1, s6_4_2, s6_4_3, s6_4_4, s6_4_5, s6_4_6, s6_4_7, x6_13, r6_5_l, s6_5_0, x6_14, x6_12, x6_15, x6_11, x6_9, x6_17, r6_6_l, s6_6_0, s6_6_1, s6_6_2, s6_6_3, s6_6_4, x6_20, r6_7_l, s6_7_0, s6_7_1, s6_7_2, x6_22, x6_21, x6_19, x6_92, r6_28_l, s6_28_0, s6_28_1, x6_93, x6_91, x6_18, x6_16, x6_8, x6_6, x6_4, x6_2, x6_0, b_6, hm0, hR, l1, hworks, hcl, tcl, hrl, hdl, tdl, hsn, hsh, ws, wn]
    done
  · have hm1 := fun site seen hs => hmade1 site seen he hs
    have hR := fun site seen ex ex' => hRule site seen (.imm (cls lc ls) n ex) (.imm (cls bc es) es.length ex') (.inr ⟨ex, by rw [hll]⟩) (.inr ⟨ex', rfl⟩)
    have h0 : es.length ≠ 0 := by rw [Ne, List.length_eq_zero_iff]; exact he
    have e1 : caB n es.length = .ref 117 0 es.length es.length (es.length * 2) 2 false := if_neg h0
    have e2 : caH es = [(117, ⟨.froz, cls bc es⟩)] := if_neg h0
    have l1 := hl ([(41, .bool false), (8, .int .i64 (-1)), (7, .ptr 7 0 1), (5, .ref 24 0 n n n 1 false), (3, .ptr 3 0 2)], (roS ls B es n n).2) (by
      simp only [roS, hfin]
      rw [e1, e2]
      generalize rS ls B n n = left at *
      generalize ruO ls B n = ro at *
      simp (disch := omega) only [seqX_exit, condX_bool, run_nil, run_cons, fget_cons', fput_cons', forget_nil, forget_cons', gcM_c, stp, just, Rd.bind, Rd.run, Rd.opt, upds, aBin, aInt, Nat.reduceBEq, Nat.reduceEqDiff, Nat.reduceLeDiff, Int.reduceNeg, ↓reduceIte, decide_false, putD_some, List.elem_cons, List.elem_nil, seqN, bindN, regN, beq_self_eq_true, Bool.false_eq_true, beq_self_eq_true, x6_25, r6_8_l, s6_8_0, s6_8_1, x6_27, x6_28, x6_26, x6_24, x6_23, hn1])
    simp only [] at l1
    rw [e1, e2] at l1
    simp (disch := omega) only [condX_bool, blockX_exit, ↓gd, fset_cons, bodyX_ret, run_nil, run_cons, fget_cons', fput_nil, fput_cons', forget_nil, forget_cons', hget_nil', hget_cons', hset_nil', hset_cons', frame0, gcM_c, stp, opPick, opBox, justO, just, Rd.bind, Rd.run, Rd.opt, upds, acells, zeroCells, tsz, rdCells, fieldOf, aFieldAddr, aLoad, aStore, opStore, opExtract, resA, resL, fresh, aLen, aBuiltin, aBin, aInt, putC, Nat.reduceAdd, Nat.reduceMul, Nat.reduceBEq, Nat.reduceEqDiff, Nat.reduceLeDiff, Int.reduceNeg, ↓reduceIte, reduceCtorEq, liveBlk_eq, Nat.zero_add, Nat.add_zero, List.nil_append, List.getElem?_toArray, Bool.and_true, decide_true, putD_some, putD_none, and_true, aCall, snaps, List.append_nil, Option.map_some, List.elem_cons, List.elem_nil, List.length_cons, List.length_nil, List.getElem?_cons_zero, List.getElem?_cons_succ, List.drop_zero, List.take_succ_cons, List.take_nil, List.set_cons_zero, List.set_cons_succ, frz_nil, frz_eq, frzB_row, seqN, bindN, regN, snap_int, snap_ref, snap_agg, back1_r, back2_r, List.cons_append, Nat.le_refl, Nat.zero_mul, List.not_mem_nil, beq_self_eq_true, bne_self_eq_false, Bool.false_eq_true, T_3, T_22, T_25, T_36, T_58, beq_self_eq_true, x6_1, r6_0_l, s6_0_0, s6_0_1, x6_3, r6_1_l, s6_1_0, s6_1_1, s6_1_2, s6_1_3, x6_5, r6_2_l, s6_2_0, s6_2_1, s6_2_2, s6_2_3, x6_7, r6_3_l, s6_3_0, s6_3_1, s6_3_2, s6_3_3, s6_3_4, s6_3_5, s6_3_6, x6_10, r6_4_l, s6_4_0, s6_4_1, s6_4_2, s6_4_3, s6_4_4, s6_4_5, s6_4_6, s6_4_7, x6_13, r6_5_l, s6_5_0, x6_14, x6_12, x6_15, x6_11, x6_9, x6_17, r6_6_l, s6_6_0, s6_6_1, s6_6_2, s6_6_3, s6_6_4, x6_20, r6_7_l, s6_7_0, s6_7_1, s6_7_2, x6_22, x6_21, x6_19, x6_92, r6_28_l, s6_28_0, s6_28_1, x6_93, x6_91, x6_18, x6_16, x6_8, x6_6, x6_4, x6_2, x6_0, b_6, hm1, hR, l1, hworks, hcl, tcl, hcb, tcb, hrl, hdl, tdl, hsn, hsh, ws, wn]
    done
end Go.AM.YtgfnbmfjbjopkaaDoor
end

section
namespace Go.AM.YtgfnbmfjbjopkaaDoor
open Go Go.AM
set_option maxRecDepth 1000000
theorem works_run : isTrue (callA E fg 1000 40 17 [] [] 0) = true := by kernel_rfl
end Go.AM.YtgfnbmfjbjopkaaDoor
end
