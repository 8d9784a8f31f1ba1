/- Truths by numbers. Own work of this project. -/
import Derived.Test.YtikchlfbjdfioaaCorA
import Derived.Test.YtikchlfbjdfioaaShA
namespace Go.AM.Ytikchlfbjdfioaa
open Go Go.AM
set_option maxRecDepth 100000
set_option maxHeartbeats 4000000

def tN (l : List Stone) (bs : List Int) (i : Nat) : Int := (l.getD i default).least + (bs.getD i 0).tmod ((l.getD i default).most - (l.getD i default).least + 1)
def truI (l : List Stone) (bs : List Int) (i : Nat) : List Int := (List.range i).map (tN l bs)
theorem truI_length (l bs i) : (truI l bs i).length = i := by simp [truI]
theorem truI_succ (l bs i) : truI l bs (i + 1) = truI l bs i ++ [tN l bs i] := by simp [truI, List.range_succ]
theorem truI_at {l : List Stone} {bs : List Int} {n i : Nat} (h : i < n) : (truI l bs n)[i]? = some (tN l bs i) := by simp [truI, h]
theorem weighL_all : ∀ {l : List Stone} {ws : List Int}, (∀ (i : Nat) (s : Stone) (w : Int), l[i]? = some s → ws[i]? = some w → s.least ≤ w ∧ w ≤ s.most) → weighL l ws = 0
  | [], _, _ => by unfold weighL; rfl
  | _ :: _, [], _ => by unfold weighL; rfl
  | s :: l, w :: ws, h => by
    have h0 := h 0 s w rfl rfl
    simp only [weighL]
    rw [if_neg (by omega), if_neg (by omega)]
    exact weighL_all fun i s w h1 h2 => h (i + 1) s w (by simpa using h1) (by simpa using h2)
theorem tru_weigh {l : List Stone} {bs : List Int} (h : OkP l) (hbs : BOk bs) : weighE l (truI l bs l.length) = 0 := by
  unfold weighE
  rw [if_pos (by rw [truI_length])]
  refine weighL_all fun i s w h1 h2 => ?_
  have hi := at_lt h1
  have hle := h.le
  rw [truI_at hi] at h2
  obtain rfl := Option.some.inj h2
  obtain ⟨_, _, _, _, l1, lm, m9⟩ := h.fits i s h1
  obtain ⟨b, hb⟩ := at_ex (l := bs) (k := i) (by have := hbs.l; omega)
  obtain ⟨b0, b1⟩ := hbs.b i b hb
  obtain ⟨t1, t2⟩ := tmod_b b0 (s.most - s.least + 1) (by omega)
  simp only [tN, List.getD_eq_getElem?_getD, h1, hb, Option.getD_some]
  omega

theorem tru_round {C : Callee} {l : List Stone} {ex : Bool} {bs : List Int} (h : OkP l) (hbs : BOk bs) (i : Nat) (hi : i < l.length) (out : List Int) (ho : out.length = i) :
    ∃ s', execA E C (fg 12) 0 34 [] 1000 c12_9 ([(10, .int .i64 i), (9, .int .i64 l.length), (8, .imm (pcells l) l.length ex), (5, outV 31 out), (3, .ptr 3 0 5)], (3, ⟨.box, bcells bs⟩) :: outH 31 out) = some (.normal, s') ∧
      headA [] s' = ([(10, .int .i64 (i + 1 : Nat)), (9, .int .i64 l.length), (8, .imm (pcells l) l.length ex), (5, outV 31 (out ++ [tN l bs i])), (3, .ptr 3 0 5)], (3, ⟨.box, bcells bs⟩) :: outH 31 (out ++ [tN l bs i])) := by
  obtain ⟨s, hs⟩ := at_ex hi
  have hle := h.le
  have hi5 : i < 5 := by omega
  obtain ⟨b, hb⟩ := at_ex (l := bs) (k := i) (by have := hbs.l; omega)
  have hs' : l.getD i default = s := by simp [hs]
  have hb' : bs.getD i 0 = b := by simp [hb]
  obtain ⟨_, _, _, _, l1, lm, m9⟩ := h.fits i s hs
  obtain ⟨b0, b1⟩ := hbs.b i b hb
  obtain ⟨t1, t2⟩ := tmod_b b0 (s.most - s.least + 1) (by omega)
  have w1 : wrp .i64 b = b := wrp64 (by omega)
  have w2 : wrp .i64 (s.most - s.least) = s.most - s.least := wrp64 (by omega)
  have w3 : wrp .i64 (s.most - s.least + 1) = s.most - s.least + 1 := wrp64 (by omega)
  have w4 : wrp .i64 (s.least + b.tmod (s.most - s.least + 1)) = s.least + b.tmod (s.most - s.least + 1) := wrp64 (by omega)
  have n1 : ¬ (s.most - s.least + 1 = 0) := by omega
  have hbl : (bcells bs).length = 5 := by rw [bcells_length, hbs.l]
  have hbi : (i : Int) < 5 := by omega
  have hx : tN l bs i = s.least + b.tmod (s.most - s.least + 1) := by rw [tN, hs', hb']
  rw [hx]
  obtain ⟨hl5, _⟩ := hbs
  cases out with
  | nil =>
    simp only [outV, outH, List.nil_append]
    simp only [seqX_normal, bindR_some, regX_some, condX_bool, blockX_normal, Bool.not_true, Bool.not_false, run_nil, run_cons, fget_cons', fput_cons', forget_nil, forget_cons', hget_nil', hget_cons', hset_nil', hset_cons', gcM, stp, opBox, justO, just, Rd.bind, Rd.run, Rd.opt, upds, acells, zeroCells, tsz, elemT, rdCells, fieldOf, aFieldAddr, aLoad, aStore, opStore, fresh, aIndexAddr, aNum, aBuiltin, aBin, aInt, putC, evO, Nat.reduceAdd, Nat.reduceLT, Nat.reduceGT, Nat.reduceBEq, Nat.reduceEqDiff, Nat.reduceLeDiff, ↓reduceIte, reduceCtorEq, liveBlk_eq, Nat.zero_add, ne_eq, List.nil_append, List.getElem?_toArray, rtX_some, addT_some, drX_some, runT_nil, runT_cons, neat_eq, descF_nil', descF_cons', ascH_nil', ascH_cons', stpT, Rd.foot, writing, touching, Tr.empty, dynPairs, apartT, disj, List.isEmpty_nil, List.isEmpty_cons, List.map_nil, List.map_cons, Bool.not_false, Bool.not_true, Bool.true_or, Bool.or_true, Bool.or_false, Bool.and_true, Bool.true_and, Bool.and_self, decide_true, not_true_eq_false, or_self, aBuildSlice, partsOf, fillA, repC, frz, isSliceT, aAppend, srcOf, window, putD_some, putD_none, and_true, Int.natCast_nonneg, Int.ofNat_lt, Int.toNat_natCast, snaps, snap, List.append_nil, List.elem_cons, List.elem_nil, List.length_cons, List.length_nil, List.getElem?_cons_zero, List.getElem?_cons_succ, List.drop_zero, List.take_succ_cons, List.take_nil, List.set_cons_zero, List.set_cons_succ, T_3, T_27, T_36, T_44, T_5, T_26, x12_10, r12_3_l, s12_3_0, x12_13, x12_14, x12_12, x12_18, r12_4_l, s12_4_0, s12_4_1, s12_4_2, s12_4_3, s12_4_4, s12_4_5, x12_19, r12_5_l, r12_5_dr, r12_5_an, s12_5_0, s12_5_1, s12_5_2, s12_5_3, s12_5_4, s12_5_5, s12_5_6, s12_5_7, s12_5_8, s12_5_9, s12_5_10, s12_5_11, s12_5_12, s12_5_13, s12_5_14, s12_5_15, s12_5_16, s12_5_17, x12_17, x12_16, x12_20, r12_6_l, s12_6_0, s12_6_1, x12_15, x12_11, x12_9, hi, hbi, hbl, pcells_length, pcells_at l i s hs, sc, pcells_off l i hi, bcells_at hb, Nat.mul_one, w1, w2, w3, w4, n1, aConv, wrp_succ (show i < 1000000 by omega), fillA, List.all_cons, List.all_nil, List.getD_cons_zero, List.getD_cons_succ, beq_self_eq_true, cl5, room3 (show 1 ≤ 1000000 by omega)]
    match bs, hl5 with
    | [_, _, _, _, _], _ => exact ⟨_, rfl, rfl⟩
  | cons a o =>
    have hlen : (icells (a :: o)).length = o.length + 1 := by simp [icells]
    have hno : ¬ o.length + 1 + 1 ≤ o.length + 1 := by omega
    have ho2 : o.length + 1 = i := by simpa using ho
    have hl2 : ∀ z : Int, (o ++ [z]).length = o.length + 1 := fun z => by simp
    simp only [outV, outH, List.cons_append, hl2]
    simp only [seqX_normal, bindR_some, regX_some, condX_bool, blockX_normal, Bool.not_true, Bool.not_false, run_nil, run_cons, fget_cons', fput_cons', forget_nil, forget_cons', hget_nil', hget_cons', hset_cons', gcM, stp, opBox, justO, just, Rd.bind, Rd.run, Rd.opt, upds, acells, zeroCells, tsz, elemT, rdCells, fieldOf, aFieldAddr, aLoad, aStore, opStore, fresh, aIndexAddr, aNum, aBuiltin, aBin, aInt, putC, evO, Nat.reduceAdd, Nat.reduceLT, Nat.reduceGT, Nat.reduceBEq, Nat.reduceEqDiff, Nat.reduceLeDiff, ↓reduceIte, reduceCtorEq, liveBlk_eq, Nat.zero_add, ne_eq, List.nil_append, List.getElem?_toArray, rtX_some, addT_some, drX_some, runT_nil, runT_cons, neat_eq, descF_nil', descF_cons', ascH_nil', ascH_cons', stpT, Rd.foot, writing, touching, Tr.empty, dynPairs, apartT, disj, List.isEmpty_nil, List.isEmpty_cons, List.map_nil, List.map_cons, Bool.not_false, Bool.not_true, Bool.true_or, Bool.or_true, Bool.or_false, Bool.and_true, Bool.true_and, Bool.and_self, decide_true, not_true_eq_false, or_self, aBuildSlice, partsOf, fillA, repC, frz, isSliceT, aAppend, srcOf, window, putD_some, putD_none, and_true, Int.natCast_nonneg, Int.ofNat_lt, Int.toNat_natCast, snaps, snap, List.append_nil, List.elem_cons, List.elem_nil, List.length_cons, List.length_nil, List.getElem?_cons_zero, List.getElem?_cons_succ, List.drop_zero, List.take_succ_cons, List.take_nil, List.set_cons_zero, List.set_cons_succ, T_3, T_27, T_36, T_44, T_5, T_26, x12_10, r12_3_l, s12_3_0, x12_13, x12_14, x12_12, x12_18, r12_4_l, s12_4_0, s12_4_1, s12_4_2, s12_4_3, s12_4_4, s12_4_5, x12_19, r12_5_l, r12_5_dr, r12_5_an, s12_5_0, s12_5_1, s12_5_2, s12_5_3, s12_5_4, s12_5_5, s12_5_6, s12_5_7, s12_5_8, s12_5_9, s12_5_10, s12_5_11, s12_5_12, s12_5_13, s12_5_14, s12_5_15, s12_5_16, s12_5_17, x12_17, x12_16, x12_20, r12_6_l, s12_6_0, s12_6_1, x12_15, x12_11, x12_9, hi, hbi, hbl, pcells_length, pcells_at l i s hs, sc, pcells_off l i hi, bcells_at hb, Nat.mul_one, w1, w2, w3, w4, n1, aConv, wrp_succ (show i < 1000000 by omega), fillA, List.all_cons, List.all_nil, List.getD_cons_zero, List.getD_cons_succ, beq_self_eq_true, cl5, room3 (show o.length + 1 + 1 ≤ 1000000 by omega), hlen, hno, take_icells, icells_snoc, Nat.le_refl, List.cons_append]
    match bs, hl5 with
    | [_, _, _, _, _], _ => exact ⟨_, rfl, rfl⟩
theorem truth_run {C : Callee} {l : List Stone} {ex : Bool} {bs : List Int} (h : OkP l) (hbs : BOk bs) : bodyA E C fg 1000 12 [.imm (pcells l) l.length ex, .agg (bcells bs)] [] 0 = some (.ref 31 0 l.length l.length l.length 1 false, [(3, ⟨.box, bcells bs⟩), (31, ⟨.row, icells (truI l bs l.length)⟩)]) := by
  have hle := h.le
  obtain ⟨e1, e2⟩ := outV_ne (id := 31) (l := truI l bs l.length) (by rw [truI_length]; exact h.ne)
  rw [truI_length] at e1
  have hbl : (bcells bs).length = 5 := by rw [bcells_length, hbs.l]
  have hloop := iter_all (f := execA E C (fg 12) 0 34 [] 1000 c12_9) (hd := headA []) (fun i => ([(10, .int .i64 i), (9, .int .i64 l.length), (8, .imm (pcells l) l.length ex), (5, outV 31 (truI l bs i)), (3, .ptr 3 0 5)], (3, ⟨.box, bcells bs⟩) :: outH 31 (truI l bs i))) l.length 1000 0
    ([(10, .int .i64 0), (9, .int .i64 l.length), (8, .imm (pcells l) l.length ex), (5, .nilsl), (3, .ptr 3 0 5)], [(3, ⟨.box, bcells bs⟩)]) (by
      obtain ⟨hl5, _⟩ := hbs
      match bs, hl5 with
      | [_, _, _, _, _], _ => rfl) (by omega) (fun i h1 h2 => by
      have := tru_round (C := C) (ex := ex) h hbs i (by omega) (truI l bs i) (truI_length l bs i)
      rw [truI_succ]
      exact this) (e := .exit 0) (se := ([(11, .bool false), (10, .int .i64 l.length), (9, .int .i64 l.length), (8, .imm (pcells l) l.length ex), (5, .ref 31 0 l.length l.length l.length 1 false), (3, .ptr 3 0 5)], [(3, ⟨.box, bcells bs⟩), (31, ⟨.row, icells (truI l bs l.length)⟩)])) (by
      rw [Nat.zero_add]
      simp only [e1, e2]
      simp only [seqX_normal, seqX_exit, bindR_some, regX_some, condX_bool, run_nil, run_cons, fget_cons', fput_cons', forget_nil, forget_cons', gcM, stp, just, Rd.bind, Rd.run, Rd.opt, upds, aBin, aInt, Nat.reduceEqDiff, Nat.reduceLeDiff, ↓reduceIte, decide_false, putD_some, List.elem_nil, x12_10, r12_3_l, s12_3_0, x12_13, x12_14, x12_12, x12_11, x12_9, Int.lt_irrefl, decide_false, Bool.false_eq_true]) (by simp)
  simp only [seqX_normal, bindR_some, regX_some, blockX_exit, bodyX_ret, run_nil, run_cons, fget_cons', fput_nil, fput_cons', forget_nil, forget_cons', hget_nil', hset_nil', frame0, gcM, stp, opBox, just, Rd.bind, Rd.run, upds, acells, resA, resL, fresh, aLen, aBuiltin, Nat.reduceBEq, Nat.reduceEqDiff, Nat.reduceLeDiff, ↓reduceIte, reduceCtorEq, Nat.zero_add, List.getElem?_toArray, putD_some, Option.map_some, List.elem_cons, List.elem_nil, List.getElem?_cons_zero, T_27, x12_1, r12_0_l, s12_0_0, s12_0_1, x12_3, r12_1_l, s12_1_0, x12_6, r12_2_l, s12_2_0, s12_2_1, s12_2_2, x12_8, x12_7, x12_5, x12_22, r12_7_l, s12_7_0, s12_7_1, x12_23, x12_21, x12_4, x12_2, x12_0, b_12, hbl, hloop]
theorem truth_call {d : Nat} {site : Nat → Nat} {seen : List Nat} {l : List Stone} {ex : Bool} {bs : List Int} (h : OkP l) (hbs : BOk bs) :
    aBack site true seen (thaw (callA E fg 1000 (d + 1)) 12 [.imm (pcells l) l.length ex, .agg (bcells bs)] [] 0) = back1 (site 0) seen (fun k => .ref k 0 l.length l.length l.length 1 false) ⟨.row, icells (truI l bs l.length)⟩ := by
  have e := truth_run (C := callA E fg 1000 d) (ex := ex) h hbs
  have hl : (icells (truI l bs l.length)).length = l.length := by rw [icells_length, truI_length]
  have := aBack_ref (site := site) (seen := seen) (n := l.length) (sz := 1) (id := 31) (cells := icells (truI l bs l.length)) (H' := [(3, ⟨.box, bcells bs⟩), (31, ⟨.row, icells (truI l bs l.length)⟩)]) (C := callA E fg 1000 (d + 1)) (f := 12) (args := [.imm (pcells l) l.length ex, .agg (bcells bs)]) (by rw [hl]; exact e) (by rw [hget_cons', hget_cons']; simp)
  rw [hl] at this
  exact this
end Go.AM.Ytikchlfbjdfioaa
