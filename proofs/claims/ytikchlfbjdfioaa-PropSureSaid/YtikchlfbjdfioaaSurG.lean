/- PropSure: the row. Own work of this project. -/
import Derived.Test.YtikchlfbjdfioaaSurC
import Derived.Test.YtikchlfbjdfioaaShF
import Derived.Test.YtikchlfbjdfioaaShA
import Derived.Test.YtikchlfbjdfioaaHandU
import Derived.Test.YtikchlfbjdfioaaPWorks
namespace Go.AM.Ytikchlfbjdfioaa
open Go Go.AM
set_option maxRecDepth 100000
set_option maxHeartbeats 8000000

theorem worstI_at {l : List Stone} {k : Nat} {side : Int} {n i : Nat} (h : i < n) : (worstI l k side n)[i]? = some (worstW l k side i) := by simp [worstI, h]
theorem worstW_or {l : List Stone} {k : Nat} {side : Int} {i : Nat} {s : Stone} (h : l[i]? = some s) : worstW l k side i = s.least ∨ worstW l k side i = s.most := by
  simp only [worstW, List.getD_eq_getElem?_getD, h, Option.getD_some, wt]
  repeat' split
  all_goals simp
theorem worst_weigh {l : List Stone} (h : OkP l) (k : Nat) (side : Int) : weighE l (worstI l k side l.length) = 0 := by
  unfold weighE
  rw [if_pos (by rw [worstI_length])]
  refine weighL_all fun i s w h1 h2 => ?_
  rw [worstI_at (at_lt h1)] at h2
  obtain rfl := Option.some.inj h2
  obtain ⟨_, _, _, _, l1, lm, m9⟩ := h.fits i s h1
  rcases worstW_or (k := k) (side := side) h1 with e | e <;> omega
theorem worst_mom {l : List Stone} (k : Nat) (side : Int) : momSum l (worstI l k side l.length) k side = worstSum l k side := by
  refine sumF_congr _ _ _ _ fun i h1 h2 => ?_
  have hi : i < l.length := by omega
  simp only [momTerm, List.getD_eq_getElem?_getD, worstI_at hi, Option.getD_some, worstW, h1, if_true, term]
theorem weak_none {l : List Stone} : ∀ (m k : Nat), weakFrom l k m < 0 → ∀ i, k ≤ i → i < k + m → mayTip l i 1 = false ∧ mayTip l i (-1) = false
  | 0, _, _, i, h1, h2 => by omega
  | m + 1, k, h, i, h1, h2 => by
    simp only [weakFrom] at h
    split at h
    · omega
    · rename_i hn
      by_cases hik : i = k
      · subst hik
        exact ⟨by cases hh : mayTip l i 1 <;> simp_all, by cases hh : mayTip l i (-1) <;> simp_all⟩
      · exact weak_none m (k + 1) h i (by omega) (by omega)
theorem weak_worst {l : List Stone} (h : weakL l < 0) {k : Nat} (hk : k < l.length) : worstSum l k 1 ≤ 0 ∧ worstSum l k (-1) ≤ 0 := by
  obtain ⟨h1, h2⟩ := weak_none l.length 0 h k (by omega) (by omega)
  simp only [mayTip, decide_eq_false_iff_not] at h1 h2
  omega
theorem left_le {l : List Stone} {w : List Int} (h : OkP l) (hw : weighE l w = 0) (k : Nat) (hk : 0 < k) : leftM l w k ≤ worstSum l k (-1) := by
  cases k with
  | zero => omega
  | succ k => exact mom_le_worst h hw
theorem left_eq {l : List Stone} {w : List Int} {k : Nat} (hk : 0 < k) : leftM l w k = momSum l w k (-1) := by
  cases k with
  | zero => omega
  | succ k => rfl

theorem su_round {l : List Stone} {bs : List Int} (h : OkP l) (hbs : BOk bs) (k : Nat) (hk : k < l.length) :
    ∃ s', execA E (callA E fg 1000 40) (fg 3) 0 249 [] 1000 c3_25 ([(87, .int .i64 k), (86, .int .i64 l.length), (11, wref l), (6, .int .i64 (weakL l)), (5, .ptr 5 0 1)], baseH l (truI l bs l.length)) = some (.normal, s') ∧
      headA [] s' = ([(87, .int .i64 (k + 1 : Nat)), (86, .int .i64 l.length), (11, wref l), (6, .int .i64 (weakL l)), (5, .ptr 5 0 1)], baseH l (truI l bs l.length)) := by
  have hle := h.le
  have hw := tru_weigh h hbs
  have hlw : (truI l bs l.length).length = l.length := truI_length ..
  have hp : IsP (.imm (pcells l) l.length false) l := .inr ⟨false, rfl⟩
  have hi : IsI (.imm (icells (truI l bs l.length)) (truI l bs l.length).length false) (truI l bs l.length) := .inr ⟨false, rfl⟩
  have hf := found_okP h k
  rw [if_neg (by omega), if_neg (by omega)] at hf
  have hs1 : sidedE l k 1 = 0 := by unfold sidedE; rw [if_pos hf, if_pos (.inl rfl), if_neg (by omega)]
  have hwa := worst_weigh h k 1
  have hlwa : (worstI l k 1 l.length).length = l.length := worstI_length ..
  have mo := fun (site : Nat → Nat) seen => moments_call (d := 39) (site := site) (seen := seen) (ex := false) (ex' := false) h hw hk
  have ma := fun (site : Nat → Nat) seen => moments_call (d := 39) (site := site) (seen := seen) (ex := false) (ex' := false) h hwa hk
  rw [hlw] at mo
  rw [hlwa] at ma
  have hm : ∀ d, sidedE l k d = 0 → momN l (truI l bs l.length) k d = momSum l (truI l bs l.length) k d ∧ momE l (truI l bs l.length) k d = 0 := fun d hd => by
    unfold momN momE
    rw [if_pos hd, if_pos hw, if_pos hd, hw]
    exact ⟨rfl, rfl⟩
  have cM := fun (site : Nat → Nat) seen d => Moment_call (d := 35) (site := site) (seen := seen) hp hi k d
  have pr := fun (site : Nat → Nat) seen => proves_call (d := 35) (site := site) (seen := seen) hp hi k
  have mm := fun site seen => cM site seen 1
  simp only [(hm 1 hs1).1, (hm 1 hs1).2] at mm
  simp only [hlw] at mm pr
  have hr := worst_list_run (d := 35) (ex := false) hs1
  have wo := fun (site : Nat → Nat) seen => aBack_refint (site := site) (seen := seen) (n := l.length) (sz := 1) (id := 45) (k := .i64) (z := 0) (cells := icells (worstI l k 1 l.length)) (H' := [(45, ⟨.row, icells (worstI l k 1 l.length)⟩)]) (C := callA E fg 1000 40) (f := 14) (args := [.imm (pcells l) l.length false, .int .i64 k, .int .i64 1]) (by rw [icells_length, worstI_length]; exact hr) (by rw [hget_cons']; simp)
  simp only [icells_length, worstI_length] at wo
  have hA := worst_mom (l := l) k 1
  obtain ⟨bA1, bA2⟩ := momSum_b h hwa (Nat.le_of_lt hk) 1
  have co := sr_corners (d := 37) h hk (momSum l (worstI l k 1 l.length) k 1) (truI l bs l.length) (worstI l k 1 l.length) (fun s => by rw [hA]; exact mom_le_worst h (cw_weigh h s))
  have hRA : momSum l (truI l bs l.length) k 1 ≤ momSum l (worstI l k 1 l.length) k 1 := by rw [hA]; exact mom_le_worst h hw
  have hwR : weakL l < 0 → ¬ momSum l (truI l bs l.length) k 1 > 0 := fun hn => by have := (weak_worst hn hk).1; omega
  have hx : ∀ (i : Nat) (s : Stone) (x : Int), l[i]? = some s → (worstI l k 1 l.length)[i]? = some x → x = s.least ∨ x = s.most := fun i s x h1 h2 => by
    rw [worstI_at (at_lt h1)] at h2
    obtain rfl := Option.some.inj h2
    exact worstW_or h1
  have hK : SuK (callA E fg 1000 40) l (truI l bs l.length) (worstI l k 1 l.length) k (momSum l (truI l bs l.length) k 1) (leftM l (truI l bs l.length) k) (momSum l (worstI l k 1 l.length) k 1) (leftM l (worstI l k 1 l.length) k) (provesE l (truI l bs l.length) k) := { mo := mo, wo := wo, mm := mm, ma := ma, pr := pr, co := co }
  by_cases hk0 : k = 0
  · subst hk0
    refine su_round0 h hlw hlwa hk hx hK rfl hwR (fun _ => by simp [leftM]) (by omega) hRA ?_
    have := proves_0 h hw
    exact this.trans (by simp [leftM])
  · have hk1 : 0 < k := by omega
    have hs2 : sidedE l k (-1) = 0 := by unfold sidedE; rw [if_pos hf, if_pos (.inr rfl), if_neg (by omega)]
    have hwb := worst_weigh h k (-1)
    have hlwb : (worstI l k (-1) l.length).length = l.length := worstI_length ..
    have mb := fun (site : Nat → Nat) seen => moments_call (d := 39) (site := site) (seen := seen) (ex := false) (ex' := false) h hwb hk
    rw [hlwb] at mb
    have mm2 := fun site seen => cM site seen (-1)
    simp only [(hm (-1) hs2).1, (hm (-1) hs2).2] at mm2
    simp only [hlw] at mm2
    rw [← left_eq hk1] at mm2
    have hr2 := worst_list_run (d := 35) (ex := false) hs2
    have wo2 := fun (site : Nat → Nat) seen => aBack_refint (site := site) (seen := seen) (n := l.length) (sz := 1) (id := 45) (k := .i64) (z := 0) (cells := icells (worstI l k (-1) l.length)) (H' := [(45, ⟨.row, icells (worstI l k (-1) l.length)⟩)]) (C := callA E fg 1000 40) (f := 14) (args := [.imm (pcells l) l.length false, .int .i64 k, .int .i64 (-1)]) (by rw [icells_length, worstI_length]; exact hr2) (by rw [hget_cons']; simp)
    simp only [icells_length, worstI_length] at wo2
    have hB : leftM l (worstI l k (-1) l.length) k = worstSum l k (-1) := by rw [left_eq hk1]; exact worst_mom k (-1)
    obtain ⟨bB1, bB2⟩ := momSum_b h hwb (Nat.le_of_lt hk) (-1)
    rw [← left_eq hk1] at bB1 bB2
    have co2 := sl_corners (d := 37) h hk (leftM l (worstI l k (-1) l.length) k) (momSum l (worstI l k 1 l.length) k 1) (truI l bs l.length) (worstI l k 1 l.length) (worstI l k (-1) l.length) (fun s => by rw [hB]; exact left_le h (cw_weigh h s) k hk1)
    have hLB : leftM l (truI l bs l.length) k ≤ leftM l (worstI l k (-1) l.length) k := by rw [hB]; exact left_le h hw k hk1
    have hwL : weakL l < 0 → ¬ leftM l (truI l bs l.length) k > 0 := fun hn => by
      have := (weak_worst hn hk).2
      have := left_le h hw k hk1
      omega
    exact su_round1 h hlw hlwa hlwb hk hx hK { wo := wo2, mm := mm2, mb := mb, co := co2 } hk1 hwR hwL (by omega) hRA (by omega) hLB (by rw [left_eq hk1]; exact proves_1 h hw hk)

theorem su_loop {l : List Stone} {bs : List Int} (h : OkP l) (hbs : BOk bs) (hc bc : List AV) :
    iterA (execA E (callA E fg 1000 40) (fg 3) 0 249 [] 1000 c3_25) (headA []) 1000 ([(87, .int .i64 0), (86, .int .i64 l.length), (11, wref l), (6, .int .i64 (weakL l)), (5, .ptr 5 0 1)], [(2, ⟨.box, hc⟩), (3, ⟨.box, bc⟩), (5, ⟨.box, [.ref 31 0 l.length l.length (l.length * 4) 4 false]⟩), (31, ⟨.froz, pcells l⟩), (84, ⟨.row, icells (truI l bs l.length)⟩)]) =
      some (.exit 0, [(88, .bool false), (87, .int .i64 l.length), (86, .int .i64 l.length), (11, wref l), (6, .int .i64 (weakL l)), (5, .ptr 5 0 1)], baseH l (truI l bs l.length)) := by
  have hle := h.le
  exact iter_all (f := execA E (callA E fg 1000 40) (fg 3) 0 249 [] 1000 c3_25) (hd := headA []) (fun k => ([(87, .int .i64 k), (86, .int .i64 l.length), (11, wref l), (6, .int .i64 (weakL l)), (5, .ptr 5 0 1)], baseH l (truI l bs l.length))) l.length 1000 0 _ (by rfl) (by omega) (fun k h1 h2 => su_round h hbs k (by omega)) (by
    rw [Nat.zero_add]
    simp only [seqX_normal, seqX_exit, bindR_some, regX_some, condX_bool, run_nil, run_cons, fget_cons', fput_cons', forget_nil, forget_cons', gcM, stp, just, Rd.bind, Rd.run, Rd.opt, upds, aBin, aInt, Nat.reduceEqDiff, Nat.reduceLeDiff, ↓reduceIte, decide_false, putD_some, List.elem_nil, x3_26, r3_9_l, s3_9_0, x3_29, x3_30, x3_28, x3_27, x3_25, Int.lt_irrefl, decide_false, Bool.false_eq_true]) (by simp)
end Go.AM.Ytikchlfbjdfioaa
namespace Go.AM.Ytikchlfbjdfioaa
open Go Go.AM
set_option maxRecDepth 100000
set_option maxHeartbeats 8000000

theorem bcells_snap {bs : List Int} (h : bs.length = 5) (d : Nat) (hd : 10 ≤ d) : snaps d (bcells bs) = .pure (bcells bs, []) := by
  refine snaps_ints _ d (fun a ha => ?_) (by rw [bcells_length, h]; omega)
  simp only [bcells, List.mem_map] at ha
  obtain ⟨z, _, rfl⟩ := ha
  exact ⟨_, _, rfl⟩
theorem bcells_take {bs : List Int} (h : bs.length = 5) : List.take 5 (bcells bs) = bcells bs := List.take_of_length_le (by rw [bcells_length, h]; exact Nat.le_refl _)

theorem sure_run {C : Callee} {m : Int} {qs : List Q} {bs : List Int} {l : List Stone} {ws : List Int} {want : Int} (hq : qs.length = 5) (h5 : bs.length = 5) (hws : ws.length = l.length)
    (cm : ∀ (site : Nat → Nat) seen, aBack site true seen (thaw C 7 [.agg (hcells m qs), .int .i64 5] [] 0) = back1 (site 0) seen (fun k => .ref k 0 l.length l.length (l.length * 4) 4 false) ⟨.row, pcells l⟩)
    (cl : ∀ (site : Nat → Nat) seen, aBack site true seen (thaw C 8 [.imm (pcells l) l.length false] [] 0) = .pure (.int .i64 want, []))
    (cs : ∀ (site : Nat → Nat) seen, aBack site true seen (thaw C 9 [.imm (pcells l) l.length false] [] 0) = .pure (.tup [.bool (decide (want < 0)), .int .i64 0], []))
    (ct : ∀ (site : Nat → Nat) seen, aBack site true seen (thaw C 10 [.imm (pcells l) l.length false] [] 0) = .pure (.tup [.int .i64 (if want < 0 then 0 else want), .int .i64 (if want < 0 then 13 else 0)], []))
    (cc : ∀ (site : Nat → Nat) seen, aBack site true seen (thaw C 11 [.imm (pcells l) l.length false] [] 0) = .pure (.int .i64 0, []))
    (ctr : ∀ (site : Nat → Nat) seen, aBack site true seen (thaw C 12 [.imm (pcells l) l.length false, .agg (bcells bs)] [] 0) = back1 (site 0) seen (fun k => .ref k 0 l.length l.length l.length 1 false) ⟨.row, icells ws⟩)
    (cw : ∀ (site : Nat → Nat) seen, aBack site true seen (thaw C 20 [] [] 0) = .pure (.bool true, []))
    (hloop : ∀ hc bc : List AV, iterA (execA E C (fg 3) 0 249 [] 1000 c3_25) (headA []) 1000 ([(87, .int .i64 0), (86, .int .i64 l.length), (11, .ref 84 0 l.length l.length l.length 1 false), (6, .int .i64 want), (5, .ptr 5 0 1)], [(2, ⟨.box, hc⟩), (3, ⟨.box, bc⟩), (5, ⟨.box, [.ref 31 0 l.length l.length (l.length * 4) 4 false]⟩), (31, ⟨.froz, pcells l⟩), (84, ⟨.row, icells ws⟩)]) =
      some (.exit 0, [(88, .bool false), (87, .int .i64 l.length), (86, .int .i64 l.length), (11, .ref 84 0 l.length l.length l.length 1 false), (6, .int .i64 want), (5, .ptr 5 0 1)], [(5, ⟨.box, [.ref 31 0 l.length l.length (l.length * 4) 4 false]⟩), (31, ⟨.froz, pcells l⟩), (84, ⟨.row, icells ws⟩)])) :
    rsOf (bodyA E C fg 1000 3 [.agg (hcells m qs), .agg (bcells bs)] [] 0) = some (.bool true) := by
  have hlen := hcells_length (m := m) hq
  have htk := hcells_take (m := m) hq
  have hbl : (bcells bs).length = 5 := by rw [bcells_length, h5]
  have hbt := bcells_take h5
  have hsn := hcells_snap (m := m) hq
  have hsb := bcells_snap h5
  by_cases hw : want < 0
  · have hge : ¬ want ≥ 0 := by omega
    simp only [hw, if_true, decide_true] at cs ct
    simp only [seqX_normal, bindR_some, regX_some, condX_bool, blockX_exit, ↓gd, fset_cons, Bool.not_true, bodyX_ret, run_nil, run_cons, fget_cons', fput_nil, fput_cons', forget_nil, forget_cons', hget_nil', hget_cons', hset_nil', hset_cons', frame0, gcM, stp, opPick, opBox, justO, just, Rd.bind, Rd.run, Rd.opt, upds, acells, zeroCells, tsz, rdCells, aLoad, aStore, opStore, opExtract, resA, resL, fresh, aLen, aBuiltin, aBin, aInt, putC, Nat.reduceMul, Nat.reduceBEq, Nat.reduceEqDiff, Nat.reduceLeDiff, ↓reduceIte, reduceCtorEq, liveBlk_eq, Nat.zero_add, List.nil_append, List.getElem?_toArray, Bool.not_true, Bool.and_true, decide_true, decide_false, frz, putD_some, putD_none, and_true, aCall, snaps, snap, List.append_nil, Option.map_some, List.elem_cons, List.elem_nil, List.length_cons, List.length_nil, List.getElem?_cons_zero, List.getElem?_cons_succ, List.drop_zero, List.set_cons_zero, T_27, T_25, T_26, T_4, x3_1, r3_0_l, s3_0_0, s3_0_1, s3_0_2, x3_3, r3_1_l, s3_1_0, s3_1_1, s3_1_2, s3_1_3, x3_5, r3_2_l, s3_2_0, s3_2_1, s3_2_2, x3_7, r3_3_l, s3_3_0, s3_3_1, s3_3_2, s3_3_3, s3_3_4, s3_3_5, s3_3_6, x3_9, r3_4_l, s3_4_0, s3_4_1, s3_4_2, s3_4_3, s3_4_4, s3_4_5, s3_4_6, x3_12, r3_5_l, s3_5_0, s3_5_1, s3_5_2, s3_5_3, s3_5_4, s3_5_5, s3_5_6, s3_5_7, s3_5_8, s3_5_9, s3_5_10, s3_5_11, s3_5_12, s3_5_13, s3_5_14, s3_5_15, s3_5_16, s3_5_17, s3_5_18, s3_5_19, s3_5_20, s3_5_21, s3_5_22, s3_5_23, s3_5_24, s3_5_25, s3_5_26, s3_5_27, s3_5_28, s3_5_29, s3_5_30, s3_5_31, s3_5_32, s3_5_33, s3_5_34, s3_5_35, s3_5_36, s3_5_37, x3_15, r3_6_l, s3_6_0, x3_16, x3_14, x3_17, x3_13, x3_11, x3_19, r3_7_l, s3_7_0, s3_7_1, s3_7_2, s3_7_3, x3_22, r3_8_l, s3_8_0, s3_8_1, s3_8_2, x3_24, x3_23, x3_21, x3_129, r3_41_l, s3_41_0, s3_41_1, x3_130, x3_128, x3_20, x3_18, x3_10, x3_8, x3_6, x3_4, x3_2, x3_0, b_3, hloop, hlen, htk, hbl, hbt, hsn, hsb, pcells_length, take_pc2, cm, cl, cs, ct, cc, ctr, cw, back1_run, hw, hge, Nat.le_refl, beq_self_eq_true, bne_self_eq_false, isBoolT, List.cons_append]
  · have hge : want ≥ 0 := by omega
    simp only [hw, if_false, decide_false] at cs ct
    simp only [seqX_normal, bindR_some, regX_some, condX_bool, blockX_exit, ↓gd, fset_cons, Bool.not_true, bodyX_ret, run_nil, run_cons, fget_cons', fput_nil, fput_cons', forget_nil, forget_cons', hget_nil', hget_cons', hset_nil', hset_cons', frame0, gcM, stp, opPick, opBox, justO, just, Rd.bind, Rd.run, Rd.opt, upds, acells, zeroCells, tsz, rdCells, aLoad, aStore, opStore, opExtract, resA, resL, fresh, aLen, aBuiltin, aBin, aInt, putC, Nat.reduceMul, Nat.reduceBEq, Nat.reduceEqDiff, Nat.reduceLeDiff, ↓reduceIte, reduceCtorEq, liveBlk_eq, Nat.zero_add, List.nil_append, List.getElem?_toArray, Bool.not_true, Bool.and_true, decide_true, decide_false, frz, putD_some, putD_none, and_true, aCall, snaps, snap, List.append_nil, Option.map_some, List.elem_cons, List.elem_nil, List.length_cons, List.length_nil, List.getElem?_cons_zero, List.getElem?_cons_succ, List.drop_zero, List.set_cons_zero, T_27, T_25, T_26, T_4, x3_1, r3_0_l, s3_0_0, s3_0_1, s3_0_2, x3_3, r3_1_l, s3_1_0, s3_1_1, s3_1_2, s3_1_3, x3_5, r3_2_l, s3_2_0, s3_2_1, s3_2_2, x3_7, r3_3_l, s3_3_0, s3_3_1, s3_3_2, s3_3_3, s3_3_4, s3_3_5, s3_3_6, x3_9, r3_4_l, s3_4_0, s3_4_1, s3_4_2, s3_4_3, s3_4_4, s3_4_5, s3_4_6, x3_12, r3_5_l, s3_5_0, s3_5_1, s3_5_2, s3_5_3, s3_5_4, s3_5_5, s3_5_6, s3_5_7, s3_5_8, s3_5_9, s3_5_10, s3_5_11, s3_5_12, s3_5_13, s3_5_14, s3_5_15, s3_5_16, s3_5_17, s3_5_18, s3_5_19, s3_5_20, s3_5_21, s3_5_22, s3_5_23, s3_5_24, s3_5_25, s3_5_26, s3_5_27, s3_5_28, s3_5_29, s3_5_30, s3_5_31, s3_5_32, s3_5_33, s3_5_34, s3_5_35, s3_5_36, s3_5_37, x3_15, r3_6_l, s3_6_0, x3_16, x3_14, x3_17, x3_13, x3_11, x3_19, r3_7_l, s3_7_0, s3_7_1, s3_7_2, s3_7_3, x3_22, r3_8_l, s3_8_0, s3_8_1, s3_8_2, x3_24, x3_23, x3_21, x3_129, r3_41_l, s3_41_0, s3_41_1, x3_130, x3_128, x3_20, x3_18, x3_10, x3_8, x3_6, x3_4, x3_2, x3_0, b_3, hloop, hlen, htk, hbl, hbt, hsn, hsb, pcells_length, take_pc2, cm, cl, cs, ct, cc, ctr, cw, back1_run, hw, hge, Nat.le_refl, beq_self_eq_true, bne_self_eq_false, isBoolT, List.cons_append]

theorem sure_true {m : Int} {qs : List Q} {bs : List Int} (h : HOk m qs) (hbs : BOk bs) (hw : ∃ H', callA E fg 1000 40 20 [] [] 0 = some (.bool true, H')) :
    rsOf (bodyA E (callA E fg 1000 40) fg 1000 3 [.agg (hcells m qs), .agg (bcells bs)] [] 0) = some (.bool true) := by
  have hl : (madeL m qs).length = nOf m := madeI_length _ _
  have hok := made_okP h
  have hp : IsP (.imm (pcells (madeL m qs)) (madeL m qs).length false) (madeL m qs) := .inr ⟨false, rfl⟩
  have hc := check_zero.2 hok
  have cm := fun (site : Nat → Nat) seen => made_call (d := 39) (site := site) (seen := seen) h
  simp only [← hl] at cm
  have cs := fun (site : Nat → Nat) seen => stands_call (d := 34) (site := site) (seen := seen) hp
  have ct := fun (site : Nat → Nat) seen => tips_call (d := 34) (site := site) (seen := seen) hp
  have cc := fun (site : Nat → Nat) seen => check_call (d := 38) (site := site) (seen := seen) hp
  simp only [standsB, tipsN, tipsE, hc, if_true] at cs ct cc
  exact sure_run (want := weakL (madeL m qs)) h.l hbs.l (truI_length _ bs _) cm (fun site seen => lweak_call (d := 36) hok) cs ct cc (fun site seen => truth_call (d := 39) hok hbs) (fun site seen => aBack_bool hw) (fun hc bc => su_loop hok hbs hc bc)
end Go.AM.Ytikchlfbjdfioaa
namespace Go.AM.Ytikchlfbjdfioaa
open Go Go.AM Go.RowKit Go.Proofs Go.Proofs.Ytikchlfbjdfioaa Go.ChangeShapes Go.WideShapes Go.ChangeAt
set_option maxRecDepth 1000000

theorem laidOut : laidOutB Try.prog = true := by kernel_rfl
theorem readable25 : Try.prog.readableRec 25 = true := by kernel_rfl
theorem readable26 : Try.prog.readableRec 26 = true := by kernel_rfl
theorem types_lt : 25 < Try.prog.types.size ∧ 26 < Try.prog.types.size := ⟨of_decide_eq_true (by kernel_rfl), of_decide_eq_true (by kernel_rfl)⟩
theorem cellsOf25 : Try.prog.cellsOf 25 = 21 := by kernel_rfl
theorem cellsOf26 : Try.prog.cellsOf 26 = 5 := by kernel_rfl
theorem cellTypes25 : Try.prog.cellTypes Try.prog.depth 25 = some (List.replicate 21 5) := by kernel_rfl
theorem cellTypes26 : Try.prog.cellTypes Try.prog.depth 26 = some (List.replicate 5 5) := by kernel_rfl

theorem quads_of : ∀ (n : Nat) (zs : List Int), zs.length = n * 4 → (∀ (i : Nat) (z : Int), zs[i]? = some z → 0 ≤ z ∧ z ≤ 255) → ∃ l : List Q, l.length = n ∧ qcells l = zs.map (AV.int .u8) ∧ ∀ (i : Nat) (q : Q), l[i]? = some q → QOk q
  | 0, zs, h, _ => by
    have : zs = [] := List.length_eq_zero_iff.1 (by omega)
    subst this
    exact ⟨[], rfl, rfl, fun i q hi => by simp at hi⟩
  | n + 1, a :: b :: c :: d :: zs, h, hb => by
    simp only [List.length_cons] at h
    obtain ⟨l, h1, h2, h3⟩ := quads_of n zs (by omega) (fun i z hi => hb (i + 4) z (by simpa using hi))
    refine ⟨⟨a, b, c, d⟩ :: l, by simp [h1], by simp [qcells, qc, h2], fun i q hi => ?_⟩
    cases i with
    | zero => simp at hi; subst hi; exact ⟨hb 0 a rfl, hb 1 b rfl, hb 2 c rfl, hb 3 d rfl⟩
    | succ i => exact h3 i q (by simpa using hi)
  | n + 1, [], h, _ => by simp at h
  | n + 1, [_], h, _ => by simp at h; omega
  | n + 1, [_, _], h, _ => by simp at h; omega
  | n + 1, [_, _, _], h, _ => by simp at h; omega
section
variable {W : World}
theorem hand_heap {v : Value} {b0 : Nat} {r : Reach} (hv : Value.okWide Try.prog W r b0 25 v) : ∃ m qs, HOk m qs ∧ (start (fun k => k < W.heap.size) W).R (.agg (hcells m qs)) v := by
  obtain ⟨zs, cs, rfl, h1, h2, h3⟩ := hand_struct Try.underlying25 Try.underlying5 cellTypes25 cellsOf25 (by omega) hv
  match zs, h2 with
  | z :: zs, h2 =>
    obtain ⟨qs, a, b, c⟩ := quads_of 5 zs (by simpa using h2) (fun i y hi => h3 (i + 1) y (by simpa using hi))
    refine ⟨z, qs, ⟨h3 0 z rfl, a, c⟩, ?_⟩
    rw [show hcells z qs = (z :: zs).map (AV.int .u8) by simp [hcells, b]]
    exact vr_u8 _ h1
theorem hand_by {v : Value} {b0 : Nat} {r : Reach} (hv : Value.okWide Try.prog W r b0 26 v) : ∃ bs, BOk bs ∧ (start (fun k => k < W.heap.size) W).R (.agg (bcells bs)) v := by
  obtain ⟨zs, cs, rfl, h1, h2, h3⟩ := hand_array Try.underlying26 Try.underlying5 cellTypes26 cellsOf26 (by omega) hv
  exact ⟨zs, ⟨h2, h3⟩, vr_u8 _ h1⟩
end

theorem propSure_walk {W : World} {m : Int} {qs : List Q} {bs : List Int} {v0 v1 : Value} (h : HOk m qs) (hbs : BOk bs)
    (h0 : (start (fun k => k < W.heap.size) W).R (.agg (hcells m qs)) v0) (h1 : (start (fun k => k < W.heap.size) W).R (.agg (bcells bs)) v1) :
    Calls Try.prog 3 #[v0, v1] W fun e w' => e = .returned (.bool true) ∧ Below W.heap.size W w' := by
  obtain ⟨H0, hw⟩ := isTrue_ok works_run
  obtain ⟨H1, hr⟩ := rs_ex (sure_true h hbs ⟨H0, hw⟩)
  have hC : CS Try.prog E (bodyA E (callA E fg 1000 40) fg 1000) := body_ok envOk mixed fg 1000 (sound 40)
  refine law_run hC hr (fun k h => h) (vs := [v0, v1]) ?_
  simp only [Gh.Rs, VRs]
  exact ⟨v0, _, rfl, h0, v1, _, rfl, h1, rfl⟩

theorem propSure_lifted (os : Os) (started : os.Started) (H : Type) (enc : TypeId × Value → H) :
    ReturnsInHanded {} Try.checked os 3 .any (Rows.propSureSpec.pre6 enc Try.prog Try.f3 Rows.propSureRow.domain false)
      (Rows.propSureSpec.post enc Try.prog Try.f3 false true false false) := by
  refine returnsInHanded_of_change own started (by kernel_rfl) Try.func3 (ChangeSpec.witness6 (enc := enc) (C := Try.checked) false ⟨#[], #[.agg (Array.replicate 21 (.int .u8 0)), .agg (Array.replicate 5 (.int .u8 0))], []⟩ 8 (by kernel_rfl) (by kernel_rfl) (by kernel_rfl) (by kernel_rfl)) ?_
  intro W base args ds gs before hval0 hW _ _
  have hW' := hW
  obtain ⟨p, q, hA0, hV, rfl, hfz, hnd⟩ := hW
  have hA : DataW.TrodAll enc Try.prog W 0 (fun _ => true) true Try.f3.params.toList args.toList ds p := hA0
  rw [Try.params3] at hA
  obtain ⟨v0, vs, d0, ds0, p0, q0, ha, rfl, rfl, h0, hr0⟩ := trodAll_cons hA
  obtain ⟨v1, vs1, d1, ds1, p1, q1, rfl, rfl, rfl, h1, hr1⟩ := trodAll_cons hr0
  obtain ⟨rfl, rfl, rfl⟩ := trodAll_nil hr1
  obtain rfl : args = #[v0, v1] := by cases args; simp_all
  obtain ⟨rfl, rfl⟩ := trodVars_none hV
  have hval : ∀ (j : Nat) t v, (#[25, 26] : Array TypeId)[j]? = some t → (#[v0, v1] : Array Value)[j]? = some v → Value.okWide Try.prog W .any base t v := by
    intro j t v; have := hval0 j t v; rw [Try.params3] at this; exact this
  obtain ⟨m, qs, hm, r0⟩ := hand_heap (hval 0 25 v0 rfl rfl)
  obtain ⟨bs, hbs, r1⟩ := hand_by (hval 1 26 v1 rfl rfl)
  refine (propSure_walk hm hbs r0 r1).mono fun e W' ⟨he, bel⟩ => ?_
  subst he
  obtain ⟨t0, t1⟩ := types_lt
  exact ⟨_, rfl, _, _, _, [], _, [], hW', trodAll_mk1 (shut_bool Try.underlying4 _),
    trodAll_mk2 (bel.trod' laidOut readable25 t0 h0) (bel.trod' laidOut readable26 t1 h1), rfl, bel.frame _, fun h => by cases h⟩

theorem propSure_holds : Rows.PropSureSaid :=
  OpenClaim.holds_of_wide 3 Try.f3 rfl rfl rfl rfl rfl rfl rfl ⟨rfl, rfl, rfl, rfl, rfl⟩ rfl rfl rfl rfl rfl (by kernel_rfl) Try.func3 (by kernel_rfl)
    (of_decide_eq_true (by kernel_rfl)) (by unfold Func.isWrapper; first | (rw [if_pos (by decide +kernel)]; kernel_rfl) | (rw [if_neg (by decide +kernel)]; exact ⟨rfl, rfl⟩))
    (fun os started H enc _ => propSure_lifted os started H enc)

end Go.AM.Ytikchlfbjdfioaa
namespace Go.Proofs.Ytikchlfbjdfioaa
/-- PropSure: the law answers true for every input, and the input reads as it did. No condition. -/
theorem propSure_holds : Rows.PropSureSaid := Go.AM.Ytikchlfbjdfioaa.propSure_holds
#print axioms propSure_holds
end Go.Proofs.Ytikchlfbjdfioaa
