/- PropShown: the law answers true, whatever it is handed. Own work of this project. -/
import Derived.Test.YtikchlfbjdfioaaShF
namespace Go.AM.Ytikchlfbjdfioaa
open Go Go.AM
set_option maxRecDepth 100000
set_option maxHeartbeats 4000000

abbrev heapL (l : List Stone) (bs ws : List Int) : AHeap := [(6, ⟨.box, bcells bs⟩), (32, ⟨.row, pcells l⟩), (87, ⟨.row, icells ws⟩), (92, ⟨.row, [.int .i64 1]⟩)]
abbrev heapS (l : List Stone) (bs ws : List Int) : AHeap := [(6, ⟨.box, bcells bs⟩), (32, ⟨.row, pcells l⟩), (87, ⟨.row, icells ws⟩)]
theorem heapL_ok (l : List Stone) (bs ws : List Int) : ShH (heapL l bs ws) l ws ∧ ascH 0 (heapL l bs ws) = true := by
  refine ⟨⟨rfl, rfl, fun j hj => ?_⟩, rfl⟩
  rw [hget_cons', if_neg (by omega), hget_cons', if_neg (by omega), hget_cons', if_neg (by omega), hget_cons', if_neg (by omega), hget_nil']
theorem heapS_ok (l : List Stone) (bs ws : List Int) : ShH (heapS l bs ws) l ws ∧ ascH 0 (heapS l bs ws) = true := by
  refine ⟨⟨rfl, rfl, fun j hj => ?_⟩, rfl⟩
  rw [hget_cons', if_neg (by omega), hget_cons', if_neg (by omega), hget_cons', if_neg (by omega), hget_nil']
theorem sh_head_long {C : Callee} {m : Int} {qs : List Q} {bs : List Int} {l : List Stone} (hq : qs.length = 5) (h : OkP l) (hbs : BOk bs) (lo sd lv : Int) (hlo : 0 ≤ lo ∧ lo ≤ 255) (hsd : 0 ≤ sd ∧ sd ≤ 255) (hlv : 0 ≤ lv ∧ lv ≤ 255)
    (cm : ∀ (site : Nat → Nat) seen, aBack site true seen (thaw C 7 [.agg (hcells m qs), .int .i64 5] [] 0) = back1 (site 0) seen (fun k => .ref k 0 l.length l.length (l.length * 4) 4 false) ⟨.row, pcells l⟩) (hl : lo > 245) :
    rsOf (bodyA E C fg 1000 5 [.agg (hcells m qs), .agg (bcells bs), .int .u8 lv, .int .u8 sd, .int .u8 lo] [] 0) = tailX C l (wsI l bs l.length ++ [1]) (lv.tmod 8 - 1) (sd.tmod 4 - 1) 5 (heapL l bs (wsI l bs l.length ++ [1])) := by
  have hloop := fun hc => sh_loop (C := C) h hbs hc lo sd lv
  have hlen := hcells_length (m := m) hq
  have htk := hcells_take (m := m) hq
  have hbl : (bcells bs).length = 5 := by rw [bcells_length, hbs.l]
  have hsn := hcells_snap (m := m) hq
  have wl := wsI_length l bs l.length
  have hno : ¬ l.length + 1 ≤ l.length := by omega
  have tw : List.take l.length (icells (wsI l bs l.length)) = icells (wsI l bs l.length) := List.take_of_length_le (by rw [icells_length, wl]; exact Nat.le_refl _)
  have w1 : wrp .i64 lv = lv := wrp64 (by omega)
  have w2 : wrp .i64 sd = sd := wrp64 (by omega)
  have hle := h.le
  obtain ⟨t1, t2⟩ := tmod_b hlv.1 8 (by omega)
  obtain ⟨t3, t4⟩ := tmod_b hsd.1 4 (by omega)
  have w3 : wrp .i64 (lv.tmod 8 - 1) = lv.tmod 8 - 1 := wrp64 (by omega)
  have w4 : wrp .i64 (sd.tmod 4 - 1) = sd.tmod 4 - 1 := wrp64 (by omega)
  have wl2 : (wsI l bs l.length ++ [1]).length = l.length + 1 := by simp [wl]
  unfold tailX
  rw [wl2]
  simp only [seqX_normal, bindR_some, regX_some, condX_bool, blockX_exit, run_nil, run_cons, fget_cons', fput_cons', forget_nil, forget_cons', hget_nil', hget_cons', hset_nil', hset_cons', frame0, gcM, stp, opBox, justO, just, Rd.bind, Rd.run, Rd.opt, upds, acells, zeroCells, tsz, elemT, rdCells, aLoad, fresh, aLen, aBuiltin, aBin, aInt, putC, evO, ofV, ofV1, Nat.reduceAdd, Nat.reduceMul, Nat.reduceLT, Nat.reduceGT, Nat.reduceBEq, Nat.reduceEqDiff, Nat.reduceLeDiff, ↓reduceIte, reduceCtorEq, liveBlk_eq, Nat.zero_add, ne_eq, List.nil_append, List.getElem?_toArray, decide_true, not_true_eq_false, or_self, aBuildSlice, partsOf, fillA, repC, frz, isSliceT, aAppend, srcOf, window, putD_some, and_true, aCall, snaps, snap, List.append_nil, List.elem_cons, List.elem_nil, List.length_cons, List.length_nil, List.getElem?_cons_zero, List.getElem?_cons_succ, List.drop_zero, List.take_succ_cons, List.take_nil, List.set_cons_zero, T_3, T_27, T_36, T_5, T_25, x5_1, r5_0_l, s5_0_0, s5_0_1, s5_0_2, x5_3, r5_1_l, s5_1_0, s5_1_1, s5_1_2, x5_5, r5_2_l, s5_2_0, x5_7, r5_3_l, s5_3_0, x5_10, r5_4_l, s5_4_0, s5_4_1, s5_4_2, x5_12, x5_11, x5_9, x5_41, r5_14_l, s5_14_0, s5_14_1, x5_43, r5_15_l, s5_15_0, s5_15_1, s5_15_2, s5_15_3, s5_15_4, x5_44, x5_42, x5_40, x5_46, r5_16_l, s5_16_0, s5_16_1, s5_16_2, s5_16_3, s5_16_4, x5_48, r5_17_l, s5_17_0, s5_17_1, s5_17_2, s5_17_3, s5_17_4, x5_47, x5_45, x5_39, x5_8, x5_6, x5_4, x5_2, x5_0, b_5, hloop, hlen, htk, hbl, hsn, pcells_length, cm, back1_run, wl, w1, w2, w3, w4, hl, hno, tw, icells_length, icells_snoc, room3 (show l.length + 1 ≤ 1000000 by omega), aConv, Nat.mul_one, Nat.le_refl, fillA, Int.reduceEq]
theorem sh_head_short {C : Callee} {m : Int} {qs : List Q} {bs : List Int} {l : List Stone} (hq : qs.length = 5) (h : OkP l) (hbs : BOk bs) (lo sd lv : Int) (hlo : 0 ≤ lo ∧ lo ≤ 255) (hsd : 0 ≤ sd ∧ sd ≤ 255) (hlv : 0 ≤ lv ∧ lv ≤ 255)
    (cm : ∀ (site : Nat → Nat) seen, aBack site true seen (thaw C 7 [.agg (hcells m qs), .int .i64 5] [] 0) = back1 (site 0) seen (fun k => .ref k 0 l.length l.length (l.length * 4) 4 false) ⟨.row, pcells l⟩) (hl : ¬ lo > 245) :
    rsOf (bodyA E C fg 1000 5 [.agg (hcells m qs), .agg (bcells bs), .int .u8 lv, .int .u8 sd, .int .u8 lo] [] 0) = tailX C l (wsI l bs l.length) (lv.tmod 8 - 1) (sd.tmod 4 - 1) (wantN l bs l.length) (heapS l bs (wsI l bs l.length)) := by
  have hloop := fun hc => sh_loop (C := C) h hbs hc lo sd lv
  have hlen := hcells_length (m := m) hq
  have htk := hcells_take (m := m) hq
  have hbl : (bcells bs).length = 5 := by rw [bcells_length, hbs.l]
  have hsn := hcells_snap (m := m) hq
  have wl := wsI_length l bs l.length
  have hno : ¬ l.length + 1 ≤ l.length := by omega
  have tw : List.take l.length (icells (wsI l bs l.length)) = icells (wsI l bs l.length) := List.take_of_length_le (by rw [icells_length, wl]; exact Nat.le_refl _)
  have w1 : wrp .i64 lv = lv := wrp64 (by omega)
  have w2 : wrp .i64 sd = sd := wrp64 (by omega)
  have hle := h.le
  obtain ⟨t1, t2⟩ := tmod_b hlv.1 8 (by omega)
  obtain ⟨t3, t4⟩ := tmod_b hsd.1 4 (by omega)
  have w3 : wrp .i64 (lv.tmod 8 - 1) = lv.tmod 8 - 1 := wrp64 (by omega)
  have w4 : wrp .i64 (sd.tmod 4 - 1) = sd.tmod 4 - 1 := wrp64 (by omega)
  unfold tailX
  rw [wl]
  simp only [seqX_normal, bindR_some, regX_some, condX_bool, blockX_exit, run_nil, run_cons, fget_cons', fput_cons', forget_nil, forget_cons', hget_nil', hget_cons', hset_nil', hset_cons', frame0, gcM, stp, opBox, justO, just, Rd.bind, Rd.run, Rd.opt, upds, acells, zeroCells, tsz, elemT, rdCells, aLoad, fresh, aLen, aBuiltin, aBin, aInt, putC, evO, ofV, ofV1, Nat.reduceAdd, Nat.reduceMul, Nat.reduceLT, Nat.reduceGT, Nat.reduceBEq, Nat.reduceEqDiff, Nat.reduceLeDiff, ↓reduceIte, reduceCtorEq, liveBlk_eq, Nat.zero_add, ne_eq, List.nil_append, List.getElem?_toArray, decide_false, not_true_eq_false, or_self, aBuildSlice, partsOf, fillA, repC, frz, isSliceT, aAppend, srcOf, window, putD_some, and_true, aCall, snaps, snap, List.append_nil, List.elem_cons, List.elem_nil, List.length_cons, List.length_nil, List.getElem?_cons_zero, List.getElem?_cons_succ, List.drop_zero, List.take_succ_cons, List.take_nil, List.set_cons_zero, T_3, T_27, T_36, T_5, T_25, x5_1, r5_0_l, s5_0_0, s5_0_1, s5_0_2, x5_3, r5_1_l, s5_1_0, s5_1_1, s5_1_2, x5_5, r5_2_l, s5_2_0, x5_7, r5_3_l, s5_3_0, x5_10, r5_4_l, s5_4_0, s5_4_1, s5_4_2, x5_12, x5_11, x5_9, x5_41, r5_14_l, s5_14_0, s5_14_1, x5_43, r5_15_l, s5_15_0, s5_15_1, s5_15_2, s5_15_3, s5_15_4, x5_44, x5_42, x5_40, x5_46, r5_16_l, s5_16_0, s5_16_1, s5_16_2, s5_16_3, s5_16_4, x5_48, r5_17_l, s5_17_0, s5_17_1, s5_17_2, s5_17_3, s5_17_4, x5_47, x5_45, x5_39, x5_8, x5_6, x5_4, x5_2, x5_0, b_5, hloop, hlen, htk, hbl, hsn, pcells_length, cm, back1_run, wl, w1, w2, w3, w4, hl, hno, tw, icells_length, icells_snoc, room3 (show l.length + 1 ≤ 1000000 by omega), aConv, Nat.mul_one, Nat.le_refl, fillA, Int.reduceEq]

/-- What is asked behind the weights. -/
theorem sh_tail {l : List Stone} {ws : List Int} {z d want : Int} {H : AHeap} (h : OkP l) (hH : ShH H l ws) (ha : ascH 0 H = true) (hwt : weighE l ws = want) (hlen : ws.length ≤ 6)
    (hH2 : ascH 0 (hset (hset H 32 ⟨.froz, pcells l⟩) 126 ⟨.row, icells (worstI l z.toNat d l.length)⟩) = true)
    (hw : ∃ H', callA E fg 1000 40 20 [] [] 0 = some (.bool true, H')) : tailX (callA E fg 1000 40) l ws z d want H = some (.bool true) := by
  have hp : IsP (.imm (pcells l) l.length false) l := .inr ⟨false, rfl⟩
  have hi : IsI (.imm (icells ws) ws.length false) ws := .inr ⟨false, rfl⟩
  have cw := fun (site : Nat → Nat) seen => aBack_bool (site := site) (seen := seen) hw
  have hK : ShK (callA E fg 1000 40) l ws z := ⟨fun site seen d => Moment_call (d := 35) hp hi z d, fun site seen => proves_call (d := 35) hp hi z, cw⟩
  have hf := found_okP h z
  have cWe : ¬ sidedE l z d = 0 → ∀ (site : Nat → Nat) seen, aBack site true seen (thaw (callA E fg 1000 40) 14 [.imm (pcells l) l.length false, .int .i64 z, .int .i64 d] [] 0) = .pure (.tup [.nilsl, .int .i64 (sidedE l z d)], []) := fun hs site seen => aBack_nilint (rs_ex (worst_list_err (d := 35) hp hs))
  by_cases hz : z < 0
  · rw [if_pos hz] at hf
    have hs : sidedE l z d = 2 := by unfold sidedE; rw [if_neg (by omega), hf]
    exact sh_none1 hH hK hz (cWe (by omega)) hs (by unfold momE; rw [if_neg (by omega), hs]) (by unfold momN; rw [if_neg (by omega)]) (by unfold provesE; rw [if_neg (by omega), hf])
  rw [if_neg hz] at hf
  by_cases hz2 : z ≥ l.length
  · rw [if_pos hz2] at hf
    have hs : sidedE l z d = 2 := by unfold sidedE; rw [if_neg (by omega), hf]
    exact sh_none2 hH hK hz hz2 (cWe (by omega)) hs (by unfold momE; rw [if_neg (by omega), hs]) (by unfold momN; rw [if_neg (by omega)]) (by unfold provesE; rw [if_neg (by omega), hf])
  rw [if_neg hz2] at hf
  obtain ⟨k, rfl⟩ := Int.eq_ofNat_of_zero_le (show 0 ≤ z by omega)
  try simp only [Int.ofNat_eq_natCast] at *
  try simp only [Int.toNat_natCast] at hH2
  have hk : k < l.length := by omega
  have hpw : ¬ want = 0 → provesE l ws k = want := fun hne => by unfold provesE; rw [if_pos hf, if_neg (by omega), hwt]
  -- what stands behind the checks, with nothing wrong
  have hend : want = 0 → ∀ {H : AHeap} {st : BS}, (st = .row ∨ st = .froz) → hget H 32 = some ⟨st, pcells l⟩ → hget H 87 = some ⟨.row, icells ws⟩ → ascH 0 H = true → endX (callA E fg 1000 40) l ws k (provesE l ws k) H = some (.bool true) := by
    intro h0 H st hst h32 h87 hasc
    have hw0 : weighE l ws = 0 := by rw [hwt, h0]
    have hlw := weigh_len hw0
    have cmo := fun (site : Nat → Nat) seen => moments_call (d := 39) (site := site) (seen := seen) (ex := false) (ex' := false) h hw0 hk
    cases k with
    | zero =>
      exact sh_end0 hst h32 h87 cmo cw (proves_0 h hw0)
    | succ k =>
      obtain ⟨t, ht⟩ := at_ex (show k < l.length by omega)
      obtain ⟨b1, b2⟩ := momSum_b h hw0 (Nat.le_of_lt hk) 1
      obtain ⟨b3, b4⟩ := momSum_b h hw0 (Nat.le_of_lt hk) (-1)
      have hs1 : sidedE l (k + 1 : Nat) 1 = 0 := by unfold sidedE; rw [if_pos hf, if_pos (.inl rfl), if_neg (by omega)]
      have hs2 : sidedE l (k + 1 : Nat) (-1) = 0 := by unfold sidedE; rw [if_pos hf, if_pos (.inr rfl), if_neg (by omega)]
      have hm : ∀ d, sidedE l (k + 1 : Nat) d = 0 → momN l ws (k + 1 : Nat) d = momSum l ws (k + 1) d ∧ momE l ws (k + 1 : Nat) d = 0 := fun d hd => by
        unfold momN momE
        rw [if_pos hd, if_pos hw0, if_pos hd, hw0]
        exact ⟨rfl, rfl⟩
      have cM := fun (site : Nat → Nat) seen d => Moment_call (d := 35) (site := site) (seen := seen) hp hi (k + 1 : Nat) d
      have cm1 := fun site seen => cM site seen 1
      have cm2 := fun site seen => cM site seen (-1)
      simp only [(hm 1 hs1).1, (hm 1 hs1).2] at cm1
      simp only [(hm (-1) hs2).1, (hm (-1) hs2).2] at cm2
      have hdl : (ws.drop (k + 1)).length = l.length - (k + 1) := by simp [hlw]
      have ct := fun (site : Nat → Nat) seen => total_call (d := 39) (site := site) (seen := seen) (ws := ws.drop (k + 1)) (ex := false) (by rw [hdl]; have := h.le; omega) (fun i w hiw => by
        rw [List.getElem?_drop] at hiw
        obtain ⟨s, hs⟩ := at_ex (l := l) (k := k + 1 + i) (by rw [← hlw]; exact at_lt hiw)
        have := weighE_at hw0 hs hiw
        obtain ⟨_, _, _, _, l1, lm, m9⟩ := h.fits _ s hs
        omega)
      rw [hdl] at ct
      exact sh_end1 hst h32 h87 h hk hlw ht cmo cm1 cm2 ct cw hasc (proves_1 h hw0 hk) (mom_both hk hlw ht) ⟨b1, b2, b3, b4⟩
  have hsd : sidedE l k d = if d = 1 ∨ d = -1 then (if d < 0 ∧ (k : Int) = 0 then 21 else 0) else 1 := by unfold sidedE; rw [if_pos hf]
  by_cases hd1 : d = 1
  · subst hd1
    rw [if_pos (.inl rfl), if_neg (by omega)] at hsd
    have hr := worst_list_run (d := 35) (ex := false) hsd
    have cW := fun (site : Nat → Nat) seen => aBack_refint (site := site) (seen := seen) (n := l.length) (sz := 1) (id := 45) (k := .i64) (z := 0) (cells := icells (worstI l k 1 l.length)) (H' := [(45, ⟨.row, icells (worstI l k 1 l.length)⟩)]) (C := callA E fg 1000 40) (f := 14) (args := [.imm (pcells l) l.length false, .int .i64 k, .int .i64 1]) (by rw [icells_length, worstI_length]; exact hr) (by rw [hget_cons']; simp)
    simp only [icells_length, worstI_length] at cW
    by_cases h0 : want = 0
    · subst h0
      rw [sh_right_0 hH hK hz hz2 cW hsd (by unfold momE; rw [if_pos hsd]; exact hwt)]
      refine hend rfl (.inr rfl) ?_ ?_ hH2
      · rw [hget_hset, if_neg (by omega), hget_hset, if_pos rfl]
      · rw [hget_hset, if_neg (by omega), hget_hset, if_neg (by omega)]; exact hH.w
    · exact sh_right_w hH hK hz hz2 cW hsd (by unfold momE; rw [if_pos hsd]; exact hwt) (by unfold momN; rw [if_pos hsd, if_neg (by rw [hwt]; exact h0)]) (hpw h0) h0
  by_cases hd2 : d = -1
  · subst hd2
    by_cases hk0 : k = 0
    · subst hk0
      rw [if_pos (.inr rfl), if_pos (by constructor <;> simp)] at hsd
      replace hsd : sidedE l 0 (-1) = 21 := hsd
      have hse := cWe (by change ¬ sidedE l 0 (-1) = 0; rw [hsd]; omega)
      by_cases h0 : want = 0
      · subst h0
        exact (sh_open_0 hH hK hz2 hse hsd (by unfold momE; rw [if_neg (by rw [hsd]; omega), hsd]) (by unfold momN; rw [if_neg (by rw [hsd]; omega)])).trans (hend rfl (.inl rfl) hH.p hH.w ha)
      · exact sh_open_w hH hK hz2 hse hsd (by unfold momE; rw [if_neg (by rw [hsd]; omega), hsd]) (by unfold momN; rw [if_neg (by rw [hsd]; omega)]) (hpw h0) h0
    · have hz0 : ¬ (k : Int) = 0 := by omega
      rw [if_pos (.inr rfl), if_neg (by omega)] at hsd
      have hr := worst_list_run (d := 35) (ex := false) hsd
      have cW := fun (site : Nat → Nat) seen => aBack_refint (site := site) (seen := seen) (n := l.length) (sz := 1) (id := 45) (k := .i64) (z := 0) (cells := icells (worstI l k (-1) l.length)) (H' := [(45, ⟨.row, icells (worstI l k (-1) l.length)⟩)]) (C := callA E fg 1000 40) (f := 14) (args := [.imm (pcells l) l.length false, .int .i64 k, .int .i64 (-1)]) (by rw [icells_length, worstI_length]; exact hr) (by rw [hget_cons']; simp)
      simp only [icells_length, worstI_length] at cW
      by_cases h0 : want = 0
      · subst h0
        rw [sh_left_0 hH hK hz hz2 hz0 cW hsd (by unfold momE; rw [if_pos hsd]; exact hwt)]
        refine hend rfl (.inr rfl) ?_ ?_ hH2
        · rw [hget_hset, if_neg (by omega), hget_hset, if_pos rfl]
        · rw [hget_hset, if_neg (by omega), hget_hset, if_neg (by omega)]; exact hH.w
      · exact sh_left_w hH hK hz hz2 hz0 cW hsd (by unfold momE; rw [if_pos hsd]; exact hwt) (by unfold momN; rw [if_pos hsd, if_neg (by rw [hwt]; exact h0)]) (hpw h0) h0
  rw [if_neg (by omega)] at hsd
  have hse := cWe (by rw [hsd]; omega)
  by_cases h0 : want = 0
  · subst h0
    rw [sh_side_0 hH hK hz hz2 hd1 hd2 hse hsd (by unfold momE; rw [if_neg (by rw [hsd]; omega), hsd]) (by unfold momN; rw [if_neg (by rw [hsd]; omega)])]
    exact hend rfl (.inl rfl) hH.p hH.w ha
  · exact sh_side_w hH hK hz hz2 hd1 hd2 hse hsd (by unfold momE; rw [if_neg (by rw [hsd]; omega), hsd]) (by unfold momN; rw [if_neg (by rw [hsd]; omega)]) (hpw h0) h0

theorem shown_true {m : Int} {qs : List Q} {bs : List Int} (h : HOk m qs) (hbs : BOk bs) {lo sd lv : Int} (hlo : 0 ≤ lo ∧ lo ≤ 255) (hsd : 0 ≤ sd ∧ sd ≤ 255) (hlv : 0 ≤ lv ∧ lv ≤ 255)
    (hw : ∃ H', callA E fg 1000 40 20 [] [] 0 = some (.bool true, H')) :
    rsOf (bodyA E (callA E fg 1000 40) fg 1000 5 [.agg (hcells m qs), .agg (bcells bs), .int .u8 lv, .int .u8 sd, .int .u8 lo] [] 0) = some (.bool true) := by
  have hl : (madeL m qs).length = nOf m := madeI_length _ _
  have hok := made_okP h
  have cm := fun (site : Nat → Nat) seen => made_call (d := 39) (site := site) (seen := seen) h
  simp only [← hl] at cm
  by_cases hlong : lo > 245
  · obtain ⟨h1, h2⟩ := heapL_ok (madeL m qs) bs (wsI (madeL m qs) bs (madeL m qs).length ++ [1])
    rw [sh_head_long h.l hok hbs lo sd lv hlo hsd hlv cm hlong]
    exact sh_tail hok h1 h2 want_long (by simp [wsI_length]; have := hok.le; omega) rfl hw
  · obtain ⟨h1, h2⟩ := heapS_ok (madeL m qs) bs (wsI (madeL m qs) bs (madeL m qs).length)
    rw [sh_head_short h.l hok hbs lo sd lv hlo hsd hlv cm hlong]
    exact sh_tail hok h1 h2 want_weigh (by rw [wsI_length]; have := hok.le; omega) rfl hw
end Go.AM.Ytikchlfbjdfioaa
