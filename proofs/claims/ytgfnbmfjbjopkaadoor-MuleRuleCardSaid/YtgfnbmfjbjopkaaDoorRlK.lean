/- A part of the proof of muleRule_card: MgA. Own work of this project; texts printed by own programs among it. -/
import Derived.Test.YtgfnbmfjbjopkaaDoorRlJ
section
namespace Go.AM.YtgfnbmfjbjopkaaDoor
open Go Go.AM Go.AM.Mule
set_option maxRecDepth 100000
set_option maxHeartbeats 8000000
structure Q5 where
  a : Int
  b : Int
  c : Int
  d : Int
  e : Int
deriving Inhabited
def q5c (q : Q5) : List AV := [.int .u8 q.a, .int .u8 q.b, .int .u8 q.c, .int .u8 q.d, .int .u8 q.e]
theorem q5_len (q : Q5) : (q5c q).length = 5 := rfl
structure Q5Ok (q : Q5) : Prop where
  a : 0 ≤ q.a ∧ q.a ≤ 255
  b : 0 ≤ q.b ∧ q.b ≤ 255
  c : 0 ≤ q.c ∧ q.c ≤ 255
  d : 0 ≤ q.d ∧ q.d ≤ 255
  e : 0 ≤ q.e ∧ q.e ≤ 255
structure Dro where
  many : Int
  xs : List Q5
  pairs : Nat
  al : List Int
def u8s (l : List Int) : List AV := l.map (AV.int .u8)
def dcs (D : Dro) : List AV := .int .u8 D.many :: (cls q5c D.xs ++ (.int .u16 (D.pairs : Int) :: u8s D.al))
structure DOk (D : Dro) : Prop where
  many : 0 ≤ D.many ∧ D.many ≤ 255
  xl : D.xs.length = 6
  xs : ∀ q ∈ D.xs, Q5Ok q
  pairs : D.pairs < 65536
  ll : D.al.length = 6
  al : ∀ z ∈ D.al, 0 ≤ z ∧ z ≤ 255
theorem dcs_len {D : Dro} (h : DOk D) : (dcs D).length = 38 := by
  simp [dcs, cls_length q5_len, h.xl, u8s, h.ll]
theorem dcs_x {D : Dro} {i : Nat} {q : Q5} (hx : D.xs[i]? = some q) : ((dcs D).drop (1 + i * 5)).take 5 = q5c q := by
  have hi := (List.getElem?_eq_some_iff.1 hx).1
  have hl := cls_length q5_len D.xs
  rw [dcs, show 1 + i * 5 = i * 5 + 1 by omega, List.drop_succ_cons, List.drop_append_of_le_length (by rw [hl]; omega), List.take_append_of_le_length (by rw [List.length_drop, hl]; omega)]
  exact cls_at q5_len hx
theorem dcs_p {D : Dro} (h : DOk D) : (dcs D)[31]? = some (.int .u16 (D.pairs : Int)) := by
  have hl := cls_length q5_len D.xs
  rw [h.xl] at hl
  rw [dcs, List.getElem?_cons_succ, List.getElem?_append_right (by omega), hl]; rfl
theorem dcs_a {D : Dro} (h : DOk D) {i : Nat} {z : Int} (hz : D.al[i]? = some z) : (dcs D)[32 + i]? = some (.int .u8 z) := by
  have hl := cls_length q5_len D.xs
  rw [h.xl] at hl
  rw [dcs, show 32 + i = (31 + i) + 1 by omega, List.getElem?_cons_succ, List.getElem?_append_right (by omega), hl, show 31 + i - 6 * 5 = i + 1 by omega, List.getElem?_cons_succ]
  simp [u8s, hz]
theorem dcs_int {D : Dro} : ∀ a ∈ dcs D, ∃ k z, a = AV.int k z := by
  intro a ha
  simp only [dcs, List.mem_cons, List.mem_append] at ha
  rcases ha with rfl | ha | rfl | ha
  · exact ⟨_, _, rfl⟩
  · simp only [cls, List.mem_flatMap] at ha
    obtain ⟨q, _, ha⟩ := ha
    simp only [q5c, List.mem_cons, List.not_mem_nil, or_false] at ha
    rcases ha with rfl | rfl | rfl | rfl | rfl <;> exact ⟨_, _, rfl⟩
  · exact ⟨_, _, rfl⟩
  · simp only [u8s, List.mem_map] at ha
    obtain ⟨z, _, rfl⟩ := ha
    exact ⟨_, _, rfl⟩
theorem dcs_snap {D : Dro} (h : DOk D) {d : Nat} (hd : 40 ≤ d) : snaps d (dcs D) = .pure (dcs D, []) := snaps_flat _ _ dcs_int (by rw [dcs_len h]; omega)
/-- A load by numbers. -/
def mdl (q : Q5) : Ld := { lo := 1 + q.a % 9, hi := 1 + q.a % 9 + q.b % (10 - (1 + q.a % 9)), due := q.c % 30, rate := q.d % 6, base := q.e % 8 }
def nOf (D : Dro) (m : Int) : Nat := 1 + (D.many % m).toNat
theorem nOf_b {D : Dro} (h : DOk D) {m : Int} (hm : m = 5 ∨ m = 6) : 1 ≤ nOf D m ∧ (nOf D m : Int) ≤ m := by
  unfold nOf
  rcases hm with rfl | rfl <;> omega
theorem mdl_ok {q : Q5} (h : Q5Ok q) : LdOk (mdl q) ∧ ldE (mdl q) = 0 := by
  obtain ⟨⟨a1, a2⟩, ⟨b1, b2⟩, ⟨c1, c2⟩, ⟨d1, d2⟩, ⟨e1, e2⟩⟩ := h
  have hm : 0 < 10 - (1 + q.a % 9) := by omega
  have h1 := Int.emod_nonneg q.b (show (10 - (1 + q.a % 9)) ≠ 0 by omega)
  have h2 := Int.emod_lt_of_pos q.b hm
  have hok : LdOk (mdl q) := by refine ⟨?_, ?_, ?_, ?_, ?_⟩ <;> simp only [mdl] <;> omega
  refine ⟨hok, ?_⟩
  unfold ldE
  rw [if_pos (ldB_ok.2 hok), if_neg (by simp only [mdl]; omega)]
def mdL (D : Dro) (n : Nat) : List Ld := (D.xs.take n).map mdl
theorem mdL_len {D : Dro} (h : DOk D) {n : Nat} (hn : n ≤ 6) : (mdL D n).length = n := by simp [mdL, h.xl]; omega
abbrev m1S (D : Dro) (n i : Nat) : St :=
  ([(23, .int .i64 i), (22, .int .i64 n), (21, .ref 2 1 n 6 38 5 true), (5, .ptr 5 0 2), (4, .ptr 4 0 2), (2, .ptr 2 0 38)],
    (2, ⟨.box, dcs D⟩) :: (4, ⟨.box, [.nilsl, .nilsl]⟩) :: (5, ⟨.box, [oV 60 5 i, .nilsl]⟩) :: oH 60 (cls lc (mdL D i)))
theorem room22 {n : Nat} (h : n ≤ 1000000) : roomOk E.T 62 n = true := by
  simp only [roomOk, T_62, decide_eq_true_eq]; exact ⟨by decide, rfl, by omega⟩
theorem m1_go {C : Callee} {D : Dro} (h : DOk D) {n : Nat} (hn : n ≤ 6) (i : Nat) (hi : i < n) :
    ∃ s', (execA E C (fg 40) 0 109 [] 1000 c40_9) (m1S D n i) = some (.normal, s') ∧ headA [] s' = m1S D n (i + 1) := by
  have hx : D.xs[i]? = some (D.xs[i]'(by rw [h.xl]; omega)) := List.getElem?_eq_getElem _
  have hq := h.xs _ (List.mem_of_getElem? hx)
  have hat := dcs_x hx
  have hsucc : mdL D (i + 1) = mdL D i ++ [mdl (D.xs[i]'(by rw [h.xl]; omega))] := by
    unfold mdL
    rw [List.take_add_one, hx, Option.toList_some, List.map_append]
    rfl
  have hml := mdL_len h (show i ≤ 6 by omega)
  have hsn := cls_snoc (f := lc) (mdL D i) (mdl (D.xs[i]'(by rw [h.xl]; omega)))
  have htl := cls_length lc_len (mdL D i)
  have htk := cls_take lc_len (mdL D i)
  rw [hml] at htl htk
  have hlen := dcs_len h
  generalize (D.xs[i]'(by rw [h.xl]; omega)) = q at *
  obtain ⟨⟨a1, a2⟩, ⟨b1, b2⟩, ⟨c1, c2⟩, ⟨d1, d2⟩, ⟨e1, e2⟩⟩ := hq
  have hm : 0 < 10 - (1 + q.a % 9) := by omega
  have hb1 := Int.emod_nonneg q.b (show (10 - (1 + q.a % 9)) ≠ 0 by omega)
  have hb2 := Int.emod_lt_of_pos q.b hm
  have r1 : q.a.tmod 9 = q.a % 9 := Int.tmod_eq_emod_of_nonneg a1
  have r2 : q.c.tmod 30 = q.c % 30 := Int.tmod_eq_emod_of_nonneg c1
  have r3 : q.d.tmod 6 = q.d % 6 := Int.tmod_eq_emod_of_nonneg d1
  have r4 : q.e.tmod 8 = q.e % 8 := Int.tmod_eq_emod_of_nonneg e1
  have r5 : q.b.tmod (10 - (1 + q.a % 9)) = q.b % (10 - (1 + q.a % 9)) := Int.tmod_eq_emod_of_nonneg b1
  have z5 : ¬ (10 - (1 + q.a % 9) = 0) := by omega
  have w1 : wrp .i64 (1 + q.a % 9) = 1 + q.a % 9 := wrp64 (by omega)
  have w2 : wrp .i64 (10 - (1 + q.a % 9)) = 10 - (1 + q.a % 9) := wrp64 (by omega)
  have w3 : wrp .i64 (1 + q.a % 9 + q.b % (10 - (1 + q.a % 9))) = 1 + q.a % 9 + q.b % (10 - (1 + q.a % 9)) := wrp64 (by omega)
  have wa : wrp .i64 q.a = q.a := wrp64 (by omega)
  have wb : wrp .i64 q.b = q.b := wrp64 (by omega)
  have wc : wrp .i64 q.c = q.c := wrp64 (by omega)
  have wd : wrp .i64 q.d = q.d := wrp64 (by omega)
  have we : wrp .i64 q.e = q.e := wrp64 (by omega)
  have g1 : (i : Int) < n := by omega
  have nm : ¬ (i + 1 ≤ i) := by omega
  have eL : lc (mdl q) = [.int .i64 (1 + q.a % 9), .int .i64 (1 + q.a % 9 + q.b % (10 - (1 + q.a % 9))), .int .i64 (q.c % 30), .int .i64 (q.d % 6), .int .i64 (q.e % 8)] := rfl
  simp only [q5c] at hat
  have ho : 1 + i * 5 + 5 ≤ 38 := by omega
  simp only [m1S]
  rw [hsucc, ← hsn, eL]
  cases i with
  | zero =>
    rw [Nat.zero_mul, Nat.add_zero] at hat
    simp only [mdL, List.take_zero, List.map_nil, cls_nil, List.nil_append, oH, oV]
    simp (disch := omega) only [condX_bool, blockX_normal, Bool.not_true, Bool.not_false, run_nil, run_cons, fget_cons', fput_cons', forget_nil, forget_cons', hget_nil', hget_cons', hset_nil', hset_cons', gcM_n, gcM_c, stp, opBox, justO, just, Rd.bind, Rd.run, Rd.opt, upds, acells, zeroCells, tsz, elemT, rdCells, fieldOf, aFieldAddr, aLoad, aStore, opStore, fresh, aIndexAddr, aNum, aBuiltin, aBin, aInt, putC, evO, Nat.reduceAdd, Nat.reduceMul, Nat.reduceLT, Nat.reduceGT, Nat.reduceBEq, Nat.reduceEqDiff, Nat.reduceLeDiff, ↓reduceIte, reduceCtorEq, liveBlk_eq, decide_eq_true_eq, Nat.zero_add, Nat.add_zero, ne_eq, List.nil_append, List.getElem?_toArray, rtX_some, addT_some, drX_some, runT_nil, runT_cons, neat_eq, descF_nil', descF_cons', ascH_nil', ascH_cons', stpT, Rd.foot, writing, touching, Tr.empty, dynPairs, apartT, disj, List.isEmpty_nil, List.isEmpty_cons, List.map_nil, List.map_cons, Bool.not_false, Bool.not_true, Bool.true_or, Bool.or_true, Bool.or_false, Bool.and_true, Bool.true_and, Bool.and_self, decide_true, not_true_eq_false, or_self, aBuildSlice, partsOf, fillA, repC, isSliceT, aAppend, srcOf, window, putD_some, putD_none, and_true, true_and, snaps, List.append_nil, Option.map_some, List.elem_cons, List.elem_nil, List.length_cons, List.length_nil, List.getElem?_cons_zero, List.getElem?_cons_succ, List.drop_zero, List.take_succ_cons, List.take_nil, List.set_cons_zero, List.set_cons_succ, frz_nil, seqN, bindN, regN, snap_int, snap_ref, aConv, aBuild, placeF, List.all_cons, List.all_nil, Nat.le_refl, Int.reduceEq, Int.reduceLE, Int.reduceToNat, Nat.mul_one, Nat.zero_mul, List.not_mem_nil, beq_self_eq_true, Nat.lt_irrefl, Bool.false_eq_true, T_3, T_22, T_25, T_62, T_5, T_53, T_135, List.all_cons, List.all_nil, List.getD_cons_zero, List.getD_cons_succ, beq_self_eq_true, x40_10, r40_3_l, s40_3_0, x40_13, x40_14, x40_12, x40_18, r40_4_l, s40_4_0, s40_4_1, s40_4_2, s40_4_3, x40_20, r40_5_l, s40_5_0, s40_5_1, s40_5_2, s40_5_3, s40_5_4, s40_5_5, s40_5_6, s40_5_7, s40_5_8, s40_5_9, s40_5_10, s40_5_11, s40_5_12, s40_5_13, s40_5_14, s40_5_15, s40_5_16, s40_5_17, s40_5_18, s40_5_19, x40_22, r40_6_l, r40_6_dr, r40_6_an, s40_6_0, s40_6_1, s40_6_2, s40_6_3, s40_6_4, s40_6_5, s40_6_6, s40_6_7, s40_6_8, s40_6_9, s40_6_10, s40_6_11, x40_23, r40_7_l, s40_7_0, s40_7_1, s40_7_2, s40_7_3, s40_7_4, s40_7_5, s40_7_6, x40_21, x40_19, x40_17, x40_16, x40_24, r40_8_l, s40_8_0, s40_8_1, x40_15, x40_11, x40_9, hat, hlen, r1, r2, r3, r4, r5, z5, w1, w2, w3, wa, wb, wc, wd, we, if_pos, room22 (show 1 ≤ 1000000 by omega), cl0]
    exact ⟨_, rfl, headA_box (refs_ints _ dcs_int) rfl rfl⟩
  | succ i =>
    have hoH : oH 60 (cls lc (mdL D (i + 1))) = [(60, ⟨.row, cls lc (mdL D (i + 1))⟩)] := oH_ne 60 (by rw [htl]; omega)
    have hoH2 : ∀ y, oH 60 (cls lc (mdL D (i + 1)) ++ y) = [(60, ⟨.row, cls lc (mdL D (i + 1)) ++ y⟩)] := fun y => oH_ne 60 (by rw [List.length_append, htl]; omega)
    simp only [hoH, hoH2, oV]
    generalize cls lc (mdL D (i + 1)) = cc at *
    simp (disch := omega) only [condX_bool, blockX_normal, Bool.not_true, Bool.not_false, run_nil, run_cons, fget_cons', fput_cons', forget_nil, forget_cons', hget_nil', hget_cons', hset_cons', gcM_n, gcM_c, stp, opBox, justO, just, Rd.bind, Rd.run, Rd.opt, upds, acells, zeroCells, tsz, elemT, rdCells, fieldOf, aFieldAddr, aLoad, aStore, opStore, fresh, aIndexAddr, aNum, aBuiltin, aBin, aInt, putC, evO, Nat.reduceAdd, Nat.reduceMul, Nat.reduceLT, Nat.reduceGT, Nat.reduceBEq, Nat.reduceEqDiff, Nat.reduceLeDiff, ↓reduceIte, reduceCtorEq, liveBlk_eq, Nat.zero_add, Nat.add_zero, ne_eq, List.nil_append, List.getElem?_toArray, rtX_some, addT_some, drX_some, runT_nil, runT_cons, neat_eq, descF_nil', descF_cons', ascH_nil', ascH_cons', stpT, Rd.foot, writing, touching, Tr.empty, dynPairs, apartT, disj, List.isEmpty_nil, List.isEmpty_cons, List.map_nil, List.map_cons, Bool.not_false, Bool.not_true, Bool.true_or, Bool.or_true, Bool.or_false, Bool.and_true, Bool.true_and, Bool.and_self, decide_true, not_true_eq_false, or_self, aBuildSlice, partsOf, fillA, repC, isSliceT, aAppend, srcOf, window, putD_some, putD_none, and_true, true_and, Int.natCast_nonneg, Int.toNat_natCast, snaps, List.append_nil, Option.map_some, List.elem_cons, List.elem_nil, List.length_cons, List.length_nil, List.getElem?_cons_zero, List.getElem?_cons_succ, List.drop_zero, List.take_succ_cons, List.take_nil, List.set_cons_zero, List.set_cons_succ, frz_nil, seqN, bindN, regN, snap_int, snap_ref, aConv, aBuild, placeF, List.all_cons, List.all_nil, Nat.le_refl, Int.reduceEq, Int.reduceLE, Int.reduceToNat, Nat.mul_one, Nat.zero_mul, List.not_mem_nil, beq_self_eq_true, Nat.lt_irrefl, Bool.false_eq_true, T_3, T_22, T_25, T_62, T_5, T_53, T_135, List.all_cons, List.all_nil, List.getD_cons_zero, List.getD_cons_succ, beq_self_eq_true, x40_10, r40_3_l, s40_3_0, x40_13, x40_14, x40_12, x40_18, r40_4_l, s40_4_0, s40_4_1, s40_4_2, s40_4_3, x40_20, r40_5_l, s40_5_0, s40_5_1, s40_5_2, s40_5_3, s40_5_4, s40_5_5, s40_5_6, s40_5_7, s40_5_8, s40_5_9, s40_5_10, s40_5_11, s40_5_12, s40_5_13, s40_5_14, s40_5_15, s40_5_16, s40_5_17, s40_5_18, s40_5_19, x40_22, r40_6_l, r40_6_dr, r40_6_an, s40_6_0, s40_6_1, s40_6_2, s40_6_3, s40_6_4, s40_6_5, s40_6_6, s40_6_7, s40_6_8, s40_6_9, s40_6_10, s40_6_11, x40_23, r40_7_l, s40_7_0, s40_7_1, s40_7_2, s40_7_3, s40_7_4, s40_7_5, s40_7_6, x40_21, x40_19, x40_17, x40_16, x40_24, r40_8_l, s40_8_0, s40_8_1, x40_15, x40_11, x40_9, g1, hat, hlen, htl, htk, nm, ho, r1, r2, r3, r4, r5, z5, w1, w2, w3, wa, wb, wc, wd, we, if_pos, room22 (show i + 1 + 1 ≤ 1000000 by omega), wrp_succ (show i + 1 < 1000000 by omega)]
    exact ⟨_, rfl, headA_box (refs_ints _ dcs_int) rfl rfl⟩
end Go.AM.YtgfnbmfjbjopkaaDoor
end
