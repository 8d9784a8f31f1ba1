/- A part of the proof of muleNames_card: NmO. Own work of this project; texts printed by own programs among it. -/
import Derived.KernelRfl
import Derived.Test.YtgfnbmfjbjopkaaDoorNoL
set_option maxRecDepth 1000000
set_option maxHeartbeats 16000000
noncomputable section
noncomputable section
namespace Go.AM.YtgfnbmfjbjopkaaDoor
open Go Go.AM Go.AM.Mule
abbrev zLd : Ld := ⟨0, 0, 0, 0, 0⟩
theorem Z0a1 : ∀ (l : List Ld) (k : Nat) (x : Ld), k < l.length → (((((cls lc l).set (k * 5) (.int .i64 x.lo)).set (k * 5 + 1) (.int .i64 x.hi)).set (k * 5 + 1 + 1) (.int .i64 x.due)).set (k * 5 + 1 + 1 + 1) (.int .i64 x.rate)).set (k * 5 + 1 + 1 + 1 + 1) (.int .i64 x.base) = cls lc (l.set k x)
 | [], k, x, h => by simp at h
 | a :: l, 0, x, h => by simp [cls, lc]
 | a :: l, k + 1, x, h => by
   have ih := Z0a1 l k x (by simpa using h)
   have e : (k + 1) * 5 = k * 5 + 5 := by omega
   rw [List.set_cons_succ, Z4k, Z4k, ← ih, e]
   simp only [lc, List.cons_append, List.nil_append, show k * 5 + 5 + 1 = k * 5 + 1 + 5 by omega, show k * 5 + 1 + 5 + 1 = k * 5 + 1 + 1 + 5 by omega, show k * 5 + 1 + 1 + 5 + 1 = k * 5 + 1 + 1 + 1 + 5 by omega, show k * 5 + 1 + 1 + 1 + 5 + 1 = k * 5 + 1 + 1 + 1 + 1 + 5 by omega, List.set_cons_succ]
def mvL (T : List Nat) (ls : List Ld) (n : Nat) : Nat → List Ld
 | 0 => List.replicate n zLd
 | i + 1 => (mvL T ls n i).set (T.getD i 0) (ls.getD i default)
theorem Z7M (T ls n) : ∀ i, (mvL T ls n i).length = n
 | 0 => by simp [mvL]
 | i + 1 => by rw [mvL, List.length_set, Z7M T ls n i]
abbrev n3S (T : List Nat) (ls : List Ld) (es : List Pr) (n : Nat) (day : Int) (i : Nat) : St :=
 ([(72, .int .i64 i), (71, .int .i64 n), (70, .ref 29 0 n n (n * 5) 5 false), (12, .ptr 12 0 2), (9, .ref 34 0 n n n 1 false), (8, .int .i64 n), (7, .ptr 7 0 2), (2, .int .u8 day)],
   (7, ⟨.box, [.ref 29 0 n n (n * 5) 5 false, pV 282 es.length]⟩) :: (12, ⟨.box, [.ref 67 0 n n (n * 5) 5 false, .nilsl]⟩) :: (29, ⟨.row, cls lc ls⟩) :: (34, ⟨.row, ins T⟩) :: (67, ⟨.row, cls lc (mvL T ls n i)⟩) :: pH 282 .row es)
theorem Z0t5 {C : Callee} {T : List Nat} {ls : List Ld} {es : List Pr} {n : Nat} {day : Int} (hl : ls.length = n) (hT : T.length = n) (hTn : ∀ x ∈ T, x < n) (hn : n ≤ 6) (i : Nat) (hi : i < n) :
   ∃ s', (execA E C (fg 10) 0 253 [] 1000 Zc3) (n3S T ls es n day i) = some (.normal, s') ∧ headA [] s' = n3S T ls es n day (i + 1) := by
 have hx := Z08 (l := ls) (i := i) (by omega)
 have hax := Z1l ZX hx
 have ht : T[i]? = some (T.getD i 0) := Z08 (by omega)
 have htn := hTn _ (List.mem_of_getElem? ht)
 have hat := Z10 ht
 have hlen : (cls lc ls).length = n * 5 := by rw [ZA ZX, hl]
 have hml : (cls lc (mvL T ls n i)).length = n * 5 := by rw [ZA ZX, Z7M]
 have hil : (ins T).length = n := by rw [Zu, hT]
 have hput := Z0a1 (mvL T ls n i) (T.getD i 0) (ls.getD i default) (by rw [Z7M]; exact htn)
 have e : mvL T ls n (i + 1) = (mvL T ls n i).set (T.getD i 0) (ls.getD i default) := rfl
 simp only [n3S]
 rw [e, ← hput]
 generalize cls lc (mvL T ls n i) = M at *
 generalize ls.getD i default = x at *
 generalize T.getD i 0 = t at *
 have g1 : (i : Int) < n := by omega
 have g2 : (t : Int) < n := by omega
 simp only [lc] at hax
 rcases pVH 282 .row es with ⟨_, e1, e2⟩ | ⟨e1, e2⟩ <;> rw [e1, e2]
 · simp (disch := omega) only [Z8, Zg, Bool.not_true, Bool.not_false, Zc, Za, Z2, Z1, Z3, Z0, Zl, Zd, Zi, Zo, Zm, stp, opBox, just, Rd.bind, Rd.run, Rd.opt, upds, acells, zeroCells, tsz, rdCells, fieldOf, Ze, aLoad, aStore, opStore, fresh, Z5, aNum, aBin, aInt, putC, Nat.reduceAdd, Nat.reduceLT, Nat.reduceBEq, Nat.reduceEqDiff, Nat.reduceLeDiff, ↓reduceIte, Zf, Nat.zero_add, Nat.add_zero, List.nil_append, ZE, ZH, ZO, ZP, Zz, ZL, Zt, Zn, ZC, Zv, stpT, Rd.foot, writing, Zq, Tr.empty, Zs, apartT, disj, List.isEmpty_nil, List.isEmpty_cons, List.map_nil, List.map_cons, Bool.not_false, Bool.not_true, Bool.true_or, Bool.or_true, Bool.or_false, Bool.and_true, Bool.true_and, Bool.and_self, decide_true, Z7, Zk, and_true, true_and, Int.natCast_nonneg, Int.toNat_natCast, snaps, List.append_nil, List.elem_cons, List.elem_nil, List.length_cons, List.length_nil, List.getElem?_cons_zero, List.drop_zero, List.take_succ_cons, List.take_nil, List.set_cons_zero, List.set_cons_succ, Zp, seqN, bindN, regN, Zr, List.all_cons, List.all_nil, Nat.le_refl, Nat.mul_one, List.not_mem_nil, beq_self_eq_true, Bool.false_eq_true, T_3, T_22, T_25, T_36, T_62, List.all_cons, List.all_nil, List.getD_cons_zero, List.getD_cons_succ, beq_self_eq_true, ZnP, Zfu, ZdS, Zpi, Znj, Zpj, Z09o, ZIs, ZSj, ZNu, ZPS, ZPa, ZOL, ZOq, Z0aB, ZIS, ZxO, Zyy, ZNv, ZOh, ZFm, ZJG, ZMy, ZAt, ZPQ, ZBW, ZAQ, Z09p, Z0az, Z0bg, ZJP, ZPP, ZBo, Z09I, Zoq, Zp8, g1, g2, hax, hat, hlen, hml, hil, if_pos, ZD (show i < 1000000 by omega)]
   exact ⟨_, rfl, rfl⟩
 · simp (disch := omega) only [Z8, Zg, Bool.not_true, Bool.not_false, Zc, Za, Z2, Z1, Z3, Z0, Zl, Zd, Zi, Zo, Zm, stp, opBox, just, Rd.bind, Rd.run, Rd.opt, upds, acells, zeroCells, tsz, rdCells, fieldOf, Ze, aLoad, aStore, opStore, fresh, Z5, aNum, aBin, aInt, putC, Nat.reduceAdd, Nat.reduceLT, Nat.reduceBEq, Nat.reduceEqDiff, Nat.reduceLeDiff, ↓reduceIte, Zf, Nat.zero_add, Nat.add_zero, List.nil_append, ZE, ZH, ZO, ZP, Zz, ZL, Zt, Zn, ZC, Zv, stpT, Rd.foot, writing, Zq, Tr.empty, Zs, apartT, disj, List.isEmpty_nil, List.isEmpty_cons, List.map_nil, List.map_cons, Bool.not_false, Bool.not_true, Bool.true_or, Bool.or_true, Bool.or_false, Bool.and_true, Bool.true_and, Bool.and_self, decide_true, Z7, Zk, and_true, true_and, Int.natCast_nonneg, Int.toNat_natCast, snaps, List.append_nil, List.elem_cons, List.elem_nil, List.length_cons, List.length_nil, List.getElem?_cons_zero, List.drop_zero, List.take_succ_cons, List.take_nil, List.set_cons_zero, List.set_cons_succ, Zp, seqN, bindN, regN, Zr, List.all_cons, List.all_nil, Nat.le_refl, Nat.mul_one, List.not_mem_nil, beq_self_eq_true, Bool.false_eq_true, T_3, T_22, T_25, T_36, T_62, List.all_cons, List.all_nil, List.getD_cons_zero, List.getD_cons_succ, beq_self_eq_true, ZnP, Zfu, ZdS, Zpi, Znj, Zpj, Z09o, ZIs, ZSj, ZNu, ZPS, ZPa, ZOL, ZOq, Z0aB, ZIS, ZxO, Zyy, ZNv, ZOh, ZFm, ZJG, ZMy, ZAt, ZPQ, ZBW, ZAQ, Z09p, Z0az, Z0bg, ZJP, ZPP, ZBo, Z09I, Zoq, Zp8, g1, g2, hax, hat, hlen, hml, hil, if_pos, ZD (show i < 1000000 by omega)]
   exact ⟨_, rfl, rfl⟩
def mpE (T : List Nat) (q : Pr) : Pr := ((T.getD q.1.toNat 0 : Nat), (T.getD q.2.toNat 0 : Nat))
def mvE (T : List Nat) (es : List Pr) : Nat → List Pr
 | 0 => []
 | j + 1 => mpE T (es.getD j default) :: mvE T es j
theorem Zi9 (T es) : ∀ j, (mvE T es j).length = j
 | 0 => rfl
 | j + 1 => by rw [mvE, List.length_cons, Zi9 T es j]
abbrev n4H (T : List Nat) (ls ls' : List Ld) (es : List Pr) (n : Nat) (j : Nat) : AHeap :=
 if j = 0 then
   [(7, ⟨.box, [.ref 29 0 n n (n * 5) 5 false, .ref 282 0 es.length es.length (es.length * 2) 2 false]⟩), (12, ⟨.box, [.ref 67 0 n n (n * 5) 5 false, .nilsl]⟩), (29, ⟨.row, cls lc ls⟩), (34, ⟨.row, ins T⟩), (67, ⟨.row, cls lc ls'⟩), (282, ⟨.row, cls bc es⟩)]
 else if j % 2 = 1 then
   [(7, ⟨.box, [.ref 29 0 n n (n * 5) 5 false, .ref 282 0 es.length es.length (es.length * 2) 2 false]⟩), (12, ⟨.box, [.ref 67 0 n n (n * 5) 5 false, .ref 104 0 j j (j * 2) 2 false]⟩), (29, ⟨.row, cls lc ls⟩), (34, ⟨.row, ins T⟩), (67, ⟨.row, cls lc ls'⟩), (104, ⟨.row, cls bc (mvE T es j)⟩), (282, ⟨.row, cls bc es⟩)]
 else
   [(7, ⟨.box, [.ref 29 0 n n (n * 5) 5 false, .ref 282 0 es.length es.length (es.length * 2) 2 false]⟩), (12, ⟨.box, [.ref 67 0 n n (n * 5) 5 false, .ref 1048680 0 j j (j * 2) 2 false]⟩), (29, ⟨.row, cls lc ls⟩), (34, ⟨.row, ins T⟩), (67, ⟨.row, cls lc ls'⟩), (282, ⟨.row, cls bc es⟩), (1048680, ⟨.row, cls bc (mvE T es j)⟩)]
abbrev n4S (T : List Nat) (ls ls' : List Ld) (es : List Pr) (n : Nat) (day : Int) (j : Nat) : St :=
 ([(89, .int .i64 j), (88, .int .i64 es.length), (87, .ref 282 0 es.length es.length (es.length * 2) 2 false), (12, .ptr 12 0 2), (9, .ref 34 0 n n n 1 false), (8, .int .i64 n), (7, .ptr 7 0 2), (2, .int .u8 day)], n4H T ls ls' es n j)
theorem Z0s7 {C : Callee} {T : List Nat} {ls ls' : List Ld} {es : List Pr} {n : Nat} {day : Int} (hT : T.length = n) (hTn : ∀ x ∈ T, x < n) (_ : n ≤ 6) (hE : ∀ p ∈ es, ∃ a b : Nat, p = ((a : Int), (b : Int)) ∧ a < n ∧ b < n) (h15 : es.length ≤ 15) (j : Nat) (hj : j < es.length) :
   ∃ s', (execA E C (fg 10) 0 253 [] 1000 Z9u) (n4S T ls ls' es n day j) = some (.normal, s') ∧ headA [] s' = n4S T ls ls' es n day (j + 1) := by
 have hq := Z08 (l := es) hj
 obtain ⟨a, b, e, ha, hb⟩ := hE _ (List.mem_of_getElem? hq)
 have e1 : mvE T es (j + 1) = mpE T (es.getD j default) :: mvE T es j := rfl
 have aq := Z1l Z14 hq
 rw [e] at aq e1
 have ta : T[a]? = some (T.getD a 0) := Z08 (by omega)
 have tb : T[b]? = some (T.getD b 0) := Z08 (by omega)
 have hta := hTn _ (List.mem_of_getElem? ta)
 have htb := hTn _ (List.mem_of_getElem? tb)
 have ia := Z10 ta
 have ib := Z10 tb
 have e2 : mpE T ((a : Int), (b : Int)) = (((T.getD a 0 : Nat) : Int), ((T.getD b 0 : Nat) : Int)) := by simp [mpE]
 rw [e2] at e1
 have hcl : (cls bc es).length = es.length * 2 := ZA Z14 es
 have hil : (ins T).length = n := by rw [Zu, hT]
 have hml : (cls bc (mvE T es j)).length = j * 2 := by rw [ZA Z14, Zi9]
 have htk : List.take (j * 2) (cls bc (mvE T es j)) = cls bc (mvE T es j) := List.take_of_length_le (by omega)
 have ec : cls bc (mvE T es (j + 1)) = [.int .i64 ((T.getD a 0 : Nat) : Int), .int .i64 ((T.getD b 0 : Nat) : Int)] ++ cls bc (mvE T es j) := by rw [e1, Z4k]; rfl
 simp only [n4S, n4H]
 rw [ec, if_neg (show ¬ j + 1 = 0 by omega)]
 clear e1 e2 e ec hq
 generalize T.getD a 0 = x at *
 generalize T.getD b 0 = y at *
 have g1 : (j : Int) < es.length := by omega
 have g2 : (a : Int) < n := by omega
 have g3 : (b : Int) < n := by omega
 simp only [bc] at aq
 have h0 : mvE T es 0 = [] := rfl
 by_cases z : j = 0
 · subst z
   rw [if_pos rfl, if_pos (show (0 + 1) % 2 = 1 by omega)]
   rw [h0]
   have w1 : wrp .i64 (0 + 1) = 1 := rfl
   have z1 : ((0 : Nat) : Int) = 0 := rfl
   have z2 : ((0 + 1 : Nat) : Int) = 1 := rfl
   have c0 : cls bc [] = [] := rfl
   simp only [z1, z2, c0, Nat.zero_mul, List.drop_zero] at g1 aq ⊢
   simp (disch := omega) only [Z8, Zg, Bool.not_true, Bool.not_false, Zc, Za, Z2, Z1, Z3, Z0, Zl, Zd, Zi, Zo, Zm, stp, opBox, justO, just, Rd.bind, Rd.run, Rd.opt, upds, acells, zeroCells, tsz, elemT, rdCells, fieldOf, Ze, aLoad, aStore, opStore, fresh, Z5, aNum, Zh, aBin, aInt, putC, evO, Nat.reduceAdd, Nat.reduceMul, Nat.reduceLT, Nat.reduceGT, Nat.reduceBEq, Nat.reduceEqDiff, Nat.reduceLeDiff, ↓reduceIte, Zf, Nat.zero_add, Nat.add_zero, ne_eq, List.nil_append, List.getElem?_toArray, ZE, ZH, ZO, ZP, Zz, ZL, Zt, Zn, ZC, Zv, stpT, Rd.foot, writing, Zq, Tr.empty, Zs, apartT, disj, List.isEmpty_nil, List.isEmpty_cons, List.map_nil, List.map_cons, Bool.not_false, Bool.not_true, Bool.true_or, Bool.or_true, Bool.or_false, Bool.and_true, Bool.true_and, Bool.and_self, decide_true, not_true_eq_false, or_self, ZB, Z02, fo6, fo5, partsOf, fillA, repC, Z00, aAppend, srcOf, window, Z7, Zk, and_true, true_and, Int.natCast_nonneg, Int.toNat_natCast, snaps, List.append_nil, Option.map_some, List.elem_cons, List.elem_nil, List.length_cons, List.length_nil, List.getElem?_cons_zero, List.getElem?_cons_succ, List.drop_zero, List.set_cons_zero, List.set_cons_succ, Zp, seqN, bindN, regN, Zr, ZM, aBuild, List.all_cons, List.all_nil, Nat.le_refl, Int.reduceLE, Int.reduceToNat, Nat.mul_one, Nat.zero_mul, List.not_mem_nil, beq_self_eq_true, Nat.lt_irrefl, Bool.false_eq_true, T_3, T_23, T_25, T_36, T_64, List.all_cons, List.all_nil, List.getD_cons_zero, List.getD_cons_succ, beq_self_eq_true, Zdu, Z71, Z8t, Zch, Zcy, ZdE, ZPT, ZlF, ZkM, ZkR, Zkx, ZkQ, ZRt, Zkd, ZgM, Zg0, ZlN, ZkZ, Zk7, Zls, Zng, Zms, Zm5, Zkh, Znd, Zjz, Zgn, ZgL, ZfL, ZfW, Zg3, ZgW, Zgr, ZS3, ZEY, ZDo, Zlq, ZjP, ZjQ, ZBF, Zc2, Zcr, g1, g2, g3, aq, ia, ib, hcl, hil, w1, if_pos]
   exact ⟨_, rfl, rfl⟩
 · rw [if_neg z]
   have hno : ¬ 1 + j ≤ 1 := by omega
   have hj0 : ¬ j ≤ 0 := by omega
   have hjc : 1 + j = j + 1 := by omega
   have hj2 : 2 + j * 2 = (j + 1) * 2 := by omega
   generalize cls bc (mvE T es j) = M at *
   by_cases hp : j % 2 = 1
   · rw [if_pos hp, if_neg (show ¬ (j + 1) % 2 = 1 by omega)]
     simp (disch := omega) only [Z8, Zg, Bool.not_true, Bool.not_false, Zc, Za, Z2, Z1, Z3, Z0, Zl, Zd, Zx, Zi, Zo, Zm, stp, opBox, justO, just, Rd.bind, Rd.run, Rd.opt, upds, acells, zeroCells, tsz, elemT, rdCells, fieldOf, Ze, aLoad, aStore, opStore, fresh, Z5, aNum, Zh, aBin, aInt, putC, evO, Nat.reduceAdd, Nat.reduceMul, Nat.reduceLT, Nat.reduceGT, Nat.reduceBEq, Nat.reduceEqDiff, Nat.reduceLeDiff, ↓reduceIte, Zf, Nat.zero_add, Nat.add_zero, ne_eq, List.nil_append, List.getElem?_toArray, ZE, ZH, ZO, ZP, Zz, ZL, Zt, Zn, ZC, Zv, stpT, Rd.foot, writing, Zq, Tr.empty, Zs, apartT, disj, List.isEmpty_nil, List.isEmpty_cons, List.map_nil, List.map_cons, Bool.not_false, Bool.not_true, Bool.true_or, Bool.or_true, Bool.or_false, Bool.and_true, Bool.true_and, Bool.and_self, decide_true, not_true_eq_false, or_self, ZB, Z02, fo6, fo5, partsOf, fillA, repC, Z00, aAppend, srcOf, window, Z7, Zk, and_true, true_and, Int.natCast_nonneg, Int.toNat_natCast, snaps, List.append_nil, Option.map_some, List.elem_cons, List.elem_nil, List.length_cons, List.length_nil, List.getElem?_cons_zero, List.getElem?_cons_succ, List.drop_zero, List.take_succ_cons, List.take_nil, List.set_cons_zero, List.set_cons_succ, Zp, seqN, bindN, regN, Zr, ZM, aBuild, List.all_cons, List.all_nil, List.cons_append, Nat.le_refl, Int.reduceLE, Int.reduceToNat, Nat.mul_one, Nat.zero_mul, List.not_mem_nil, beq_self_eq_true, Nat.lt_irrefl, Bool.false_eq_true, T_3, T_23, T_25, T_36, T_64, List.all_cons, List.all_nil, List.getD_cons_zero, List.getD_cons_succ, beq_self_eq_true, Zdu, Z71, Z8t, Zch, Zcy, ZdE, ZPT, ZlF, ZkM, ZkR, Zkx, ZkQ, ZRt, Zkd, ZgM, Zg0, ZlN, ZkZ, Zk7, Zls, Zng, Zms, Zm5, Zkh, Znd, Zjz, Zgn, ZgL, ZfL, ZfW, Zg3, ZgW, Zgr, ZS3, ZEY, ZDo, Zlq, ZjP, ZjQ, ZBF, Zc2, Zcr, g1, g2, g3, aq, ia, ib, hcl, hil, hml, htk, hj0, z, if_pos, Z9A (show j + 1 ≤ 1000000 by omega), ZD (show j < 1000000 by omega), hjc]
     exact ⟨_, rfl, rfl⟩
   · rw [if_neg hp, if_pos (show (j + 1) % 2 = 1 by omega)]
     simp (disch := omega) only [Z8, Zg, Bool.not_true, Bool.not_false, Zc, Za, Z2, Z1, Z3, Z0, Zl, Zd, Zi, Zo, Zm, stp, opBox, justO, just, Rd.bind, Rd.run, Rd.opt, upds, acells, zeroCells, tsz, elemT, rdCells, fieldOf, Ze, aLoad, aStore, opStore, fresh, Z5, aNum, Zh, aBin, aInt, putC, evO, Nat.reduceAdd, Nat.reduceMul, Nat.reduceLT, Nat.reduceGT, Nat.reduceBEq, Nat.reduceEqDiff, Nat.reduceLeDiff, ↓reduceIte, Zf, Nat.zero_add, Nat.add_zero, ne_eq, List.nil_append, List.getElem?_toArray, ZE, ZH, ZO, ZP, Zz, ZL, Zt, Zn, ZC, Zv, stpT, Rd.foot, writing, Zq, Tr.empty, Zs, apartT, disj, List.isEmpty_nil, List.isEmpty_cons, List.map_nil, List.map_cons, Bool.not_false, Bool.not_true, Bool.true_or, Bool.or_true, Bool.or_false, Bool.and_true, Bool.true_and, Bool.and_self, decide_true, not_true_eq_false, or_self, ZB, Z02, fo6, fo5, partsOf, fillA, repC, Z00, aAppend, srcOf, window, Z7, Zk, and_true, true_and, Int.natCast_nonneg, Int.toNat_natCast, snaps, List.append_nil, Option.map_some, List.elem_cons, List.elem_nil, List.length_cons, List.length_nil, List.getElem?_cons_zero, List.getElem?_cons_succ, List.drop_zero, List.take_succ_cons, List.take_nil, List.set_cons_zero, List.set_cons_succ, Zp, seqN, bindN, regN, Zr, ZM, aBuild, List.all_cons, List.all_nil, List.cons_append, Nat.le_refl, Int.reduceLE, Int.reduceToNat, Nat.mul_one, Nat.zero_mul, List.not_mem_nil, beq_self_eq_true, Nat.lt_irrefl, Bool.false_eq_true, T_3, T_23, T_25, T_36, T_64, List.all_cons, List.all_nil, List.getD_cons_zero, List.getD_cons_succ, beq_self_eq_true, Zdu, Z71, Z8t, Zch, Zcy, ZdE, ZPT, ZlF, ZkM, ZkR, Zkx, ZkQ, ZRt, Zkd, ZgM, Zg0, ZlN, ZkZ, Zk7, Zls, Zng, Zms, Zm5, Zkh, Znd, Zjz, Zgn, ZgL, ZfL, ZfW, Zg3, ZgW, Zgr, ZS3, ZEY, ZDo, Zlq, ZjP, ZjQ, ZBF, Zc2, Zcr, g1, g2, g3, aq, ia, ib, hcl, hil, hml, htk, hj0, z, if_pos, Z9A (show j + 1 ≤ 1000000 by omega), ZD (show j < 1000000 by omega), hjc]
     exact ⟨_, rfl, rfl⟩
abbrev n5S (T : List Nat) (xs ys : List Int) (n : Nat) (i : Nat) : St :=
 ([(237, .int .i64 i), (236, .int .i64 n), (235, .ref 194 0 n n n 1 false), (24, .ref 200 0 n n n 1 false), (9, .ref 34 0 n n n 1 false)], [(34, ⟨.row, ins T⟩), (194, ⟨.row, ics xs⟩), (200, ⟨.row, ics ys⟩)])
theorem Z0sm {C : Callee} {T : List Nat} {xs ys : List Int} {n : Nat} (hT : T.length = n) (hTn : ∀ x ∈ T, x < n) (hn : n ≤ 6) (hx : xs.length = n) (hy : ys.length = n) (heq : ∀ i, i < n → ys.getD (T.getD i 0) 0 = xs.getD i 0) (i : Nat) (hi : i < n) :
   ∃ s', (execA E C (fg 10) 0 253 [] 1000 Z9T) (n5S T xs ys n i) = some (.normal, s') ∧ headA [] s' = n5S T xs ys n (i + 1) := by
 have ht : T[i]? = some (T.getD i 0) := Z08 (by omega)
 have htn := hTn _ (List.mem_of_getElem? ht)
 have hat := Z10 ht
 have ax := ZnA (Z08 (l := xs) (show i < xs.length by omega))
 have ay := ZnA (Z08 (l := ys) (show T.getD i 0 < ys.length by omega))
 rw [show ys.getD (T.getD i 0) default = ys.getD (T.getD i 0) 0 from rfl, heq i hi] at ay
 rw [show xs.getD i default = xs.getD i 0 from rfl] at ax
 have hil : (ins T).length = n := by rw [Zu, hT]
 have hxl : (ics xs).length = n := by rw [Z0r, hx]
 have hyl : (ics ys).length = n := by rw [Z0r, hy]
 generalize T.getD i 0 = t at *
 generalize xs.getD i 0 = z at *
 have g1 : (i : Int) < n := by omega
 have g2 : (t : Int) < n := by omega
 have hb : (z != z) = false := by simp
 simp (disch := omega) only [Z8, Zg, Zc, Za, Z2, Z0G, Z1, Z3, Z0, Zd, Zo, Zm, stp, just, Rd.bind, Rd.run, Rd.opt, upds, tsz, rdCells, aLoad, Z5, aNum, aBin, aInt, Nat.reduceLT, Nat.reduceBEq, Nat.reduceEqDiff, Nat.reduceLeDiff, ↓reduceIte, Zf, Nat.zero_add, decide_true, Z7, and_true, Int.natCast_nonneg, Int.toNat_natCast, List.elem_cons, List.elem_nil, seqN, bindN, regN, Nat.mul_one, beq_self_eq_true, bne_self_eq_false, Bool.false_eq_true, T_3, T_36, beq_self_eq_true, Z05o, ZCF, ZPk, ZYh, Z02F, Z02p, Z0jK, Z0gI, Z0gj, Z0dx, Z0dq, Z0gg, Z0fc, Z0nO, Z0fJ, Z0e8, Z0gf, Z0fI, Z0eA, Z0fq, Z0dh, Z0eQ, Z0h4, Z0fe, Z0mx, Z0fm, Z0gB, Z0iJ, Z0nN, Z0iz, Z0ni, Z0jZ, Z0le, Z0jS, Z0kv, Z0f2, Z0ez, Z0gK, Z0kM, Z01d, ZY9, g1, g2, hat, ax, ay, hil, hxl, hyl, ZD (show i < 1000000 by omega)]
 exact ⟨_, rfl, rfl⟩
end Go.AM.YtgfnbmfjbjopkaaDoor
end
noncomputable section
namespace Go.AM.YtgfnbmfjbjopkaaDoor
open Go Go.AM Go.AM.Mule
theorem Z0ll {zs : List Int} {i k : Nat} (hi : i < 6) (hk : k < 6) (h : keyN zs i = keyN zs k) : i = k := by
 unfold keyN at h; omega
theorem Zby {zs : List Int} {n i : Nat} (hi : i < n) : rkT zs n i < n := by
 have hs : ((List.range n).filter fun j => decide (keyN zs j < keyN zs i)).length ≤ ((List.range n).erase i).length := by
   refine Z6f _ _ (List.nodup_range.filter _) fun j hj => ?_
   obtain ⟨h1, h2⟩ := List.mem_filter.1 hj
   have hne : j ≠ i := fun e => by rw [e] at h2; simp at h2
   rw [List.mem_erase_of_ne hne]; exact h1
 rw [List.length_erase_of_mem (List.mem_range.2 hi), List.length_range] at hs
 show ((List.range n).filter fun j => decide (keyN zs j < keyN zs i)).length < n
 omega
theorem ZZQ {zs : List Int} {n i k : Nat} (hi : i < n) (h : keyN zs i < keyN zs k) : rkT zs n i < rkT zs n k := by
 have hn : (i :: (List.range n).filter fun j => decide (keyN zs j < keyN zs i)).Nodup :=
   List.nodup_cons.2 ⟨fun hm => by have := (List.mem_filter.1 hm).2; simp at this, List.nodup_range.filter _⟩
 have := Z6f _ ((List.range n).filter fun j => decide (keyN zs j < keyN zs k)) hn fun j hj => by
   rcases List.mem_cons.1 hj with rfl | hj
   · exact List.mem_filter.2 ⟨List.mem_range.2 hi, by simpa using h⟩
   · obtain ⟨h1, h2⟩ := List.mem_filter.1 hj
     exact List.mem_filter.2 ⟨h1, by have : keyN zs j < keyN zs i := by simpa using h2
                                     simpa using Int.lt_trans this h⟩
 rw [List.length_cons] at this
 exact this
theorem Zaf {zs : List Int} {n i k : Nat} (h6 : n ≤ 6) (hi : i < n) (hk : k < n) (h : rkT zs n i = rkT zs n k) : i = k := by
 rcases Int.lt_trichotomy (keyN zs i) (keyN zs k) with h1 | h1 | h1
 · have := ZZQ hi h1; omega
 · exact Z0ll (by omega) (by omega) h1
 · have := ZZQ hk h1; omega
abbrev toT (zs : List Int) (n : Nat) : List Nat := (List.range n).map (rkT zs n)
theorem Z0jk {zs : List Int} {n : Nat} : toA zs n n 0 = toT zs n := by
 unfold toA toT
 exact List.map_congr_left fun j hj => by rw [if_pos (List.mem_range.1 hj)]
theorem Zfx {zs : List Int} {n i : Nat} (hi : i < n) : (toT zs n).getD i 0 = rkT zs n i := by simp [toT, hi]
theorem ZrE {zs : List Int} {n : Nat} : ∀ x ∈ toT zs n, x < n := by
 intro x hx
 obtain ⟨i, hi, rfl⟩ := List.mem_map.1 hx
 exact Zby (List.mem_range.1 hi)
theorem Z090 {zs : List Int} {n : Nat} (h6 : n ≤ 6) : (toT zs n).Nodup := by
 refine List.pairwise_map.2 (List.Pairwise.imp_of_mem (fun {a b} ha hb hne e => hne ?_) List.nodup_range)
 exact Zaf h6 (List.mem_range.1 ha) (List.mem_range.1 hb) e
def frT (zs : List Int) (n y : Nat) : Nat := (toT zs n).idxOf y
theorem Z0sa {zs : List Int} {n i : Nat} (h6 : n ≤ 6) (hi : i < n) : frT zs n (rkT zs n i) = i := by
 have hl : (toT zs n).length = n := by simp [toT]
 have hm : rkT zs n i ∈ toT zs n := List.mem_map.2 ⟨i, List.mem_range.2 hi, rfl⟩
 have h1 := List.idxOf_lt_length_iff.2 hm
 have h2 : (toT zs n)[(toT zs n).idxOf (rkT zs n i)] = rkT zs n i := List.getElem_idxOf h1
 rw [hl] at h1
 have h3 : rkT zs n ((toT zs n).idxOf (rkT zs n i)) = rkT zs n i := by
   refine Eq.trans ?_ h2
   rw [List.getElem_map, List.getElem_range]
 exact Zaf h6 h1 hi h3
theorem Z07V {zs : List Int} {n y : Nat} (h6 : n ≤ 6) (hy : y < n) : frT zs n y < n ∧ rkT zs n (frT zs n y) = y := by
 have hl : (toT zs n).length = n := by simp [toT]
 have hm : y ∈ toT zs n := by
   have := ZV9 (n := n) (Z090 (zs := zs) h6) ZrE
   rw [hl] at this
   have h0 : leftL n (toT zs n) = [] := List.length_eq_zero_iff.1 (by omega)
   refine Classical.byContradiction fun hc => ?_
   have := ZBk.2 ⟨hy, hc⟩
   rw [h0] at this
   simp at this
 have h1 := List.idxOf_lt_length_iff.2 hm
 have h2 : (toT zs n)[(toT zs n).idxOf y] = y := List.getElem_idxOf h1
 rw [hl] at h1
 refine ⟨h1, ?_⟩
 show rkT zs n ((toT zs n).idxOf y) = y
 refine Eq.trans ?_ h2
 rw [List.getElem_map, List.getElem_range]
theorem ZoY {zs : List Int} {ls : List Ld} {n : Nat} (h6 : n ≤ 6) : ∀ i, i ≤ n → ∀ j, j < i → (mvL (toT zs n) ls n i).getD (rkT zs n j) default = ls.getD j default
 | i + 1, hi, j, hj => by
   have hlen := Z7M (toT zs n) ls n i
   have hr := Zby (zs := zs) (show j < n by omega)
   rw [mvL, Zfx (show i < n by omega)]
   by_cases e : j = i
   · subst e
     simp [hlen, hr]
   · have hne : rkT zs n i ≠ rkT zs n j := fun h => e (Zaf h6 (by omega) (by omega) h.symm)
     have ih := ZoY (zs := zs) (ls := ls) h6 i (by omega) j (by omega)
     rw [List.getD_eq_getElem?_getD, List.getElem?_set, if_neg hne, ← List.getD_eq_getElem?_getD]
     exact ih
theorem ZvU {T : List Nat} {es : List Pr} : ∀ j, j ≤ es.length → ∀ q, q ∈ mvE T es j ↔ ∃ p ∈ es.take j, q = mpE T p
 | 0, _, q => by simp [mvE]
 | j + 1, hj, q => by
   have ih := ZvU (T := T) (es := es) j (by omega) q
   have hx := Z08 (l := es) (i := j) (by omega)
   have ht : es.take (j + 1) = es.take j ++ [es.getD j default] := by rw [List.take_add_one, hx]; rfl
   rw [mvE, List.mem_cons, ih, ht]
   constructor
   · rintro (h | ⟨p, h1, h2⟩)
     · exact ⟨_, by simp, h⟩
     · exact ⟨p, by simp [h1], h2⟩
   · rintro ⟨p, h1, h2⟩
     rcases List.mem_append.1 h1 with h | h
     · exact .inr ⟨p, h, h2⟩
     · have : p = es.getD j default := by simpa using h
       exact .inl (by rw [h2, this])
theorem ZVh {zs : List Int} {ls : List Ld} {es : List Pr} {n : Nat} (hl : ls.length = n) (hk : chk ls es = 0) (hld : ∀ x ∈ ls, ldE x = 0) (hnd : es.Nodup) :
   Ren ls (mvL (toT zs n) ls n n) (es.map tN) ((mvE (toT zs n) es es.length).map tN) n (rkT zs n) (frT zs n) ∧ chk (mvL (toT zs n) ls n n) (mvE (toT zs n) es es.length) = 0 := by
 obtain ⟨tr, ord, hr, hE⟩ := Z59 hk
 rw [hl] at tr ord hr hE
 have h6 := tr.le
 have hp := ZM8 hk
 rw [hl] at hp
 have hmp : ∀ a b : Nat, a < n → b < n → mpE (toT zs n) ((a : Int), (b : Int)) = ((rkT zs n a : Int), (rkT zs n b : Int)) := by
   intro a b ha hb
   unfold mpE
   simp only [Int.toNat_natCast]
   rw [Zfx ha, Zfx hb]
 have hmem : ∀ q, q ∈ mvE (toT zs n) es es.length ↔ ∃ p ∈ es, q = mpE (toT zs n) p := by
   intro q
   have := ZvU (T := toT zs n) (es := es) es.length (Nat.le_refl _) q
   rwa [List.take_length] at this
 have ren : Ren ls (mvL (toT zs n) ls n n) (es.map tN) ((mvE (toT zs n) es es.length).map tN) n (rkT zs n) (frT zs n) := by
   refine ⟨fun i hi => ⟨Zby hi, Z0sa h6 hi⟩, fun i hi => Z07V h6 hi, hE, ?_, ?_, fun i hi => ZoY h6 n (Nat.le_refl _) i hi⟩
   · intro p hp2
     obtain ⟨q, hq, rfl⟩ := List.mem_map.1 hp2
     obtain ⟨r, hr1, rfl⟩ := (hmem q).1 hq
     obtain ⟨a, b, rfl, ha, hb⟩ := hp r hr1
     rw [hmp a b ha hb]
     simp only [tN, Int.toNat_natCast]
     exact ⟨Zby ha, Zby hb⟩
   · intro a b ha hb
     constructor
     · intro h
       obtain ⟨q, hq, e⟩ := List.mem_map.1 h
       obtain ⟨r, hr1, rfl⟩ := (hmem q).1 hq
       obtain ⟨c, d, rfl, hc, hd⟩ := hp r hr1
       rw [hmp c d hc hd] at e
       simp only [tN, Int.toNat_natCast, Prod.mk.injEq] at e
       have e1 := Zaf h6 hc ha e.1
       have e2 := Zaf h6 hd hb e.2
       subst e1; subst e2
       exact List.mem_map.2 ⟨_, hr1, by simp [tN]⟩
     · intro h
       obtain ⟨r, hr1, e⟩ := List.mem_map.1 h
       obtain ⟨c, d, rfl, hc, hd⟩ := hp r hr1
       simp only [tN, Int.toNat_natCast, Prod.mk.injEq] at e
       obtain ⟨rfl, rfl⟩ := e
       exact List.mem_map.2 ⟨_, (hmem _).2 ⟨_, hr1, rfl⟩, by rw [hmp c d hc hd]; simp [tN]⟩
 refine ⟨ren, ?_⟩
 have hml := Z7M (toT zs n) ls n n
 refine Z0qF (by rw [hml]; exact tr.ne) (by rw [hml]; exact h6) (by rw [Zi9]; exact (ZbF hk).2.2.1) ?_ ?_ ?_ ?_
 · intro x hx
   obtain ⟨j, hj, e⟩ := List.mem_iff_getElem.1 hx
   rw [hml] at hj
   obtain ⟨f1, f2⟩ := Z07V (zs := zs) h6 hj
   have := ZoY (zs := zs) (ls := ls) h6 n (Nat.le_refl _) _ f1
   rw [f2] at this
   have e2 : (mvL (toT zs n) ls n n).getD j default = x := by rw [← e]; simp [hml, hj]
   rw [e2] at this
   rw [this]
   exact hld _ (List.mem_of_getElem? (Z08 (by omega)))
 · intro q hq
   obtain ⟨r, hr1, rfl⟩ := (hmem q).1 hq
   obtain ⟨a, b, rfl, ha, hb⟩ := hp r hr1
   rw [hml]
   exact ⟨_, _, hmp a b ha hb, Zby ha, Zby hb⟩
 · have key : ∀ j, j ≤ es.length → (mvE (toT zs n) es j).Nodup := by
     intro j
     induction j with
     | zero => intro _; exact List.nodup_nil
     | succ j ih =>
       intro hj
       rw [mvE]
       refine List.nodup_cons.2 ⟨fun hm => ?_, ih (by omega)⟩
       obtain ⟨p, p1, p2⟩ := (ZvU j (by omega) _).1 hm
       have hx := Z08 (l := es) (i := j) (by omega)
       obtain ⟨a, b, e, ha, hb⟩ := hp _ (List.mem_of_getElem? hx)
       obtain ⟨c, d, e', hc, hd⟩ := hp _ (List.mem_of_mem_take p1)
       rw [e, e', hmp a b ha hb, hmp c d hc hd] at p2
       simp only [Prod.mk.injEq] at p2
       have e1 := Zaf (zs := zs) h6 ha hc (by omega)
       have e2 := Zaf (zs := zs) h6 hb hd (by omega)
       subst e1; subst e2
       have hn : (es.take j ++ [es.getD j default]).Nodup := by
         have : es.take (j + 1) = es.take j ++ [es.getD j default] := by rw [List.take_add_one, hx]; rfl
         rw [← this]; exact (List.take_sublist _ _).nodup hnd
       exact (List.nodup_append.1 hn).2.2 p p1 (es.getD j default) (by simp) (by rw [e', e])
   exact key _ (Nat.le_refl _)
 · intro i hc
   have hi := Mule.ZKy ren.r' hc
   obtain ⟨f1, f2⟩ := Z07V (zs := zs) h6 hi.1
   rw [← f2] at hc
   have := (ren.reach f1 f1).1 hc
   exact Z0hc hk _ this
theorem Z0is {zs : List Int} {ls : List Ld} {n : Nat} {c : Int} (hl : ls.length = n) (h6 : n ≤ 6) : ∀ i, i < n → (latL c (mvL (toT zs n) ls n n)).getD ((toT zs n).getD i 0) 0 = (latL c ls).getD i 0 := by
 intro i hi
 have hml := Z7M (toT zs n) ls n n
 have h := ZoY (zs := zs) (ls := ls) h6 n (Nat.le_refl _) i hi
 have hr := Zby (zs := zs) hi
 rw [Zfx hi]
 unfold latL
 have a1 := Z08 (l := mvL (toT zs n) ls n n) (i := rkT zs n i) (by omega)
 have a2 := Z08 (l := ls) (i := i) (by omega)
 rw [h] at a1
 rw [List.getD_eq_getElem?_getD, List.getD_eq_getElem?_getD, List.getElem?_map, List.getElem?_map, a1, a2]
end Go.AM.YtgfnbmfjbjopkaaDoor
end
noncomputable section
namespace Go.AM.YtgfnbmfjbjopkaaDoor
open Go Go.AM Go.AM.Mule
theorem ZVa {d : Nat} {ls : List Ld} {es : List Pr} {n : Nat} {a b : AV} {c : Int} (hn : ls.length = n) (hk : chk ls es = 0) (ha : SV lc ls a) (hb : SV bc es b) (hc : 0 ≤ c ∧ c ≤ 1000) {site : Nat → Nat} {seen : List Nat} :
   aBack site true seen (thaw (callA E fg 1000 (d + 4)) 38 [.agg [a, b], .int .i64 c] [] 0) = Z15 (site 0) seen (fun k => .tup [.ref k 0 n n n 1 false, .int .i64 0]) ⟨.row, ics (latL c ls)⟩ := by
 obtain ⟨g, H', h1, h2⟩ := ZVd (d := d) ha hb (cost := c) (by unfold latestE; rw [if_neg (by simpa using hk), if_neg (by omega)]) (by omega)
 have hl : (ics (latL c ls)).length = n := by rw [Z0r, latL, List.length_map, hn]
 have := ZgI (site := site) (seen := seen) (C := callA E fg 1000 (d + 4)) (f := 38) (args := [.agg [a, b], .int .i64 c]) (id := g) (n := n) (sz := 1) (k := .i64) (z := 0) (cells := ics (latL c ls)) (H' := H') (by rw [hl]; rw [hn] at h1; exact h1) h2
 rw [hl] at this
 exact this
structure NmC (C : Callee) (ls : List Ld) (es : List Pr) (n : Nat) (a : AV) (cnt lea bes : Int) (sav : Int → Int) (lat : Int → List Int) : Prop where
 count : ∀ (site : Nat → Nat) seen ex, aBack site true seen (thaw C 61 [.agg [.imm (cls lc ls) n ex, a]] [] 0) = .pure (.tup [.int .i64 cnt, .int .i64 0], [])
 least : ∀ (site : Nat → Nat) seen ex, aBack site true seen (thaw C 19 [.agg [.imm (cls lc ls) n ex, a]] [] 0) = .pure (.tup [.int .i64 lea, .int .i64 0], [])
 bests : ∀ (site : Nat → Nat) seen ex, aBack site true seen (thaw C 24 [.agg [.imm (cls lc ls) n ex, a]] [] 0) = .pure (.tup [.int .i64 bes, .int .i64 0], [])
 saved : ∀ (site : Nat → Nat) seen ex snow, 0 ≤ snow ∧ snow ≤ 54 → aBack site true seen (thaw C 36 [.agg [.imm (cls lc ls) n ex, a], .int .i64 snow] [] 0) = .pure (.tup [.int .i64 (sav snow), .int .i64 0], [])
 latest : ∀ (site : Nat → Nat) seen ex c, 0 ≤ c ∧ c ≤ 54 → aBack site true seen (thaw C 38 [.agg [.imm (cls lc ls) n ex, a], .int .i64 c] [] 0) = Z15 (site 0) seen (fun k => .tup [.ref k 0 n n n 1 false, .int .i64 0]) ⟨.row, ics (lat c)⟩
theorem nmC {ls : List Ld} {es : List Pr} {n : Nat} {a : AV} (hn : ls.length = n) (hk : chk ls es = 0) (ha : SV bc es a) (d : Nat) : NmC (callA E fg 1000 (d + 7)) ls es n a (ordN ls (sets n es) n 100000 : Nat) (ruC ls (sets n es) n) (ordN ls (sets n es) n (ruC ls (sets n es) n) : Nat) (fun s => (svN ls (sets n es) n s (2 ^ n) : Nat)) (fun c => latL c ls) := by
 have hG := muG hk d
 subst hn
 exact ⟨fun _ _ ex => hG.count _ _ _ _ (.inr ⟨ex, rfl⟩) ha, fun _ _ ex => hG.least _ _ _ _ (.inr ⟨ex, rfl⟩) ha, fun _ _ ex => hG.bests _ _ _ _ (.inr ⟨ex, rfl⟩) ha, fun _ _ ex _ h => hG.saved _ _ _ _ _ (.inr ⟨ex, rfl⟩) ha h, fun _ _ ex c h => ZVa (d := d + 3) rfl hk (.inr ⟨ex, rfl⟩) ha (by omega)⟩
structure NmH (es es' : List Pr) (n : Nat) (ls ls' : List Ld) (T : List Nat) (H : AHeap) : Prop where
 is : (es = [] ∧ es' = [] ∧ H = [(7, ⟨.box, [.ref 29 0 n n (n * 5) 5 false, .nilsl]⟩), (12, ⟨.box, [.ref 67 0 n n (n * 5) 5 false, .nilsl]⟩), (29, ⟨.row, cls lc ls⟩), (34, ⟨.row, ins T⟩), (67, ⟨.row, cls lc ls'⟩)]) ∨
   (es'.length = es.length ∧ H = [(7, ⟨.box, [.ref 29 0 n n (n * 5) 5 false, .ref 282 0 es.length es.length (es.length * 2) 2 false]⟩), (12, ⟨.box, [.ref 67 0 n n (n * 5) 5 false, .ref 104 0 es.length es.length (es.length * 2) 2 false]⟩), (29, ⟨.row, cls lc ls⟩), (34, ⟨.row, ins T⟩), (67, ⟨.row, cls lc ls'⟩), (104, ⟨.row, cls bc es'⟩), (282, ⟨.row, cls bc es⟩)]) ∨
   (es'.length = es.length ∧ H = [(7, ⟨.box, [.ref 29 0 n n (n * 5) 5 false, .ref 282 0 es.length es.length (es.length * 2) 2 false]⟩), (12, ⟨.box, [.ref 67 0 n n (n * 5) 5 false, .ref 1048680 0 es.length es.length (es.length * 2) 2 false]⟩), (29, ⟨.row, cls lc ls⟩), (34, ⟨.row, ins T⟩), (67, ⟨.row, cls lc ls'⟩), (282, ⟨.row, cls bc es⟩), (1048680, ⟨.row, cls bc es'⟩)])
theorem Z0jP {C : Callee} {ls ls' : List Ld} {es es' : List Pr} {n : Nat} {T : List Nat} {day : Int} {H : AHeap} {cnt lea bes : Int} {sav : Int → Int} {lat lat' : Int → List Int} (hH : NmH es es' n ls ls' T H)
   (h1 : ∀ a, SV bc es a → NmC C ls es n a cnt lea bes sav lat) (h2 : ∀ a, SV bc es' a → NmC C ls' es' n a cnt lea bes sav lat')
   (hl : ls.length = n) (hl' : ls'.length = n) (hT : T.length = n) (hTn : ∀ x ∈ T, x < n) (h6 : n ≤ 6) (hx : ∀ c, (lat c).length = n) (hy : ∀ c, (lat' c).length = n) (heq : ∀ c i, i < n → (lat' c).getD (T.getD i 0) 0 = (lat c).getD i 0) (hd : 0 ≤ day ∧ day ≤ 255)
   (hw : ∀ (site : Nat → Nat) seen, aBack site true seen (thaw C 17 [] [] 0) = .pure (.bool true, [])) :
   ∃ s', (execA E C (fg 10) 0 253 [] 1000 ZfI) ([(12, .ptr 12 0 2), (9, .ref 34 0 n n n 1 false), (8, .int .i64 n), (7, .ptr 7 0 2), (2, .int .u8 day)], H) = some (.ret, s') ∧ fget s'.1 6 = .bool true := by
 have w1 : wrp .i64 day = day := Z0i (by omega)
 have r1 : day.tmod 55 = day % 55 := Int.tmod_eq_emod_of_nonneg hd.1
 have hs0 : 0 ≤ day % 55 ∧ day % 55 ≤ 54 := by omega
 have w2 : wrp .i64 (day % 55) = day % 55 := Z0i (by omega)
 have hlen : (cls lc ls).length = n * 5 := by rw [ZA ZX, hl]
 have tcl : List.take (n * 5) (cls lc ls) = cls lc ls := List.take_of_length_le (by omega)
 have hlen' : (cls lc ls').length = n * 5 := by rw [ZA ZX, hl']
 have tcl' : List.take (n * 5) (cls lc ls') = cls lc ls' := List.take_of_length_le (by omega)
 have hil : (ins T).length = n := by rw [Zu, hT]
 have hxl := (Z0r (lat (day % 55))).trans (hx _)
 have hyl := (Z0r (lat' (day % 55))).trans (hy _)
 have hgo := fun i hi => Z0sm (C := C) (xs := lat (day % 55)) (ys := lat' (day % 55)) hT hTn h6 (hx _) (hy _) (heq _) i hi
 have hb0 : ∀ z : Int, (z != z) = false := fun z => by simp
 have hlp := fun s0 h0 => loopS (f := (execA E C (fg 10) 0 253 [] 1000 Z9T)) (n5S T (lat (day % 55)) (lat' (day % 55)) n) n s0 hgo h0 (by omega)
   (e := .exit 8) (se := ([(238, .bool false), (237, .int .i64 n), (236, .int .i64 n), (235, .ref 194 0 n n n 1 false), (24, .ref 200 0 n n n 1 false), (9, .ref 34 0 n n n 1 false)], [(34, ⟨.row, ins T⟩), (194, ⟨.row, ics (lat (day % 55))⟩), (200, ⟨.row, ics (lat' (day % 55))⟩)]))
   (by
     simp only [n5S]
     simp (disch := omega) only [ZR, Z8, Zc, Za, Z2, Z1, Z3, Z0, Zo, stp, just, Rd.bind, Rd.run, Rd.opt, upds, aBin, aInt, Nat.reduceEqDiff, Nat.reduceLeDiff, ↓reduceIte, decide_false, Z7, List.elem_nil, seqN, bindN, regN, Int.lt_irrefl, Bool.false_eq_true, Z05o, ZCF, ZPk, ZYh, Z02F, Z02p, Z01d, ZY9]) (by simp)
 have gnn : ((n : Int) != n) = false := by simp
 rcases hH.is with ⟨rfl, rfl, rfl⟩ | ⟨hel, rfl⟩ | ⟨hel, rfl⟩
 · obtain ⟨q1, q2, q3, q4, q5⟩ := h1 .nilsl (.inl ⟨rfl, rfl⟩)
   obtain ⟨p1, p2, p3, p4, p5⟩ := h2 .nilsl (.inl ⟨rfl, rfl⟩)
   have q4 := fun site seen ex => q4 site seen ex _ hs0
   have q5 := fun site seen ex => q5 site seen ex _ hs0
   have p4 := fun site seen ex => p4 site seen ex _ hs0
   have p5 := fun site seen ex => p5 site seen ex _ hs0
   have l1 := hlp ([(237, .int .i64 0), (236, .int .i64 n), (235, .ref 194 0 n n n 1 false), (24, .ref 200 0 n n n 1 false), (9, .ref 34 0 n n n 1 false)], [(7, ⟨.box, [.ref 29 0 n n (n * 5) 5 false, .nilsl]⟩), (12, ⟨.box, [.ref 67 0 n n (n * 5) 5 false, .nilsl]⟩), (29, ⟨.froz, cls lc ls⟩), (34, ⟨.row, ins T⟩), (67, ⟨.froz, cls lc ls'⟩), (194, ⟨.row, ics (lat (day % 55))⟩), (200, ⟨.row, ics (lat' (day % 55))⟩)]) rfl
   generalize lat (day % 55) = X at *
   simp (disch := omega) only [Z8, ZJ, ↓gd, ZW, Zc, Za, Z2, Z0G, Z1, Z3, Z0, Zl, Zd, Zx, Zi, Zm, stp, opPick, justO, just, Rd.bind, Rd.run, Rd.opt, upds, rdCells, aLoad, Zy, aLen, Zh, aBin, aInt, Nat.reduceAdd, Nat.reduceBEq, Nat.reduceEqDiff, Nat.reduceLeDiff, ↓reduceIte, Zf, Nat.zero_add, List.nil_append, List.getElem?_toArray, Bool.and_true, decide_true, Z7, aCall, snaps, List.append_nil, List.elem_cons, List.elem_nil, List.length_cons, List.length_nil, List.getElem?_cons_zero, List.getElem?_cons_succ, List.drop_zero, List.take_succ_cons, List.take_nil, Zp, Zct, Z73, seqN, bindN, regN, Zr, ZU, ZM, ZQ, aConv, Z1o, List.cons_append, Nat.le_refl, Int.reduceEq, Nat.zero_mul, beq_self_eq_true, bne_self_eq_false, Bool.false_eq_true, T_3, T_25, T_36, T_5, beq_self_eq_true, ZDO, Zl0, ZmE, ZlH, Zku, Zjs, ZJl, ZmH, ZmB, Zmq, Zmu, Zmn, Zk9, Zk3, Zmr, ZQk, ZlD, ZmK, Zjv, ZlL, ZkA, ZjA, Zle, ZjD, ZMY, Zko, ZkB, ZjS, Zkn, Zn2, Zlx, ZlR, ZjN, Zn0, ZlT, ZmS, Zg6, Zgi, ZPd, Zm3, ZkO, ZGn, ZEs, ZU0, ZKD, ZCI, ZD7, Zjx, ZmT, ZlA, Zjt, ZmI, ZmU, ZmL, Zm9, ZQ5, ZjR, ZmC, Zkz, ZlM, Zmm, Zml, ZlS, Zkb, Zuo, Zmt, Zna, Zlh, Zjy, Zn9, Zke, ZlQ, ZmX, Zkk, ZlX, Zkr, Zg7, ZgG, Zv5, Zmo, Zm1, ZuS, Zt0, ZuK, Zui, ZL4, Zvx, ZlU, ZkK, Zkw, ZlC, ZkE, ZlB, Zl4, ZmM, ZuJ, ZkW, Zmp, Zkf, Zl7, ZmD, Zlj, Zkl, ZkP, Zv9, ZkY, ZlP, Zmh, Znc, Zkc, ZlI, Zm6, Zmi, ZjH, ZmP, Zlu, Zh1, ZfC, Zua, ZlY, Zmw, ZtB, Zvg, Zu9, ZtF, Zvw, Zwm, Zmk, ZkN, ZjI, Zk8, Zlo, ZkT, Zkq, Zme, ZkS, Zu8, ZkV, Zne, ZjC, Zmj, Zk1, Zky, Zlk, Zmd, Zk2, ZvD, ZmA, Zmb, Zki, Zly, Zn1, ZjY, Zlp, Zm2, ZkC, Zwc, Zlv, Zn4, Zk5, Zlw, ZkI, ZkF, ZjG, ZmO, Zm7, ZvK, Zma, ZkJ, Zkp, ZmZ, Zl5, Zlz, Zm8, Zlm, Zkj, ZlE, ZkD, Zgs, ZfD, Zh4, ZfR, ZgK, Zgq, Zgg, ZgC, ZfY, ZgH, Zh0, Zgb, ZgR, ZgX, Zgu, Zgh, ZgJ, Zgt, ZfK, ZgY, Zgv, ZfE, Zvl, Zlf, ZlG, ZuZ, Zwi, ZsW, Zvy, Zuw, ZsY, Zlb, Zmf, ZmQ, ZmG, ZtJ, ZvV, ZtZ, ZtM, Zkv, ZkU, Zn7, Zvo, ZuN, Zuc, Zu7, ZuE, Zvi, Zw1, ZuA, Zwn, Zuz, Zwf, ZNF, ZPD, ZSz, ZMn, ZBs, ZNy, ZAk, w1, r1, hlen, tcl, hlen', tcl', hxl, hyl, q1, q2, q3, q4, q5, p1, p2, p3, p4, p5, l1, hw]
   refine ⟨_, rfl, ?_⟩
   rfl
 · have hcb : (cls bc es).length = es.length * 2 := ZA Z14 es
   have tcb : List.take (es.length * 2) (cls bc es) = cls bc es := List.take_of_length_le (by omega)
   have hcb' : (cls bc es').length = es.length * 2 := by rw [ZA Z14, hel]
   have tcb' : List.take (es.length * 2) (cls bc es') = cls bc es' := List.take_of_length_le (by omega)
   have q := fun e => h1 (.imm (cls bc es) es.length e) (.inr ⟨e, rfl⟩)
   have p := fun e => h2 (.imm (cls bc es') es.length e) (.inr ⟨e, by rw [hel]⟩)
   have q1 := fun e => (q e).count
   have q2 := fun e => (q e).least
   have q3 := fun e => (q e).bests
   have q4 := fun e site seen ex => (q e).saved site seen ex _ hs0
   have q5 := fun e site seen ex => (q e).latest site seen ex _ hs0
   have p1 := fun e => (p e).count
   have p2 := fun e => (p e).least
   have p3 := fun e => (p e).bests
   have p4 := fun e site seen ex => (p e).saved site seen ex _ hs0
   have p5 := fun e site seen ex => (p e).latest site seen ex _ hs0
   have l1 := hlp ([(237, .int .i64 0), (236, .int .i64 n), (235, .ref 194 0 n n n 1 false), (24, .ref 200 0 n n n 1 false), (9, .ref 34 0 n n n 1 false)], [(7, ⟨.box, [.ref 29 0 n n (n * 5) 5 false, .ref 282 0 es.length es.length (es.length * 2) 2 false]⟩), (12, ⟨.box, [.ref 67 0 n n (n * 5) 5 false, .ref 104 0 es.length es.length (es.length * 2) 2 false]⟩), (29, ⟨.froz, cls lc ls⟩), (34, ⟨.row, ins T⟩), (67, ⟨.froz, cls lc ls'⟩), (104, ⟨.froz, cls bc es'⟩), (194, ⟨.row, ics (lat (day % 55))⟩), (200, ⟨.row, ics (lat' (day % 55))⟩), (282, ⟨.froz, cls bc es⟩)]) rfl
   clear q p h1 h2 hH
   generalize lat (day % 55) = X at *
   simp (disch := omega) only [Z8, ZJ, ↓gd, ZW, Zc, Za, Z2, Z0G, Z1, Z3, Z0, Zl, Zd, Zi, Zm, stp, opPick, justO, just, Rd.bind, Rd.run, Rd.opt, upds, rdCells, aLoad, Zy, aLen, Zh, aBin, aInt, Nat.reduceAdd, Nat.reduceBEq, Nat.reduceEqDiff, Nat.reduceLeDiff, ↓reduceIte, Zf, Nat.zero_add, List.nil_append, List.getElem?_toArray, Bool.and_true, decide_true, Z7, aCall, snaps, List.append_nil, List.elem_cons, List.elem_nil, List.length_cons, List.length_nil, List.getElem?_cons_zero, List.getElem?_cons_succ, List.drop_zero, List.take_succ_cons, List.take_nil, Zp, Zct, Z73, seqN, bindN, regN, Zr, ZM, ZQ, aConv, Z1o, List.cons_append, Nat.le_refl, Int.reduceEq, Nat.zero_mul, beq_self_eq_true, bne_self_eq_false, Bool.false_eq_true, T_3, T_25, T_36, T_5, beq_self_eq_true, ZDO, Zl0, ZmE, ZlH, Zku, Zjs, ZJl, ZmH, ZmB, Zmq, Zmu, Zmn, Zk9, Zk3, Zmr, ZQk, ZlD, ZmK, Zjv, ZlL, ZkA, ZjA, Zle, ZjD, ZMY, Zko, ZkB, ZjS, Zkn, Zn2, Zlx, ZlR, ZjN, Zn0, ZlT, ZmS, Zg6, Zgi, ZPd, Zm3, ZkO, ZGn, ZEs, ZU0, ZKD, ZCI, ZD7, Zjx, ZmT, ZlA, Zjt, ZmI, ZmU, ZmL, Zm9, ZQ5, ZjR, ZmC, Zkz, ZlM, Zmm, Zml, ZlS, Zkb, Zuo, Zmt, Zna, Zlh, Zjy, Zn9, Zke, ZlQ, ZmX, Zkk, ZlX, Zkr, Zg7, ZgG, Zv5, Zmo, Zm1, ZuS, Zt0, ZuK, Zui, ZL4, Zvx, ZlU, ZkK, Zkw, ZlC, ZkE, ZlB, Zl4, ZmM, ZuJ, ZkW, Zmp, Zkf, Zl7, ZmD, Zlj, Zkl, ZkP, Zv9, ZkY, ZlP, Zmh, Znc, Zkc, ZlI, Zm6, Zmi, ZjH, ZmP, Zlu, Zh1, ZfC, Zua, ZlY, Zmw, ZtB, Zvg, Zu9, ZtF, Zvw, Zwm, Zmk, ZkN, ZjI, Zk8, Zlo, ZkT, Zkq, Zme, ZkS, Zu8, ZkV, Zne, ZjC, Zmj, Zk1, Zky, Zlk, Zmd, Zk2, ZvD, ZmA, Zmb, Zki, Zly, Zn1, ZjY, Zlp, Zm2, ZkC, Zwc, Zlv, Zn4, Zk5, Zlw, ZkI, ZkF, ZjG, ZmO, Zm7, ZvK, Zma, ZkJ, Zkp, ZmZ, Zl5, Zlz, Zm8, Zlm, Zkj, ZlE, ZkD, Zgs, ZfD, Zh4, ZfR, ZgK, Zgq, Zgg, ZgC, ZfY, ZgH, Zh0, Zgb, ZgR, ZgX, Zgu, Zgh, ZgJ, Zgt, ZfK, ZgY, Zgv, ZfE, Zvl, Zlf, ZlG, ZuZ, Zwi, ZsW, Zvy, Zuw, ZsY, Zlb, Zmf, ZmQ, ZmG, ZtJ, ZvV, ZtZ, ZtM, Zkv, ZkU, Zn7, Zvo, ZuN, Zuc, Zu7, ZuE, Zvi, Zw1, ZuA, Zwn, Zuz, Zwf, ZNF, ZPD, ZSz, ZMn, ZBs, ZNy, ZAk, w1, r1, hlen, tcl, hlen', tcl', hcb, tcb, hcb', tcb', hxl, hyl, q1, q2, q3, q4, q5, p1, p2, p3, p4, p5, l1, hw]
   refine ⟨_, rfl, ?_⟩
   rfl
 · have hcb : (cls bc es).length = es.length * 2 := ZA Z14 es
   have tcb : List.take (es.length * 2) (cls bc es) = cls bc es := List.take_of_length_le (by omega)
   have hcb' : (cls bc es').length = es.length * 2 := by rw [ZA Z14, hel]
   have tcb' : List.take (es.length * 2) (cls bc es') = cls bc es' := List.take_of_length_le (by omega)
   have q := fun e => h1 (.imm (cls bc es) es.length e) (.inr ⟨e, rfl⟩)
   have p := fun e => h2 (.imm (cls bc es') es.length e) (.inr ⟨e, by rw [hel]⟩)
   have q1 := fun e => (q e).count
   have q2 := fun e => (q e).least
   have q3 := fun e => (q e).bests
   have q4 := fun e site seen ex => (q e).saved site seen ex _ hs0
   have q5 := fun e site seen ex => (q e).latest site seen ex _ hs0
   have p1 := fun e => (p e).count
   have p2 := fun e => (p e).least
   have p3 := fun e => (p e).bests
   have p4 := fun e site seen ex => (p e).saved site seen ex _ hs0
   have p5 := fun e site seen ex => (p e).latest site seen ex _ hs0
   have l1 := hlp ([(237, .int .i64 0), (236, .int .i64 n), (235, .ref 194 0 n n n 1 false), (24, .ref 200 0 n n n 1 false), (9, .ref 34 0 n n n 1 false)], [(7, ⟨.box, [.ref 29 0 n n (n * 5) 5 false, .ref 282 0 es.length es.length (es.length * 2) 2 false]⟩), (12, ⟨.box, [.ref 67 0 n n (n * 5) 5 false, .ref 1048680 0 es.length es.length (es.length * 2) 2 false]⟩), (29, ⟨.froz, cls lc ls⟩), (34, ⟨.row, ins T⟩), (67, ⟨.froz, cls lc ls'⟩), (194, ⟨.row, ics (lat (day % 55))⟩), (200, ⟨.row, ics (lat' (day % 55))⟩), (282, ⟨.froz, cls bc es⟩), (1048680, ⟨.froz, cls bc es'⟩)]) rfl
   clear q p h1 h2 hH
   generalize lat (day % 55) = X at *
   simp (disch := omega) only [Z8, ZJ, ↓gd, ZW, Zc, Za, Z2, Z0G, Z1, Z3, Z0, Zl, Zd, Zi, Zm, stp, opPick, justO, just, Rd.bind, Rd.run, Rd.opt, upds, rdCells, aLoad, Zy, aLen, Zh, aBin, aInt, Nat.reduceAdd, Nat.reduceBEq, Nat.reduceEqDiff, Nat.reduceLeDiff, ↓reduceIte, Zf, Nat.zero_add, List.nil_append, List.getElem?_toArray, Bool.and_true, decide_true, Z7, aCall, snaps, List.append_nil, List.elem_cons, List.elem_nil, List.length_cons, List.length_nil, List.getElem?_cons_zero, List.getElem?_cons_succ, List.drop_zero, List.take_succ_cons, List.take_nil, Zp, Zct, Z73, seqN, bindN, regN, Zr, ZM, ZQ, aConv, Z1o, List.cons_append, Nat.le_refl, Int.reduceEq, Nat.zero_mul, beq_self_eq_true, bne_self_eq_false, Bool.false_eq_true, T_3, T_25, T_36, T_5, beq_self_eq_true, ZDO, Zl0, ZmE, ZlH, Zku, Zjs, ZJl, ZmH, ZmB, Zmq, Zmu, Zmn, Zk9, Zk3, Zmr, ZQk, ZlD, ZmK, Zjv, ZlL, ZkA, ZjA, Zle, ZjD, ZMY, Zko, ZkB, ZjS, Zkn, Zn2, Zlx, ZlR, ZjN, Zn0, ZlT, ZmS, Zg6, Zgi, ZPd, Zm3, ZkO, ZGn, ZEs, ZU0, ZKD, ZCI, ZD7, Zjx, ZmT, ZlA, Zjt, ZmI, ZmU, ZmL, Zm9, ZQ5, ZjR, ZmC, Zkz, ZlM, Zmm, Zml, ZlS, Zkb, Zuo, Zmt, Zna, Zlh, Zjy, Zn9, Zke, ZlQ, ZmX, Zkk, ZlX, Zkr, Zg7, ZgG, Zv5, Zmo, Zm1, ZuS, Zt0, ZuK, Zui, ZL4, Zvx, ZlU, ZkK, Zkw, ZlC, ZkE, ZlB, Zl4, ZmM, ZuJ, ZkW, Zmp, Zkf, Zl7, ZmD, Zlj, Zkl, ZkP, Zv9, ZkY, ZlP, Zmh, Znc, Zkc, ZlI, Zm6, Zmi, ZjH, ZmP, Zlu, Zh1, ZfC, Zua, ZlY, Zmw, ZtB, Zvg, Zu9, ZtF, Zvw, Zwm, Zmk, ZkN, ZjI, Zk8, Zlo, ZkT, Zkq, Zme, ZkS, Zu8, ZkV, Zne, ZjC, Zmj, Zk1, Zky, Zlk, Zmd, Zk2, ZvD, ZmA, Zmb, Zki, Zly, Zn1, ZjY, Zlp, Zm2, ZkC, Zwc, Zlv, Zn4, Zk5, Zlw, ZkI, ZkF, ZjG, ZmO, Zm7, ZvK, Zma, ZkJ, Zkp, ZmZ, Zl5, Zlz, Zm8, Zlm, Zkj, ZlE, ZkD, Zgs, ZfD, Zh4, ZfR, ZgK, Zgq, Zgg, ZgC, ZfY, ZgH, Zh0, Zgb, ZgR, ZgX, Zgu, Zgh, ZgJ, Zgt, ZfK, ZgY, Zgv, ZfE, Zvl, Zlf, ZlG, ZuZ, Zwi, ZsW, Zvy, Zuw, ZsY, Zlb, Zmf, ZmQ, ZmG, ZtJ, ZvV, ZtZ, ZtM, Zkv, ZkU, Zn7, Zvo, ZuN, Zuc, Zu7, ZuE, Zvi, Zw1, ZuA, Zwn, Zuz, Zwf, ZNF, ZPD, ZSz, ZMn, ZBs, ZNy, ZAk, w1, r1, hlen, tcl, hlen', tcl', hcb, tcb, hcb', tcb', hxl, hyl, q1, q2, q3, q4, q5, p1, p2, p3, p4, p5, l1, hw]
   refine ⟨_, rfl, ?_⟩
   rfl
end Go.AM.YtgfnbmfjbjopkaaDoor
end
noncomputable section
namespace Go.AM.YtgfnbmfjbjopkaaDoor
open Go Go.AM Go.AM.Mule
theorem Z09Q : ∀ n, repC [.int .i64 0, .int .i64 0, .int .i64 0, .int .i64 0, .int .i64 0] n = cls lc (List.replicate n zLd)
 | 0 => rfl
 | n + 1 => by rw [repC, Z09Q n]; rfl
theorem Z0pQ {zs : List Int} (h : zs.length = 6) : ∃ a b c d e f, zs = [a, b, c, d, e, f] := by
 match zs, h with
 | [a, b, c, d, e, f], _ => exact ⟨a, b, c, d, e, f, rfl⟩
theorem Z0mu {D : Dro} {zs : List Int} {ls : List Ld} {es : List Pr} {n : Nat} {day : Int} (hz : Z6 zs) :
   headA [] ([(36, .int .i64 0), (35, .int .i64 n), (9, .ref 34 0 n n n 1 false), (8, .int .i64 n), (7, .ptr 7 0 2), (4, .ptr 4 0 6), (2, .int .u8 day)], (3, ⟨.box, dcs D⟩) :: nH zs ls es n (List.replicate n 0)) = n2S zs ls es n day 0 := by
 obtain ⟨a, b, c, d, e, f, rfl⟩ := Z0pQ hz.l
 have h0 : ∀ zs, toA zs n 0 0 = List.replicate n 0 := fun zs => Z0gG
 simp only [n2S, h0, nH]
 rcases pVH 282 .row es with ⟨_, e1, e2⟩ | ⟨e1, e2⟩ <;> rw [e1, e2] <;> exact ZbT (ZY _ Z0F) rfl rfl
theorem ZyE {D : Dro} {zs : List Int} {day : Int} (h : DOk D) (hz0 : zs.length = 6 ∧ ∀ (i : Nat) (z : Int), zs[i]? = some z → 0 ≤ z ∧ z ≤ 255) (hd : 0 ≤ day ∧ day ≤ 255) (hw : ∃ H0, callA E fg 1000 40 17 [] [] 0 = some (.bool true, H0)) :
   rsOf (bodyA E (callA E fg 1000 40) fg 1000 10 [.agg (dcs D), .agg (zs.map (AV.int .u8)), .int .u8 day] [] 0) = some (.bool true) := by
 have hz : Z6 zs := ⟨hz0.1, hz0.2⟩
 rw [show zs.map (AV.int .u8) = u8s zs from rfl]
 have hm : (6 : Int) = 5 ∨ (6 : Int) = 6 := .inr rfl
 obtain ⟨n1, n2⟩ := ZyS h hm
 have h6 : nOf D 6 ≤ 6 := by omega
 have hmade0 := fun site seen he => Z07j (d := 38) (site := site) (seen := seen) h hm he
 have hmade1 := fun site seen he hs => Z075 (d := 38) (site := site) (seen := seen) h hm he hs
 have hll := Z7F h h6
 have hk := Z0fS h n1 h6
 have hnd := ZmR h _ h6
 have hok : ∀ x ∈ mdL D (nOf D 6), ldE x = 0 := fun x hx => by
   obtain ⟨q, hq, e⟩ := List.mem_map.1 hx
   rw [← e]
   exact (Z083 (h.xs q (List.mem_of_mem_take hq))).2
 have hnm := @Z0mu D
 generalize nOf D 6 = n at *
 generalize mdL D n = ls at *
 change (mdP D n).Nodup at hnd
 generalize mdP D n = es at *
 obtain ⟨ren, hk'⟩ := ZVh (zs := zs) hll hk hok hnd
 obtain ⟨tr, ord, hr, hE⟩ := Z59 hk
 obtain ⟨tr', ord', hr', hE'⟩ := Z59 hk'
 have hml := Z7M (toT zs n) ls n n
 have hel := Zi9 (toT zs n) es es.length
 rw [hll] at tr ord hr
 rw [hml] at tr' ord' hr'
 obtain ⟨r1, r2, r3⟩ := Z0ms ren tr tr' ord ord' hr hr'
 have hpr := ZM8 hk
 rw [hll] at hpr
 have h15 := (ZbF hk).2.2.1
 have hTl : (toT zs n).length = n := by simp [toT]
 have hC1 : ∀ a, SV bc es a → NmC (callA E fg 1000 40) ls es n a (ordN ls (sets n es) n 100000 : Nat) (ruC ls (sets n es) n) (ordN ls (sets n es) n (ruC ls (sets n es) n) : Nat) (fun s => (svN ls (sets n es) n s (2 ^ n) : Nat)) (fun c => latL c ls) := fun a ha => nmC hll hk ha 33
 have hC2 : ∀ a, SV bc (mvE (toT zs n) es es.length) a → NmC (callA E fg 1000 40) (mvL (toT zs n) ls n n) (mvE (toT zs n) es es.length) n a (ordN ls (sets n es) n 100000 : Nat) (ruC ls (sets n es) n) (ordN ls (sets n es) n (ruC ls (sets n es) n) : Nat) (fun s => (svN ls (sets n es) n s (2 ^ n) : Nat)) (fun c => latL c (mvL (toT zs n) ls n n)) := fun a ha => by
   obtain ⟨a1, a2, a3, a4, a5⟩ := nmC hml hk' ha 33
   rw [r2 100000 (by omega)] at a1
   rw [r1] at a2
   rw [r1, r2 _ (Z0rL _ _ _)] at a3
   refine ⟨a1, a2, a3, fun site seen ex snow hs => ?_, a5⟩
   have := a4 site seen ex snow hs
   rw [r3 snow hs.1] at this
   exact this
 have hworks := fun (site : Nat → Nat) seen => Z5Z (site := site) (seen := seen) hw
 have htail := fun H hH => Z0jP (C := callA E fg 1000 40) (T := toT zs n) (day := day) (H := H) hH hC1 hC2 hll hml hTl ZrE h6 (fun c => by rw [latL, List.length_map, hll]) (fun c => by rw [latL, List.length_map, hml]) (fun c i hi => Z0is hll h6 i hi) hd hworks
 clear hC1 hC2 r1 r2 r3 ren hk hk' tr tr' ord ord' hr hr' hE hE' hok hnd hworks
 generalize callA E fg 1000 40 = C at *
 have g2 := fun i hi => Z0rZ (C := C) (ls := ls) (es := es) (day := day) hz h6 i hi
 have g3 := fun i hi => Z0t5 (C := C) (T := toT zs n) (ls := ls) (es := es) (day := day) hll hTl ZrE h6 i hi
 have g4 := fun j hj => Z0s7 (C := C) (T := toT zs n) (ls := ls) (ls' := mvL (toT zs n) ls n n) (es := es) (day := day) hTl ZrE h6 hpr h15 j hj
 have hclL : (cls lc ls).length = n * 5 := by rw [ZA ZX, hll]
 have hdl := Z9R h
 have tdl : List.take 38 (dcs D) = dcs D := List.take_of_length_le (by omega)
 have hsn := ZeN h (d := 198) (by omega)
 have hzl : (u8s zs).length = 6 := by rw [Z02i, hz.l]
 have rep := ZeY n
 have rep2 := Z09Q n
 have hflat : [AV.int .i64 0].all AV.flat = true := rfl
 have hflat2 : [AV.int .i64 0, AV.int .i64 0, AV.int .i64 0, AV.int .i64 0, AV.int .i64 0].all AV.flat = true := rfl
 have hkn : ((n : Nat) : Int) ≤ kHi .i64 := by simp only [kHi]; omega
 have hby : ((8 : Nat) : Int) * ((n : Nat) : Int) ≤ 281474976710656 := by omega
 have hby2 : ((40 : Nat) : Int) * ((n : Nat) : Int) ≤ 281474976710656 := by omega
 have hri : (ins (List.replicate n 0)).length = n := by rw [Zu, List.length_replicate]
 have hrl : (cls lc (List.replicate n zLd)).length = n * 5 := by rw [ZA ZX, List.length_replicate]
 have hl1 := loopS (f := (execA E C (fg 10) 0 253 [] 1000 ZdI)) (n2S zs ls es n day) n _ g2 (hnm hz) (by omega)
   (e := .exit 0) (se := ([(37, .bool false), (36, .int .i64 n), (35, .int .i64 n), (9, .ref 34 0 n n n 1 false), (8, .int .i64 n), (7, .ptr 7 0 2), (4, .ptr 4 0 6), (2, .int .u8 day)], nH zs ls es n (toT zs n))) (by
     simp only [n2S, Z0jk, nH]
     generalize toT zs n = T
     rcases pVH 282 .row es with ⟨_, e1, e2⟩ | ⟨e1, e2⟩ <;> rw [e1, e2]
     · simp (disch := omega) only [ZR, Z8, Zc, Za, Z2, Z1, Z3, Z0, Zo, stp, just, Rd.bind, Rd.run, Rd.opt, upds, aBin, aInt, Nat.reduceEqDiff, Nat.reduceLeDiff, ↓reduceIte, decide_false, Z7, List.elem_nil, seqN, bindN, regN, Int.lt_irrefl, Bool.false_eq_true, ZpG, ZiI, ZiS, Zqr, Zrn, ZoW, ZqL, Zpo]
     · simp (disch := omega) only [ZR, Z8, Zc, Za, Z2, Z1, Z3, Z0, Zo, stp, just, Rd.bind, Rd.run, Rd.opt, upds, aBin, aInt, Nat.reduceEqDiff, Nat.reduceLeDiff, ↓reduceIte, decide_false, Z7, List.elem_nil, seqN, bindN, regN, Int.lt_irrefl, Bool.false_eq_true, ZpG, ZiI, ZiS, Zqr, Zrn, ZoW, ZqL, Zpo]) (by simp)
 simp only [nH] at hl1
 have hl3 := fun s0 h0 => loopS (f := (execA E C (fg 10) 0 253 [] 1000 Zc3)) (n3S (toT zs n) ls es n day) n s0 g3 h0 (by omega)
   (e := .exit 4) (se := ([(73, .bool false), (72, .int .i64 n), (71, .int .i64 n), (70, .ref 29 0 n n (n * 5) 5 false), (12, .ptr 12 0 2), (9, .ref 34 0 n n n 1 false), (8, .int .i64 n), (7, .ptr 7 0 2), (2, .int .u8 day)],
     (7, ⟨.box, [.ref 29 0 n n (n * 5) 5 false, pV 282 es.length]⟩) :: (12, ⟨.box, [.ref 67 0 n n (n * 5) 5 false, .nilsl]⟩) :: (29, ⟨.row, cls lc ls⟩) :: (34, ⟨.row, ins (toT zs n)⟩) :: (67, ⟨.row, cls lc (mvL (toT zs n) ls n n)⟩) :: pH 282 .row es)) (by
     simp only [n3S]
     generalize toT zs n = T
     rcases pVH 282 .row es with ⟨_, e1, e2⟩ | ⟨e1, e2⟩ <;> rw [e1, e2]
     · simp (disch := omega) only [ZR, Z8, Zc, Za, Z2, Z1, Z3, Z0, Zo, stp, just, Rd.bind, Rd.run, Rd.opt, upds, aBin, aInt, Nat.reduceEqDiff, Nat.reduceLeDiff, ↓reduceIte, decide_false, Z7, List.elem_nil, seqN, bindN, regN, Int.lt_irrefl, Bool.false_eq_true, ZnP, Zfu, ZdS, Zpi, Znj, Zpj, Zoq, Zp8]
     · simp (disch := omega) only [ZR, Z8, Zc, Za, Z2, Z1, Z3, Z0, Zo, stp, just, Rd.bind, Rd.run, Rd.opt, upds, aBin, aInt, Nat.reduceEqDiff, Nat.reduceLeDiff, ↓reduceIte, decide_false, Z7, List.elem_nil, seqN, bindN, regN, Int.lt_irrefl, Bool.false_eq_true, ZnP, Zfu, ZdS, Zpi, Znj, Zpj, Zoq, Zp8]) (by simp)
 generalize hTT : toT zs n = T at *
 generalize hLL : mvL T ls n n = ls' at *
 by_cases he : es = []
 · subst he
   have hm0 := fun site seen => hmade0 site seen rfl
   obtain ⟨e1, e2⟩ : pV 282 ([] : List Pr).length = .nilsl ∧ pH 282 .row [] = [] := ⟨rfl, rfl⟩
   rw [e1, e2] at hl1 hl3
   have l3 := hl3 ([(72, .int .i64 0), (71, .int .i64 n), (70, .ref 29 0 n n (n * 5) 5 false), (12, .ptr 12 0 2), (9, .ref 34 0 n n n 1 false), (8, .int .i64 n), (7, .ptr 7 0 2), (2, .int .u8 day)], [(4, ⟨.box, u8s zs⟩), (7, ⟨.box, [.ref 29 0 n n (n * 5) 5 false, .nilsl]⟩), (12, ⟨.box, [.ref 67 0 n n (n * 5) 5 false, .nilsl]⟩), (29, ⟨.row, cls lc ls⟩), (34, ⟨.row, ins T⟩), (67, ⟨.row, cls lc (List.replicate n zLd)⟩)]) (ZbT (ZY _ (Z4Y zs)) rfl rfl)
   have l4 := Z06C (f := (execA E C (fg 10) 0 253 [] 1000 Z9u)) (s0 := ([(89, .int .i64 0), (88, .int .i64 0), (87, .nilsl), (12, .ptr 12 0 2), (9, .ref 34 0 n n n 1 false), (8, .int .i64 n), (7, .ptr 7 0 2), (2, .int .u8 day)], [(7, ⟨.box, [.ref 29 0 n n (n * 5) 5 false, .nilsl]⟩), (12, ⟨.box, [.ref 67 0 n n (n * 5) 5 false, .nilsl]⟩), (29, ⟨.row, cls lc ls⟩), (34, ⟨.row, ins T⟩), (67, ⟨.row, cls lc ls'⟩)])) rfl
     (e := .exit 6) (se := ([(90, .bool false), (89, .int .i64 0), (88, .int .i64 0), (87, .nilsl), (12, .ptr 12 0 2), (9, .ref 34 0 n n n 1 false), (8, .int .i64 n), (7, .ptr 7 0 2), (2, .int .u8 day)], [(7, ⟨.box, [.ref 29 0 n n (n * 5) 5 false, .nilsl]⟩), (12, ⟨.box, [.ref 67 0 n n (n * 5) 5 false, .nilsl]⟩), (29, ⟨.row, cls lc ls⟩), (34, ⟨.row, ins T⟩), (67, ⟨.row, cls lc ls'⟩)])) (by
     simp (disch := omega) only [ZR, Z8, Zc, Za, Z2, Z1, Z3, Z0, Zo, stp, just, Rd.bind, Rd.run, Rd.opt, upds, aBin, aInt, Nat.reduceEqDiff, Nat.reduceLeDiff, ↓reduceIte, decide_false, Z7, List.elem_nil, seqN, bindN, regN, Int.lt_irrefl, Bool.false_eq_true, Zdu, Z71, Z8t, Zch, Zcy, ZdE, Zc2, Zcr]) (by simp)
   obtain ⟨⟨φt, Ht⟩, t1, t2⟩ := htail _ ⟨.inl ⟨rfl, rfl, rfl⟩⟩
   simp only at t2
   simp (disch := omega) only [ZJ, ZF, Zc, Za, Z2, Z1, Z3, Z0, Zl, Zd, Zx, Zi, Zw, Zo, Zm, stp, opBox, justO, just, Rd.bind, Rd.run, Rd.opt, upds, acells, zeroCells, tsz, elemT, rdCells, fieldOf, Ze, aLoad, aStore, opStore, resA, resL, fresh, aNum, aLen, Zh, putC, evO, Nat.reduceAdd, Nat.reduceLT, Nat.reduceGT, Nat.reduceBEq, Nat.reduceEqDiff, Nat.reduceLeDiff, ↓reduceIte, reduceCtorEq, Zf, Nat.zero_add, Nat.add_zero, ne_eq, List.nil_append, List.getElem?_toArray, Bool.and_true, decide_true, not_true_eq_false, or_self, partsOf, fillA, Z7, Zk, and_true, true_and, Int.natCast_nonneg, Int.toNat_natCast, aCall, snaps, List.append_nil, Option.map_some, List.elem_cons, List.elem_nil, List.length_cons, List.length_nil, List.getElem?_cons_zero, List.getElem?_cons_succ, List.drop_zero, List.set_cons_zero, List.set_cons_succ, Zp, seqN, bindN, regN, Zr, ZU, ZM, ZQ, aBuild, placeF, Z1o, Nat.le_refl, Nat.mul_one, Nat.zero_mul, beq_self_eq_true, Bool.false_eq_true, T_3, T_22, T_23, T_25, T_36, T_62, T_58, beq_self_eq_true, Z076, Zu6, ZvT, Zvz, ZuU, Z06w, Zwo, Zv8, ZvG, ZuG, Zvm, Z06G, Zvv, Zv4, ZvH, Zvt, Ztm, Z07v, Zte, Zva, ZtS, ZvA, ZJo, Zu0, Zuy, ZsU, ZS4, ZGA, Z068, ZNS, ZjK, Zmv, Zmy, Zmc, ZmV, Zkm, ZL9, Zn8, Zjr, Zlt, Znb, Zn3, ZMQ, ZEA, ZPz, ZCg, Zl8, ZlV, ZlJ, ZjT, Zmx, ZP3, ZA4, ZOA, ZSf, ZK4, ZDE, Z06p, Z079, Z07x, Z07k, Z070, b_10, hm0, hl1, l3, l4, t1, t2, aMake, rep, rep2, hflat, hflat2, hkn, hby, hby2, hclL, hdl, tdl, hsn, hzl, if_pos]
   done
 · have hm1 := fun site seen hs => hmade1 site seen he hs
   have h0 : es.length ≠ 0 := by rw [Ne, List.length_eq_zero_iff]; exact he
   have e1 : pV 282 es.length = .ref 282 0 es.length es.length (es.length * 2) 2 false := if_neg h0
   have e2 : pH 282 .row es = [(282, ⟨.row, cls bc es⟩)] := if_neg h0
   rw [e1, e2] at hl1 hl3
   have hcb := ZA Z14 es
   have tcb : List.take (es.length * 2) (cls bc es) = cls bc es := List.take_of_length_le (by omega)
   have l3 := hl3 ([(72, .int .i64 0), (71, .int .i64 n), (70, .ref 29 0 n n (n * 5) 5 false), (12, .ptr 12 0 2), (9, .ref 34 0 n n n 1 false), (8, .int .i64 n), (7, .ptr 7 0 2), (2, .int .u8 day)], [(4, ⟨.box, u8s zs⟩), (7, ⟨.box, [.ref 29 0 n n (n * 5) 5 false, .ref 282 0 es.length es.length (es.length * 2) 2 false]⟩), (12, ⟨.box, [.ref 67 0 n n (n * 5) 5 false, .nilsl]⟩), (29, ⟨.row, cls lc ls⟩), (34, ⟨.row, ins T⟩), (67, ⟨.row, cls lc (List.replicate n zLd)⟩), (282, ⟨.row, cls bc es⟩)]) (by simp only [n3S, mvL]; rw [e1, e2]; exact ZbT (ZY _ (Z4Y zs)) rfl rfl)
   by_cases hp : es.length % 2 = 1
   · have l4 := loopN (f := (execA E C (fg 10) 0 253 [] 1000 Z9u)) (n4S T ls ls' es n day) es.length g4 (by simp only [n4S, n4H, if_true]; rfl) (by omega)
       (e := .exit 6) (se := ([(90, .bool false), (89, .int .i64 es.length), (88, .int .i64 es.length), (87, .ref 282 0 es.length es.length (es.length * 2) 2 false), (12, .ptr 12 0 2), (9, .ref 34 0 n n n 1 false), (8, .int .i64 n), (7, .ptr 7 0 2), (2, .int .u8 day)], [(7, ⟨.box, [.ref 29 0 n n (n * 5) 5 false, .ref 282 0 es.length es.length (es.length * 2) 2 false]⟩), (12, ⟨.box, [.ref 67 0 n n (n * 5) 5 false, .ref 104 0 es.length es.length (es.length * 2) 2 false]⟩), (29, ⟨.row, cls lc ls⟩), (34, ⟨.row, ins T⟩), (67, ⟨.row, cls lc ls'⟩), (104, ⟨.row, cls bc (mvE T es es.length)⟩), (282, ⟨.row, cls bc es⟩)])) (by
       simp only [n4S, n4H]
       rw [if_neg h0, if_pos hp]
       simp (disch := omega) only [ZR, Z8, Zc, Za, Z2, Z1, Z3, Z0, Zo, stp, just, Rd.bind, Rd.run, Rd.opt, upds, aBin, aInt, Nat.reduceEqDiff, Nat.reduceLeDiff, ↓reduceIte, decide_false, Z7, List.elem_nil, seqN, bindN, regN, Int.lt_irrefl, Bool.false_eq_true, Zdu, Z71, Z8t, Zch, Zcy, ZdE, Zc2, Zcr]) (by simp)
     obtain ⟨⟨φt, Ht⟩, t1, t2⟩ := htail _ ⟨.inr (.inl ⟨hel, rfl⟩)⟩
     simp only at t2
     simp only [n4S, n4H, if_true, cl0] at l4
     simp (disch := omega) only [ZJ, ZF, Zc, Za, Z2, Z1, Z3, Z0, Zl, Zd, Zx, Zi, Zw, Zo, Zm, stp, opBox, justO, just, Rd.bind, Rd.run, Rd.opt, upds, acells, zeroCells, tsz, elemT, rdCells, fieldOf, Ze, aLoad, aStore, opStore, resA, resL, fresh, aNum, aLen, Zh, putC, evO, Nat.reduceAdd, Nat.reduceMul, Nat.reduceLT, Nat.reduceGT, Nat.reduceBEq, Nat.reduceEqDiff, Nat.reduceLeDiff, ↓reduceIte, reduceCtorEq, Zf, Nat.zero_add, Nat.add_zero, ne_eq, List.nil_append, List.getElem?_toArray, Bool.and_true, decide_true, not_true_eq_false, or_self, partsOf, fillA, Z7, Zk, and_true, true_and, Int.natCast_nonneg, Int.toNat_natCast, aCall, snaps, List.append_nil, Option.map_some, List.elem_cons, List.elem_nil, List.length_cons, List.length_nil, List.getElem?_cons_zero, List.getElem?_cons_succ, List.drop_zero, List.set_cons_zero, List.set_cons_succ, Zp, seqN, bindN, regN, Zr, ZU, ZM, ZQ, aBuild, placeF, Z5K, Nat.le_refl, Nat.mul_one, Nat.zero_mul, beq_self_eq_true, Bool.false_eq_true, T_3, T_22, T_23, T_25, T_36, T_62, T_58, beq_self_eq_true, Z076, Zu6, ZvT, Zvz, ZuU, Z06w, Zwo, Zv8, ZvG, ZuG, Zvm, Z06G, Zvv, Zv4, ZvH, Zvt, Ztm, Z07v, Zte, Zva, ZtS, ZvA, ZJo, Zu0, Zuy, ZsU, ZS4, ZGA, Z068, ZNS, ZjK, Zmv, Zmy, Zmc, ZmV, Zkm, ZL9, Zn8, Zjr, Zlt, Znb, Zn3, ZMQ, ZEA, ZPz, ZCg, Zl8, ZlV, ZlJ, ZjT, Zmx, ZP3, ZA4, ZOA, ZSf, ZK4, ZDE, Z06p, Z079, Z07x, Z07k, Z070, b_10, hm1, hl1, l3, l4, t1, t2, aMake, rep, rep2, hflat, hflat2, hkn, hby, hby2, hclL, hcb, hdl, tdl, hsn, hzl, if_pos]
     done
   · have l4 := loopN (f := (execA E C (fg 10) 0 253 [] 1000 Z9u)) (n4S T ls ls' es n day) es.length g4 (by simp only [n4S, n4H, if_true]; rfl) (by omega)
       (e := .exit 6) (se := ([(90, .bool false), (89, .int .i64 es.length), (88, .int .i64 es.length), (87, .ref 282 0 es.length es.length (es.length * 2) 2 false), (12, .ptr 12 0 2), (9, .ref 34 0 n n n 1 false), (8, .int .i64 n), (7, .ptr 7 0 2), (2, .int .u8 day)], [(7, ⟨.box, [.ref 29 0 n n (n * 5) 5 false, .ref 282 0 es.length es.length (es.length * 2) 2 false]⟩), (12, ⟨.box, [.ref 67 0 n n (n * 5) 5 false, .ref 1048680 0 es.length es.length (es.length * 2) 2 false]⟩), (29, ⟨.row, cls lc ls⟩), (34, ⟨.row, ins T⟩), (67, ⟨.row, cls lc ls'⟩), (282, ⟨.row, cls bc es⟩), (1048680, ⟨.row, cls bc (mvE T es es.length)⟩)])) (by
       simp only [n4S, n4H]
       rw [if_neg h0, if_neg hp]
       simp (disch := omega) only [ZR, Z8, Zc, Za, Z2, Z1, Z3, Z0, Zo, stp, just, Rd.bind, Rd.run, Rd.opt, upds, aBin, aInt, Nat.reduceEqDiff, Nat.reduceLeDiff, ↓reduceIte, decide_false, Z7, List.elem_nil, seqN, bindN, regN, Int.lt_irrefl, Bool.false_eq_true, Zdu, Z71, Z8t, Zch, Zcy, ZdE, Zc2, Zcr]) (by simp)
     obtain ⟨⟨φt, Ht⟩, t1, t2⟩ := htail _ ⟨.inr (.inr ⟨hel, rfl⟩)⟩
     simp only at t2
     simp only [n4S, n4H, if_true, cl0] at l4
     simp (disch := omega) only [ZJ, ZF, Zc, Za, Z2, Z1, Z3, Z0, Zl, Zd, Zx, Zi, Zw, Zo, Zm, stp, opBox, justO, just, Rd.bind, Rd.run, Rd.opt, upds, acells, zeroCells, tsz, elemT, rdCells, fieldOf, Ze, aLoad, aStore, opStore, resA, resL, fresh, aNum, aLen, Zh, putC, evO, Nat.reduceAdd, Nat.reduceMul, Nat.reduceLT, Nat.reduceGT, Nat.reduceBEq, Nat.reduceEqDiff, Nat.reduceLeDiff, ↓reduceIte, reduceCtorEq, Zf, Nat.zero_add, Nat.add_zero, ne_eq, List.nil_append, List.getElem?_toArray, Bool.and_true, decide_true, not_true_eq_false, or_self, partsOf, fillA, Z7, Zk, and_true, true_and, Int.natCast_nonneg, Int.toNat_natCast, aCall, snaps, List.append_nil, Option.map_some, List.elem_cons, List.elem_nil, List.length_cons, List.length_nil, List.getElem?_cons_zero, List.getElem?_cons_succ, List.drop_zero, List.set_cons_zero, List.set_cons_succ, Zp, seqN, bindN, regN, Zr, ZU, ZM, ZQ, aBuild, placeF, Z5K, Nat.le_refl, Nat.mul_one, Nat.zero_mul, beq_self_eq_true, Bool.false_eq_true, T_3, T_22, T_23, T_25, T_36, T_62, T_58, beq_self_eq_true, Z076, Zu6, ZvT, Zvz, ZuU, Z06w, Zwo, Zv8, ZvG, ZuG, Zvm, Z06G, Zvv, Zv4, ZvH, Zvt, Ztm, Z07v, Zte, Zva, ZtS, ZvA, ZJo, Zu0, Zuy, ZsU, ZS4, ZGA, Z068, ZNS, ZjK, Zmv, Zmy, Zmc, ZmV, Zkm, ZL9, Zn8, Zjr, Zlt, Znb, Zn3, ZMQ, ZEA, ZPz, ZCg, Zl8, ZlV, ZlJ, ZjT, Zmx, ZP3, ZA4, ZOA, ZSf, ZK4, ZDE, Z06p, Z079, Z07x, Z07k, Z070, b_10, hm1, hl1, l3, l4, t1, t2, aMake, rep, rep2, hflat, hflat2, hkn, hby, hby2, hclL, hcb, hdl, tdl, hsn, hzl, if_pos]
     done
end Go.AM.YtgfnbmfjbjopkaaDoor
end
noncomputable section
namespace Go.AM.YtgfnbmfjbjopkaaDoor
open Go Go.AM
theorem Z0aL : isTrue (callA E fg 1000 40 17 [] [] 0) = true := by kernel_rfl
end Go.AM.YtgfnbmfjbjopkaaDoor
end
end
