/- A part of the proof of muleNames_card: NmJ, NmK. Own work of this project; texts printed by own programs among it. -/
import Derived.Test.YtgfnbmfjbjopkaaDoorNoI
set_option maxRecDepth 1000000
set_option maxHeartbeats 16000000
noncomputable section
noncomputable section
namespace Go.AM.YtgfnbmfjbjopkaaDoor
open Go Go.AM Go.AM.Mule
theorem Z0nV {lo k : Nat} (h : lo ≤ k) (c : List AV) : ascH lo (oH k c) = true := by
 cases c with
 | nil => rfl
 | cons a c => simp only [oH, Zv, ZC, Bool.and_true, decide_eq_true_eq]; exact h
def ldE (l : Ld) : Int := if ldB l = true then (if l.lo > l.hi then 7 else 0) else 1
theorem ZYq {n : Nat} (h : n ≤ 1000000) : roomOk E.T 126 n = true := by
 simp only [roomOk, Z0E, decide_eq_true_eq]; exact ⟨by decide, rfl, by omega⟩
abbrev h1S (ls : List Ld) (e : Bool) (b : AV) (n : Nat) (z : List AV) (i : Nat) : St :=
 ([(38, .int .i64 i), (37, .int .i64 n), (36, .imm (cls lc ls) n e), (5, .ptr 5 0 2), (4, .int .i64 n), (2, .ptr 2 0 2), (1, .ptr 1 0 2)],
   (1, ⟨.box, [.imm (cls lc ls) n e, b]⟩) :: (2, ⟨.box, [.nilsl, .nilsl]⟩) :: (5, ⟨.box, [oV 61 5 i, .ref 33 0 n n n 1 false]⟩) :: (33, ⟨.row, z⟩) :: oH 61 (cls lc (ls.take i)))
structure H1C (C : Callee) : Prop where
 rc : ∀ (site : Nat → Nat) seen l, aBack site true seen (thaw C 126 [.agg (lc l)] [] 0) = .pure (.agg (lc l), [])
 wi : ∀ (site : Nat → Nat) seen l, aBack site true seen (thaw C 127 [.agg (lc l)] [] 0) = .pure (.agg (ics (wiL l)), [])
theorem Z0r8 {C : Callee} (hC : H1C C) {ls : List Ld} {e : Bool} {b : AV} {n : Nat} {z : List AV} (hl : ls.length = n) (hz : z.length = n) (hn : n ≤ 6) (hb : b = .nilsl ∨ ∃ c m ex, b = .imm c m ex) (i : Nat) (hi : i < n) (h0 : ∀ l, ls[i]? = some l → ldE l = 0) :
   ∃ s', (execA E C (fg 88) 0 156 [] 1000 Z4v) (h1S ls e b n z i) = some (.normal, s') ∧ headA [] s' = h1S ls e b n z (i + 1) := by
 obtain ⟨hrc, hwi⟩ := hC
 have hk : ls[i]? = some ls[i] := List.getElem?_eq_getElem (by omega)
 have hx := h0 _ hk
 have hat := Z1l ZX hk
 have hr := fun site seen => hrc site seen ls[i]
 have hw := fun site seen => hwi site seen ls[i]
 have heq := Z0hy ls[i]
 have ht : ls.take (i + 1) = ls.take i ++ [ls[i]] := by rw [List.take_add_one, hk]; rfl
 have hsn := Zfl (f := lc) (ls.take i) ls[i]
 have hlt : (ls.take i).length = i := by rw [List.length_take]; omega
 have htl := ZA ZX (ls.take i)
 have htk := Z7n ZX (ls.take i)
 rw [hlt] at htl htk
 have hlen : (cls lc ls).length = n * 5 := by rw [ZA ZX, hl]
 generalize ls[i] = x at *
 have hB : ldB x = true := by
   unfold ldE at hx; split at hx
   · assumption
   · simp at hx
 have hlo : ¬ x.lo > x.hi := by
   unfold ldE at hx; rw [if_pos hB] at hx; split at hx
   · simp at hx
   · assumption
 rw [hB] at heq
 have g1 : (i : Int) < n := by omega
 have hwl : ics (wiL x) = [.int .i64 (cl 1 9 x.lo), .int .i64 (cl 1 9 x.hi), .int .i64 (cl 0 54 x.due), .int .i64 (cl 0 9 x.rate), .int .i64 (cl 0 20 x.base)] := rfl
 have nm : ¬ (i + 1 ≤ i) := by omega
 simp only [h1S, ht]
 rw [← hsn]
 simp only [hwl] at hw heq
 simp only [lc] at hat hr hw heq ⊢
 cases i with
 | zero =>
   rw [Nat.zero_mul, List.drop_zero] at hat
   simp only [List.take_zero, ZhK, List.nil_append, oH, oV]
   simp (disch := omega) only [Z8, Zg, Bool.not_true, Bool.not_false, Zc, Za, Z2, Z1, Z3, Z0, Zl, Zd, Zx, Zi, Zo, Zm, stp, opBox, justO, just, Rd.bind, Rd.run, Rd.opt, upds, acells, zeroCells, tsz, elemT, rdCells, fieldOf, Ze, aLoad, aStore, opStore, fresh, Z5, aNum, Zh, aBin, aInt, putC, evO, Nat.reduceAdd, Nat.reduceMul, Nat.reduceLT, Nat.reduceBEq, Nat.reduceEqDiff, Nat.reduceLeDiff, ↓reduceIte, reduceCtorEq, Zf, decide_eq_true_eq, Nat.zero_add, Nat.add_zero, ne_eq, List.nil_append, List.getElem?_toArray, ZE, ZH, ZO, ZP, Zz, ZL, Zt, Zn, ZC, Zv, stpT, Rd.foot, writing, Zq, Tr.empty, Zs, apartT, disj, List.isEmpty_nil, List.isEmpty_cons, List.map_nil, Bool.not_false, Bool.not_true, Bool.true_or, Bool.or_true, Bool.or_false, Bool.and_true, Bool.true_and, Bool.and_self, decide_true, decide_false, not_true_eq_false, or_self, ZB, Z02, fo6, fo5, partsOf, fillA, repC, Z00, aAppend, srcOf, window, Z7, Zk, and_true, true_and, aCall, snaps, List.append_nil, Option.map_some, List.elem_cons, List.elem_nil, List.length_cons, List.length_nil, List.getElem?_cons_zero, List.getElem?_cons_succ, List.drop_zero, List.take_succ_cons, List.take_nil, List.set_cons_zero, List.set_cons_succ, Zp, seqN, bindN, regN, Zr, ZU, ZM, ZQ, aBuild, List.all_cons, List.all_nil, Nat.le_refl, Int.reduceLE, Int.reduceToNat, Nat.mul_one, Nat.zero_mul, List.not_mem_nil, beq_self_eq_true, Nat.lt_irrefl, Bool.false_eq_true, T_3, T_22, T_62, Z0P, ZZ, Z0E, List.all_cons, List.all_nil, List.getD_cons_zero, List.getD_cons_succ, beq_self_eq_true, Zg8, ZcM, Zc1, Zgl, Zg2, Zgx, Zqh, Zi7, Zh5, ZiO, ZhC, Zib, Zqe, ZeC, ZeH, ZeI, Zet, Zef, Zqy, Zee, Zbf, Zbj, ZeL, Zeo, Zel, Zfp, Ze7, Zpa, ZeM, ZdX, Zf3, ZeO, ZrH, ZoP, Zo1, ZeT, ZeU, Zfq, Zfv, ZdQ, ZeG, Zf0, Zp2, Zfe, ZdU, Ze1, ZdP, ZnT, Zo7, Zrc, Zq7, ZsN, Zoz, ZnI, ZoB, Z0b9, ZTL, ZNj, ZGp, ZFf, ZOb, ZLf, ZDR, ZMA, Zpx, Zsm, Zol, ZpF, Z0bX, ZOS, ZHO, ZRo, Zso, Zg9, ZgB, hat, hr, hw, heq, hlo, hlen, if_pos, ZYq (show 1 ≤ 1000000 by omega), Int.natCast_zero]
   rcases hb with rfl | ⟨_, _, _, rfl⟩ <;> exact ⟨_, rfl, rfl⟩
 | succ i =>
   obtain ⟨c, cs, hcs⟩ : ∃ c cs, cls lc (ls.take (i + 1)) = c :: cs := by
     cases hh : cls lc (ls.take (i + 1)) with
     | nil => rw [hh] at htl; simp at htl
     | cons c cs => exact ⟨c, cs, rfl⟩
   have hoH : oH 61 (cls lc (ls.take (i + 1))) = [(61, ⟨.row, cls lc (ls.take (i + 1))⟩)] := by rw [hcs]; rfl
   have hoH2 : ∀ y, oH 61 (cls lc (ls.take (i + 1)) ++ y) = [(61, ⟨.row, cls lc (ls.take (i + 1)) ++ y⟩)] := fun y => by rw [hcs]; rfl
   simp only [hoH, hoH2, oV]
   generalize cls lc (ls.take (i + 1)) = cc at *
   simp (disch := omega) only [Z8, Zg, Bool.not_true, Bool.not_false, Zc, Za, Z2, Z1, Z3, Z0, Zl, Zd, Zi, Zo, Zm, stp, opBox, justO, just, Rd.bind, Rd.run, Rd.opt, upds, acells, zeroCells, tsz, elemT, rdCells, fieldOf, Ze, aLoad, aStore, opStore, fresh, Z5, aNum, Zh, aBin, aInt, putC, evO, Nat.reduceAdd, Nat.reduceMul, Nat.reduceLT, Nat.reduceBEq, Nat.reduceEqDiff, Nat.reduceLeDiff, ↓reduceIte, reduceCtorEq, Zf, Nat.zero_add, Nat.add_zero, ne_eq, List.nil_append, List.getElem?_toArray, ZE, ZH, ZO, ZP, Zz, ZL, Zt, Zn, ZC, Zv, stpT, Rd.foot, writing, Zq, Tr.empty, Zs, apartT, disj, List.isEmpty_nil, List.isEmpty_cons, List.map_nil, Bool.not_false, Bool.not_true, Bool.true_or, Bool.or_true, Bool.or_false, Bool.and_true, Bool.true_and, Bool.and_self, decide_true, decide_false, not_true_eq_false, or_self, ZB, Z02, fo6, fo5, partsOf, fillA, repC, Z00, aAppend, srcOf, window, Z7, Zk, and_true, true_and, Int.natCast_nonneg, Int.toNat_natCast, aCall, snaps, List.append_nil, Option.map_some, List.elem_cons, List.elem_nil, List.length_cons, List.length_nil, List.getElem?_cons_zero, List.getElem?_cons_succ, List.drop_zero, List.take_succ_cons, List.take_nil, List.set_cons_zero, List.set_cons_succ, Zp, seqN, bindN, regN, Zr, ZU, ZM, ZQ, aBuild, List.all_cons, List.all_nil, Nat.le_refl, Int.reduceLE, Int.reduceToNat, Nat.mul_one, Nat.zero_mul, List.not_mem_nil, beq_self_eq_true, Nat.lt_irrefl, Bool.false_eq_true, T_3, T_22, T_62, Z0P, ZZ, Z0E, List.all_cons, List.all_nil, List.getD_cons_zero, List.getD_cons_succ, beq_self_eq_true, Zg8, ZcM, Zc1, Zgl, Zg2, Zgx, Zqh, Zi7, Zh5, ZiO, ZhC, Zib, Zqe, ZeC, ZeH, ZeI, Zet, Zef, Zqy, Zee, Zbf, Zbj, ZeL, Zeo, Zel, Zfp, Ze7, Zpa, ZeM, ZdX, Zf3, ZeO, ZrH, ZoP, Zo1, ZeT, ZeU, Zfq, Zfv, ZdQ, ZeG, Zf0, Zp2, Zfe, ZdU, Ze1, ZdP, ZnT, Zo7, Zrc, Zq7, ZsN, Zoz, ZnI, ZoB, Z0b9, ZTL, ZNj, ZGp, ZFf, ZOb, ZLf, ZDR, ZMA, Zpx, Zsm, Zol, ZpF, Z0bX, ZOS, ZHO, ZRo, Zso, Zg9, ZgB, g1, hat, hr, hw, heq, hlo, hlen, htl, htk, nm, if_pos, ZYq (show i + 1 + 1 ≤ 1000000 by omega), ZD (show i + 1 < 1000000 by omega)]
   rcases hb with rfl | ⟨_, _, _, rfl⟩ <;> exact ⟨_, rfl, rfl⟩
theorem Z0qG {C : Callee} (hC : H1C C) {ls : List Ld} {e : Bool} {b : AV} {n : Nat} {z : List AV} (hl : ls.length = n) (hz : z.length = n) (_ : n ≤ 6) (i : Nat) (hi : i < n) {x : Ld} (hx : ls[i]? = some x) (h0 : ldE x ≠ 0) :
   ∃ H', (execA E C (fg 88) 0 156 [] 1000 Z4v) (h1S ls e b n z i) = some (.ret, ([(3, .int .i64 (ldE x)), (2, .ptr 2 0 2)], H')) ∧ hget H' 2 = some ⟨.box, [.nilsl, .nilsl]⟩ := by
 obtain ⟨hrc, hwi⟩ := hC
 have hat := Z1l ZX hx
 have hr := fun site seen => hrc site seen x
 have hw := fun site seen => hwi site seen x
 have heq := Z0hy x
 have hlen : (cls lc ls).length = n * 5 := by rw [ZA ZX, hl]
 have g1 : (i : Int) < n := by omega
 have hwl : ics (wiL x) = [.int .i64 (cl 1 9 x.lo), .int .i64 (cl 1 9 x.hi), .int .i64 (cl 0 54 x.due), .int .i64 (cl 0 9 x.rate), .int .i64 (cl 0 20 x.base)] := rfl
 simp only [hwl] at hw heq
 simp only [h1S]
 simp only [lc] at hat hr hw heq
 have o7 := Z08S (k := 61) (j := 7) (by omega) (cls lc (ls.take i))
 have o8 := Z08S (k := 61) (j := 8) (by omega) (cls lc (ls.take i))
 have oa := Z0nV (lo := 34) (k := 61) (by omega) (cls lc (ls.take i))
 generalize oH 61 (cls lc (ls.take i)) = Ho at *
 generalize oV 61 5 i = ov at *
 by_cases hB : ldB x = true
 · have hlo : x.lo > x.hi := by
     unfold ldE at h0; rw [if_pos hB] at h0; split at h0
     · assumption
     · simp at h0
   have e7 : ldE x = 7 := by unfold ldE; rw [if_pos hB, if_pos hlo]
   rw [hB] at heq
   rw [e7]
   simp (disch := omega) only [Z0o, Z8, Z0e, Bool.not_true, Bool.not_false, Zc, Za, Z2, Z1, Z3, Z0, Zd, Zi, Zo, Zm, stp, opBox, justO, just, Rd.bind, Rd.run, Rd.opt, upds, acells, zeroCells, tsz, rdCells, aLoad, aStore, opStore, fresh, Z5, aNum, aBin, aInt, putC, Nat.reduceAdd, Nat.reduceLT, Nat.reduceBEq, Nat.reduceEqDiff, Nat.reduceLeDiff, ↓reduceIte, Zf, Nat.zero_add, Nat.add_zero, List.nil_append, ZE, ZH, ZO, ZP, Zz, ZL, Zt, Zn, Zv, stpT, Rd.foot, writing, Zq, Tr.empty, Zs, apartT, disj, List.isEmpty_nil, List.isEmpty_cons, List.map_nil, Bool.not_false, Bool.not_true, Bool.true_or, Bool.or_true, Bool.or_false, Bool.and_true, Bool.true_and, Bool.and_self, decide_true, partsOf, fillA, Z7, Zk, and_true, true_and, Int.natCast_nonneg, Int.toNat_natCast, aCall, snaps, List.append_nil, Option.map_some, List.elem_cons, List.elem_nil, List.length_cons, List.length_nil, List.getElem?_cons_zero, List.getElem?_cons_succ, List.drop_zero, List.take_succ_cons, List.take_nil, List.set_cons_zero, List.set_cons_succ, Zp, seqN, bindN, regN, Zr, ZU, ZQ, aBuild, List.all_cons, List.all_nil, Nat.le_refl, Int.reduceLE, Int.reduceToNat, Nat.mul_one, List.not_mem_nil, beq_self_eq_true, Bool.false_eq_true, T_3, T_22, T_62, ZZ, Z0E, List.all_cons, List.all_nil, List.getD_cons_zero, List.getD_cons_succ, beq_self_eq_true, Zg8, ZcM, Zc1, Zgl, Zg2, Zgx, Zqh, Zi7, Zh5, ZiO, ZhC, Zib, Zqe, ZeC, ZeH, ZeI, Zet, Zef, Zqy, Zee, Zbf, Zbj, ZeL, Zeo, Zel, Zfp, Ze7, Zpa, ZeM, ZdX, Zf3, ZeO, ZrH, ZoP, Zo1, ZeT, ZeU, Zfq, Zfv, ZdQ, ZeG, Zf0, Zp2, Zfe, ZdU, Ze1, ZdP, ZnT, Zo7, Zrc, Zq7, ZsN, Zoz, ZnI, ZoB, Zpx, Zsm, Zol, ZpF, Zso, Zg9, ZgB, g1, hat, hr, hw, heq, hlo, hlen, o7, o8, oa, if_pos]
   exact ⟨_, rfl, rfl⟩
 · have e1 : ldE x = 1 := by unfold ldE; rw [if_neg hB]
   rw [show ldB x = false by simpa using hB] at heq
   rw [e1]
   simp (disch := omega) only [Z0o, Z8, Z0e, Bool.not_true, Bool.not_false, Zc, Za, Z2, Z1, Z3, Z0, Zd, Zi, Zo, Zm, stp, opBox, justO, just, Rd.bind, Rd.run, Rd.opt, upds, acells, zeroCells, tsz, rdCells, aLoad, aStore, opStore, fresh, Z5, aNum, aBin, aInt, putC, Nat.reduceAdd, Nat.reduceLT, Nat.reduceBEq, Nat.reduceEqDiff, Nat.reduceLeDiff, ↓reduceIte, Zf, decide_eq_true_eq, Nat.zero_add, Nat.add_zero, List.nil_append, ZE, ZH, ZO, ZP, Zz, ZL, Zt, Zn, Zv, stpT, Rd.foot, writing, Zq, Tr.empty, Zs, apartT, disj, List.isEmpty_nil, List.isEmpty_cons, List.map_nil, Bool.not_false, Bool.not_true, Bool.true_or, Bool.or_true, Bool.or_false, Bool.and_true, Bool.true_and, Bool.and_self, decide_true, partsOf, fillA, Z7, Zk, and_true, true_and, Int.natCast_nonneg, Int.toNat_natCast, aCall, snaps, List.append_nil, Option.map_some, List.elem_cons, List.elem_nil, List.length_cons, List.length_nil, List.getElem?_cons_zero, List.getElem?_cons_succ, List.drop_zero, List.take_succ_cons, List.take_nil, List.set_cons_zero, List.set_cons_succ, Zp, seqN, bindN, regN, Zr, ZU, ZQ, aBuild, List.all_cons, List.all_nil, Nat.le_refl, Int.reduceLE, Int.reduceToNat, Nat.mul_one, List.not_mem_nil, beq_self_eq_true, Bool.false_eq_true, T_3, T_22, T_62, ZZ, Z0E, List.all_cons, List.all_nil, List.getD_cons_zero, List.getD_cons_succ, beq_self_eq_true, Zg8, ZcM, Zc1, Zgl, Zg2, Zgx, Zqh, Zi7, Zh5, ZiO, ZhC, Zib, Zqe, ZeC, ZeH, ZeI, Zet, Zef, Zqy, Zee, Zbf, Zbj, ZeL, Zeo, Zel, Zfp, Ze7, Zpa, ZeM, ZdX, Zf3, ZeO, ZrH, ZoP, Zo1, ZeT, ZeU, Zfq, Zfv, ZdQ, ZeG, Zf0, Zp2, Zfe, ZdU, Ze1, ZdP, ZnT, Zo7, Zrc, Zq7, ZsN, Zoz, ZnI, ZoB, Zpx, Zsm, Zol, ZpF, Zso, Zg9, ZgB, g1, hat, hr, hw, heq, hlen, o7, o8, oa, if_pos]
   exact ⟨_, rfl, rfl⟩
end Go.AM.YtgfnbmfjbjopkaaDoor
end
noncomputable section
namespace Go.AM.YtgfnbmfjbjopkaaDoor
open Go Go.AM Go.AM.Mule
def tN (p : Pr) : Nat × Nat := (p.1.toNat, p.2.toNat)
def adj (n : Nat) (es : List Pr) : List Nat := (es.map tN).foldl addE (List.replicate n 0)
def prE (n : Nat) (seen : List Pr) (p : Pr) : Int := if min p.1 p.2 < 0 ∨ max p.1 p.2 ≥ n then 2 else if p ∈ seen then 6 else 0
theorem ZRW {n : Nat} {seen : List Pr} {p : Pr} (h : prE n seen p = 0) : ∃ a b : Nat, p = ((a : Int), (b : Int)) ∧ a < n ∧ b < n ∧ p ∉ seen := by
 unfold prE at h
 split at h
 · simp at h
 · rename_i h1
   split at h
   · simp at h
   · rename_i h2
     obtain ⟨x, y⟩ := p
     simp only at h1
     refine ⟨x.toNat, y.toNat, ?_, by omega, by omega, h2⟩
     have e1 : (x.toNat : Int) = x := by omega
     have e2 : (y.toNat : Int) = y := by omega
     rw [e1, e2]
theorem Z03j {n : Nat} : ∀ {es : List (Nat × Nat)} {B : List Nat}, (∀ p ∈ es, p.1 < B.length ∧ p.2 < n) → (∀ x ∈ B, x < 2 ^ n) → ∀ x ∈ es.foldl addE B, x < 2 ^ n
 | [], B, _, h, x, hx => h x hx
 | p :: es, B, he, h, x, hx => by
   refine Z03j (es := es) (B := addE B p) (fun q hq => ?_) (fun y hy => ?_) x hx
   · rw [Z8Q]; exact he q (by simp [hq])
   · obtain ⟨p1, p2⟩ := he p (by simp)
     rcases List.mem_or_eq_of_mem_set hy with h1 | h1
     · exact h y h1
     · subst h1
       refine Nat.or_lt_two_pow ?_ ?_
       · have : B.getD p.1 0 = B[p.1] := by simp [p1]
         rw [this]; exact h _ (List.getElem_mem p1)
       · rw [Nat.one_shiftLeft]; exact Nat.pow_lt_pow_right (by omega) p2
theorem ZFq : ∀ (es : List (Nat × Nat)) (B : List Nat), (es.foldl addE B).length = B.length
 | [], _ => rfl
 | p :: es, B => by rw [List.foldl_cons, ZFq es, Z8Q]
theorem Z9V (n : Nat) (es : List Pr) : (adj n es).length = n := by rw [adj, ZFq, List.length_replicate]
theorem ZpB {n : Nat} {es : List Pr} (h : ∀ p ∈ es.map tN, p.1 < n ∧ p.2 < n) : ∀ x ∈ adj n es, x < 2 ^ n := by
 refine Z03j (fun p hp => by rw [List.length_replicate]; exact h p hp) (fun x hx => ?_)
 rw [List.eq_of_mem_replicate hx]; exact Nat.two_pow_pos n
theorem Z0eK (n : Nat) (es : List Pr) (p : Pr) : adj n (es ++ [p]) = addE (adj n es) (tN p) := by simp [adj, List.foldl_append]
abbrev h2H (ls : List Ld) (a b : AV) (n : Nat) (B : List Nat) : AHeap :=
 [(1, ⟨.box, [a, b]⟩), (2, ⟨.box, [.nilsl, .nilsl]⟩), (5, ⟨.box, [.ref 61 0 n n (n * 5) 5 false, .ref 33 0 n n n 1 false]⟩), (33, ⟨.row, ucs B⟩), (61, ⟨.row, cls lc ls⟩)]
abbrev h2S (ls : List Ld) (es : List Pr) (e e2 : Bool) (n : Nat) (i : Nat) : St :=
 ([(67, .int .i64 i), (66, .int .i64 es.length), (65, .imm (cls bc es) es.length e2), (5, .ptr 5 0 2), (4, .int .i64 n), (2, .ptr 2 0 2), (1, .ptr 1 0 2)],
   h2H ls (.imm (cls lc ls) n e) (.imm (cls bc es) es.length e2) n (adj n (es.take i)))
theorem Z0sd {C : Callee} {ls : List Ld} {es : List Pr} {e e2 : Bool} {n : Nat} (hl : ls.length = n) (hn : n ≤ 6) (hm : es.length ≤ 15) (i : Nat) (hi : i < es.length)
   (hok : ∀ p ∈ (es.take i).map tN, p.1 < n ∧ p.2 < n) {p : Pr} (hx : es[i]? = some p) (h0 : prE n (es.take i) p = 0)
   (hc : ∀ (site : Nat → Nat) seen ex, aBack site true seen (thaw C 79 [.imm (cls bc (es.take i)) i ex, .agg (bc p)] [] 0) = .pure (.bool (decide (p ∈ es.take i)), [])) :
   ∃ s', (execA E C (fg 88) 0 156 [] 1000 Z3h) (h2S ls es e e2 n i) = some (.normal, s') ∧ headA [] s' = h2S ls es e e2 n (i + 1) := by
 obtain ⟨a, b, hp, ha, hb, hnin⟩ := ZRW h0
 have hat := Z1l Z14 hx
 have ht : es.take (i + 1) = es.take i ++ [p] := by rw [List.take_add_one, hx]; rfl
 have htk := Zg4 Z14 es i
 have hBl := Z9V n (es.take i)
 have hBb := ZpB hok
 have hg := Z51 hBl ha
 have hga : adj n (es.take (i + 1)) = (adj n (es.take i)).set a ((adj n (es.take i)).getD a 0 ||| 1 <<< b) := by
   rw [ht, Z0eK, hp]; rfl
 have hlen : (cls bc es).length = es.length * 2 := ZA Z14 es
 have hba : (adj n (es.take i)).getD a 0 < 64 := by
   have h1 : a < (adj n (es.take i)).length := by omega
   have := lt64 hn (hBb _ (List.getElem_mem h1))
   simpa [h1] using this
 simp only [h2S, h2H, hga]
 rw [show decide (p ∈ es.take i) = false by simpa using hnin] at hc
 generalize adj n (es.take i) = B at *
 subst hp
 simp only [bc] at hat hc
 have hs64 : 1 <<< b < 64 := by
   have : b = 0 ∨ b = 1 ∨ b = 2 ∨ b = 3 ∨ b = 4 ∨ b = 5 := by omega
   rcases this with e | e | e | e | e | e <;> rw [e] <;> decide
 have hshl := Zzn (i := b) (by omega)
 have hor := Z0hj (a := B.getD a 0) (b := 1 <<< b) (by omega) (by omega)
 have hset := Z04o B a (B.getD a 0 ||| 1 <<< b)
 have hat2 := ZaJ hg
 have hul : (ucs B).length = n := by rw [Z0g, hBl]
 have g1 : (i : Int) < es.length := by omega
 have m1 : ¬ (if (b : Int) < (a : Int) then (b : Int) else (a : Int)) < 0 := by split <;> omega
 have m2 : ¬ (if (b : Int) > (a : Int) then (b : Int) else (a : Int)) ≥ (n : Int) := by split <;> omega
 have m3 : ¬ (if a < b then (b : Int) else (a : Int)) ≥ (n : Int) := by split <;> omega
 have m4 : ¬ (if b < a then (b : Int) else (a : Int)) < 0 := by split <;> omega
 generalize B.getD a 0 = w at *
 generalize 1 <<< b = v at *
 simp (disch := omega) only [Z8, Zg, ↓gd, ZW, Bool.not_true, Bool.not_false, Zc, Za, Z2, Z1, Z3, Z0, Zl, Zd, Zi, Zo, Zm, stp, opPick, opBox, justO, just, Rd.bind, Rd.run, Rd.opt, upds, acells, zeroCells, tsz, rdCells, fieldOf, Ze, aLoad, aStore, opStore, fresh, Z5, aNum, Zh, aMin, aMax, aBin, aInt, putC, Nat.reduceAdd, Nat.reduceLT, Nat.reduceBEq, Nat.reduceEqDiff, Nat.reduceLeDiff, ↓reduceIte, Zf, Nat.zero_add, Nat.add_zero, List.nil_append, ZE, ZH, ZO, ZP, Zz, ZL, Zt, Zn, ZC, Zv, stpT, Rd.foot, writing, Zq, Tr.empty, Zs, apartT, disj, List.isEmpty_nil, List.isEmpty_cons, List.map_nil, List.map_cons, Bool.not_false, Bool.not_true, Bool.true_or, Bool.or_true, Bool.or_false, Bool.and_true, Bool.true_and, Bool.and_self, decide_true, decide_false, partsOf, fillA, window, Z7, Zk, and_true, true_and, Int.natCast_nonneg, Int.ofNat_lt, Int.toNat_natCast, aCall, snaps, List.append_nil, Option.map_some, List.elem_cons, List.elem_nil, List.length_cons, List.length_nil, List.getElem?_cons_zero, List.getElem?_cons_succ, List.drop_zero, List.take_succ_cons, List.take_nil, List.set_cons_zero, List.set_cons_succ, Zp, seqN, bindN, regN, Zr, ZU, Z0n, ZQ, aBuild, aSlice, aBounds, bMax, bHigh, bLow, List.all_cons, List.all_nil, Nat.le_refl, Int.reduceLE, Int.reduceToNat, Nat.sub_zero, Nat.mul_one, Nat.zero_mul, List.not_mem_nil, beq_self_eq_true, Bool.false_eq_true, T_3, T_23, T_25, T_64, Z46, ZZ, Z18, List.all_cons, List.all_nil, List.getD_cons_zero, List.getD_cons_succ, beq_self_eq_true, Zc8, Z70, Z6C, Zd2, Zcp, ZcN, ZpR, ZdT, Zfb, Zev, Zff, Zek, ZdR, Zey, Zno, Zer, ZeF, Zeb, ZdN, ZdW, Zf6, Zfg, Zfw, ZeQ, Ze2, Zec, Zb1, Zbr, Zb0, ZaZ, Zbg, Zb7, ZpP, Zed, Zfr, Ze6, ZeD, Znq, Zpm, Zsc, Zei, Zb9, Zya, Zen, ZdK, Zfn, ZeW, ZdV, Zea, ZA2, Z0cO, ZOU, ZJX, ZUs, ZQP, Z084, Z092, Z080, Z09v, ZqZ, ZnC, ZsG, Zpz, Z0qK, Z0gC, Z0aY, Z0be, Z0fk, Z0f7, Z0dv, Z0fU, Z0gu, Z0f5, Z0dl, Z0dc, Z0gc, Z0eT, Z0bf, Z09S, ZqF, Zr6, ZoL, Z0qI, Z0g8, Z0g5, Z0dK, Zru, ZcP, ZcO, g1, hat, hlen, htk, hc, m3, m4, hshl, hor, hset, hat2, hul, if_pos, ZD (show i < 1000000 by omega)]
 exact ⟨_, rfl, rfl⟩
theorem Z0qw {C : Callee} {ls : List Ld} {es : List Pr} {e e2 : Bool} {n : Nat} (_ : ls.length = n) (_ : n ≤ 6) (_ : es.length ≤ 15) (i : Nat) (hi : i < es.length) {p : Pr} (hx : es[i]? = some p) (h0 : prE n (es.take i) p ≠ 0)
   (hc : ∀ (site : Nat → Nat) seen ex, aBack site true seen (thaw C 79 [.imm (cls bc (es.take i)) i ex, .agg (bc p)] [] 0) = .pure (.bool (decide (p ∈ es.take i)), [])) :
   ∃ H', (execA E C (fg 88) 0 156 [] 1000 Z3h) (h2S ls es e e2 n i) = some (.ret, ([(3, .int .i64 (prE n (es.take i) p)), (2, .ptr 2 0 2)], H')) ∧ hget H' 2 = some ⟨.box, [.nilsl, .nilsl]⟩ := by
 have hat := Z1l Z14 hx
 have htk := Zg4 Z14 es i
 have hlen : (cls bc es).length = es.length * 2 := ZA Z14 es
 have hBl := Z9V n (es.take i)
 simp only [h2S, h2H]
 generalize adj n (es.take i) = B at *
 obtain ⟨x, y⟩ := p
 simp only [bc] at hat hc
 have g1 : (i : Int) < es.length := by omega
 have hul : (ucs B).length = n := by rw [Z0g, hBl]
 by_cases h1 : min x y < 0
 · have e2 : prE n (es.take i) (x, y) = 2 := by unfold prE; rw [if_pos (by simp only; omega)]
   have m1 : (if y < x then y else x) < 0 := by split <;> omega
   rw [e2]
   simp (disch := omega) only [Z0o, Z8, Z0e, ↓gd, ZW, Bool.not_false, Zc, Za, Z2, Z1, Z3, Z0, Zl, Zd, Zi, Zo, Zm, stp, opPick, opBox, justO, just, Rd.bind, Rd.run, Rd.opt, upds, acells, zeroCells, tsz, rdCells, fieldOf, Ze, aLoad, aStore, opStore, fresh, Z5, aNum, Zh, aMin, aBin, aInt, putC, Nat.reduceAdd, Nat.reduceLT, Nat.reduceBEq, Nat.reduceEqDiff, Nat.reduceLeDiff, ↓reduceIte, reduceCtorEq, Zf, Nat.zero_add, Nat.add_zero, List.nil_append, ZE, Zz, ZL, Zt, Zn, ZC, Zv, stpT, Rd.foot, List.map_nil, Bool.not_false, Bool.and_self, decide_true, partsOf, fillA, window, Z7, Zk, and_true, true_and, Int.natCast_nonneg, Int.toNat_natCast, aCall, snaps, List.append_nil, Option.map_some, List.elem_cons, List.elem_nil, List.length_cons, List.length_nil, List.getElem?_cons_zero, List.getElem?_cons_succ, List.drop_zero, List.take_succ_cons, List.take_nil, List.set_cons_zero, List.set_cons_succ, Zp, seqN, bindN, regN, Zr, ZU, Z0n, ZQ, aBuild, aSlice, aBounds, bMax, bHigh, bLow, Nat.le_refl, Int.reduceLE, Int.reduceToNat, Nat.sub_zero, Nat.mul_one, Nat.zero_mul, List.not_mem_nil, beq_self_eq_true, Bool.false_eq_true, T_3, T_23, T_25, T_64, ZZ, beq_self_eq_true, Zc8, Z70, Z6C, Zd2, Zcp, ZcN, ZpR, ZdT, Zfb, Zev, Zff, Zek, ZdR, Zey, Zno, Zer, ZeF, Zeb, ZdN, ZdW, Zf6, Zfg, Zfw, ZeQ, Ze2, Zec, Zb1, Zbr, Zb0, ZaZ, Zbg, Zb7, ZpP, Zed, Zfr, Ze6, ZeD, Znq, Zpm, Zsc, Zei, Zb9, Zen, ZdK, Zfn, ZeW, ZdV, Zea, ZqZ, ZnC, ZsG, Zpz, ZqF, Zr6, ZoL, Zru, ZcP, ZcO, g1, hat, hlen, m1, if_pos]
   exact ⟨_, rfl, rfl⟩
 · have m1 : ¬ (if y < x then y else x) < 0 := by split <;> omega
   by_cases h2 : max x y ≥ n
   · have e2 : prE n (es.take i) (x, y) = 2 := by unfold prE; rw [if_pos (by simp only; omega)]
     have m2 : (if y > x then y else x) ≥ (n : Int) := by split <;> omega
     rw [e2]
     simp (disch := omega) only [Z0o, Z8, Z0e, ↓gd, ZW, Zc, Za, Z2, Z1, Z3, Z0, Zl, Zd, Zi, Zo, Zm, stp, opPick, opBox, justO, just, Rd.bind, Rd.run, Rd.opt, upds, acells, zeroCells, tsz, rdCells, fieldOf, Ze, aLoad, aStore, opStore, fresh, Z5, aNum, Zh, aMin, aMax, aBin, aInt, putC, Nat.reduceAdd, Nat.reduceLT, Nat.reduceBEq, Nat.reduceEqDiff, Nat.reduceLeDiff, ↓reduceIte, Zf, Nat.zero_add, Nat.add_zero, List.nil_append, ZE, Zz, ZL, Zt, Zn, ZC, Zv, stpT, Rd.foot, List.map_nil, Bool.and_self, decide_true, decide_false, partsOf, fillA, window, Z7, Zk, and_true, true_and, Int.natCast_nonneg, Int.toNat_natCast, aCall, snaps, List.append_nil, Option.map_some, List.elem_cons, List.elem_nil, List.length_cons, List.length_nil, List.getElem?_cons_zero, List.getElem?_cons_succ, List.drop_zero, List.take_succ_cons, List.take_nil, List.set_cons_zero, List.set_cons_succ, Zp, seqN, bindN, regN, Zr, ZU, Z0n, ZQ, aBuild, aSlice, aBounds, bMax, bHigh, bLow, Nat.le_refl, Int.reduceLE, Int.reduceToNat, Nat.sub_zero, Nat.mul_one, Nat.zero_mul, List.not_mem_nil, beq_self_eq_true, Bool.false_eq_true, T_3, T_23, T_25, T_64, ZZ, beq_self_eq_true, Zc8, Z70, Z6C, Zd2, Zcp, ZcN, ZpR, ZdT, Zfb, Zev, Zff, Zek, ZdR, Zey, Zno, Zer, ZeF, Zeb, ZdN, ZdW, Zf6, Zfg, Zfw, ZeQ, Ze2, Zec, Zb1, Zbr, Zb0, ZaZ, Zbg, Zb7, ZpP, Zed, Zfr, Ze6, ZeD, Znq, Zpm, Zsc, Zei, Zb9, Zen, ZdK, Zfn, ZeW, ZdV, Zea, ZqZ, ZnC, ZsG, Zpz, ZqF, Zr6, ZoL, Zru, ZcP, ZcO, g1, hat, hlen, m1, m2, if_pos]
     exact ⟨_, rfl, rfl⟩
   · have m2 : ¬ (if y > x then y else x) ≥ (n : Int) := by split <;> omega
     have hin : (x, y) ∈ es.take i := by
       unfold prE at h0
       rw [if_neg (by simp only; omega)] at h0
       split at h0
       · assumption
       · simp at h0
     have e6 : prE n (es.take i) (x, y) = 6 := by unfold prE; rw [if_neg (by simp only; omega), if_pos hin]
     rw [e6]
     rw [show decide ((x, y) ∈ es.take i) = true by simpa using hin] at hc
     simp (disch := omega) only [Z0o, Z8, Z0e, ↓gd, ZW, Bool.not_true, Bool.not_false, Zc, Za, Z2, Z1, Z3, Z0, Zl, Zd, Zi, Zo, Zm, stp, opPick, opBox, justO, just, Rd.bind, Rd.run, Rd.opt, upds, acells, zeroCells, tsz, rdCells, fieldOf, Ze, aLoad, aStore, opStore, fresh, Z5, aNum, Zh, aMin, aMax, aBin, aInt, putC, Nat.reduceAdd, Nat.reduceLT, Nat.reduceBEq, Nat.reduceEqDiff, Nat.reduceLeDiff, ↓reduceIte, Zf, Nat.zero_add, Nat.add_zero, List.nil_append, ZE, ZH, ZO, ZP, Zz, ZL, Zt, Zn, ZC, Zv, stpT, Rd.foot, writing, Zq, Tr.empty, Zs, apartT, disj, List.isEmpty_nil, List.isEmpty_cons, List.map_nil, Bool.not_false, Bool.not_true, Bool.true_or, Bool.or_true, Bool.or_false, Bool.and_true, Bool.true_and, Bool.and_self, decide_true, decide_false, partsOf, fillA, window, Z7, Zk, and_true, true_and, Int.natCast_nonneg, Int.toNat_natCast, aCall, snaps, List.append_nil, Option.map_some, List.elem_cons, List.elem_nil, List.length_cons, List.length_nil, List.getElem?_cons_zero, List.getElem?_cons_succ, List.drop_zero, List.take_succ_cons, List.take_nil, List.set_cons_zero, List.set_cons_succ, Zp, seqN, bindN, regN, Zr, ZU, Z0n, ZQ, aBuild, aSlice, aBounds, bMax, bHigh, bLow, List.all_cons, List.all_nil, Nat.le_refl, Int.reduceLE, Int.reduceToNat, Nat.sub_zero, Nat.mul_one, Nat.zero_mul, List.not_mem_nil, beq_self_eq_true, Bool.false_eq_true, T_3, T_23, T_25, T_64, ZZ, List.all_cons, List.all_nil, List.getD_cons_zero, List.getD_cons_succ, beq_self_eq_true, Zc8, Z70, Z6C, Zd2, Zcp, ZcN, ZpR, ZdT, Zfb, Zev, Zff, Zek, ZdR, Zey, Zno, Zer, ZeF, Zeb, ZdN, ZdW, Zf6, Zfg, Zfw, ZeQ, Ze2, Zec, Zb1, Zbr, Zb0, ZaZ, Zbg, Zb7, ZpP, Zed, Zfr, Ze6, ZeD, Znq, Zpm, Zsc, Zei, Zb9, Zya, Zen, ZdK, Zfn, ZeW, ZdV, Zea, ZA2, Z0cO, ZOU, ZJX, ZUs, ZQP, Z084, Z092, Z080, Z09v, ZqZ, ZnC, ZsG, Zpz, ZqF, Zr6, ZoL, Zru, ZcP, ZcO, g1, hat, hlen, htk, hc, m1, m2, if_pos]
     exact ⟨_, rfl, rfl⟩
end Go.AM.YtgfnbmfjbjopkaaDoor
end
noncomputable section
namespace Go.AM.YtgfnbmfjbjopkaaDoor
open Go Go.AM Go.AM.Mule
theorem Z5A {n : Nat} {B : List Nat} (h : ∀ x ∈ B, x < 2 ^ n) (i : Nat) : B.getD i 0 < 2 ^ n := by
 by_cases hi : i < B.length
 · have : B.getD i 0 = B[i] := by simp [hi]
   rw [this]; exact h _ (List.getElem_mem hi)
 · have : B.getD i 0 = 0 := by simp [hi]
   rw [this]; exact Nat.two_pow_pos n
theorem Z0oX {n k : Nat} {B : List Nat} (h : ∀ x ∈ B, x < 2 ^ n) (i : Nat) : ∀ x ∈ fwI k B i, x < 2 ^ n := by
 unfold fwI
 split
 · intro x hx
   rcases List.mem_or_eq_of_mem_set hx with h1 | h1
   · exact h x h1
   · subst h1; exact Nat.or_lt_two_pow (Z5A h i) (Z5A h k)
 · exact h
theorem ZvF {n k : Nat} {B : List Nat} (h : ∀ x ∈ B, x < 2 ^ n) : ∀ m, ∀ x ∈ (List.range m).foldl (fwI k) B, x < 2 ^ n
 | 0 => by simpa using h
 | m + 1 => by rw [List.range_succ, List.foldl_append]; exact Z0oX (ZvF h m) m
theorem Zk0 {k : Nat} (B : List Nat) : ∀ m, ((List.range m).foldl (fwI k) B).length = B.length
 | 0 => rfl
 | m + 1 => by rw [List.range_succ, List.foldl_append, List.foldl_cons, List.foldl_nil, ZsH, Zk0 B m]
theorem Zgz {n : Nat} {B : List Nat} (h : ∀ x ∈ B, x < 2 ^ n) (m0 : Nat) : ∀ m, ∀ x ∈ (List.range m).foldl (fwK m0) B, x < 2 ^ n
 | 0 => by simpa using h
 | m + 1 => by rw [List.range_succ, List.foldl_append]; exact ZvF (Zgz h m0 m) m0
theorem Z9X (m0 : Nat) (B : List Nat) : ∀ m, ((List.range m).foldl (fwK m0) B).length = B.length
 | 0 => rfl
 | m + 1 => by rw [List.range_succ, List.foldl_append, List.foldl_cons, List.foldl_nil, fwK, Zk0, Z9X m0 B m]
abbrev h3H (ls : List Ld) (n : Nat) (B : List Nat) : AHeap :=
 [(2, ⟨.box, [.nilsl, .nilsl]⟩), (5, ⟨.box, [.ref 61 0 n n (n * 5) 5 false, .ref 33 0 n n n 1 false]⟩), (33, ⟨.row, ucs B⟩), (61, ⟨.row, cls lc ls⟩)]
abbrev h3S (ls : List Ld) (n k : Nat) (B : List Nat) (i : Nat) : St :=
 ([(114, .int .i64 i), (113, .int .i64 n), (110, .int .i64 k), (109, .int .i64 n), (11, .int .i64 k), (5, .ptr 5 0 2), (4, .int .i64 n), (2, .ptr 2 0 2)], h3H ls n B)
theorem Z0rt {C : Callee} {ls : List Ld} {n k : Nat} {B : List Nat} (hB : B.length = n) (hb : ∀ x ∈ B, x < 2 ^ n) (hn : n ≤ 6) (hk : k < n) (i : Nat) (hi : i < n) :
   ∃ s', (execA E C (fg 88) 0 156 [] 1000 Z9K) (h3S ls n k B i) = some (.normal, s') ∧ headA [] s' = h3S ls n k (fwI k B i) (i + 1) := by
 have gi := ZaJ (Z51 hB hi)
 have gk := ZaJ (Z51 hB hk)
 have bi := lt64 hn (Z5A hb i)
 have bk' := lt64 hn (Z5A hb k)
 have hul : (ucs B).length = n := by rw [Z0g, hB]
 have g1 : (i : Int) < n := by omega
 have g2 : (k : Int) < n := by omega
 have hsh := Z06x (b := B.getD i 0) (i := k) (by omega)
 have hlt := ZTX (b := B.getD i 0) (i := k) (by omega)
 have ha := ZuM hlt
 have he := Zsq (B.getD i 0) k
 have hor := Z0hj (a := B.getD i 0) (b := B.getD k 0) (by omega) (by omega)
 have hset := Z04o B i (B.getD i 0 ||| B.getD k 0)
 simp only [h3S, h3H]
 by_cases hbit : bit B i k = true
 · have e : fwI k B i = B.set i (B.getD i 0 ||| B.getD k 0) := by unfold fwI; rw [if_pos hbit]
   have hb2 : (B.getD i 0).testBit k = true := hbit
   rw [e]
   generalize B.getD i 0 = x at *
   generalize B.getD k 0 = y at *
   simp (disch := omega) only [Z8, Zg, Bool.not_true, Bool.not_false, Zc, Za, Z2, Z1, Z3, Z0, Zd, Zi, Zo, Zm, stp, just, Rd.bind, Rd.run, Rd.opt, upds, acells, tsz, rdCells, fieldOf, Ze, aLoad, aStore, opStore, Z5, aNum, aBin, aInt, putC, Nat.reduceAdd, Nat.reduceLT, Nat.reduceBEq, Nat.reduceEqDiff, Nat.reduceLeDiff, ↓reduceIte, Zf, Nat.zero_add, beq_iff_eq, List.nil_append, ZE, ZH, ZO, ZP, Zz, ZL, Zt, Zn, ZC, Zv, stpT, Rd.foot, writing, Zq, Tr.empty, Zs, apartT, disj, List.isEmpty_nil, List.isEmpty_cons, List.map_nil, List.map_cons, Bool.not_false, Bool.not_true, Bool.true_or, Bool.or_true, Bool.or_false, Bool.and_true, Bool.true_and, Bool.and_self, decide_true, Z7, Zk, and_true, true_and, Int.natCast_nonneg, Int.toNat_natCast, snaps, List.append_nil, List.elem_cons, List.elem_nil, List.length_cons, List.length_nil, List.getElem?_cons_zero, List.getElem?_cons_succ, Zp, seqN, bindN, regN, Zr, List.all_cons, List.all_nil, Nat.le_refl, Nat.mul_one, List.not_mem_nil, beq_self_eq_true, Bool.false_eq_true, Z46, ZZ, Z18, List.all_cons, List.all_nil, List.getD_cons_zero, List.getD_cons_succ, beq_self_eq_true, Zu1, ZjU, ZjO, ZuO, Zv2, Zus, ZYl, ZMB, ZMH, ZTz, Z01z, ZQH, ZI8, ZG6, ZRS, ZTg, ZD5, ZKS, ZTA, ZFM, ZIh, ZY3, ZJV, Zxu, Z09X, ZSI, ZEJ, ZLq, ZGL, ZID, ZO9, ZNt, ZIP, ZG7, ZUA, Zxh, Zy1, Zxl, Z046, Z02g, ZZR, Z02V, Z040, ZWr, ZKR, ZSd, ZGh, ZYF, Zux, ZtX, g1, g2, gi, gk, hul, hsh, ha, he, hor, hset, hb2, if_pos, ZD (show i < 1000000 by omega)]
   exact ⟨_, rfl, rfl⟩
 · have e : fwI k B i = B := by unfold fwI; rw [if_neg hbit]
   have hb2 : (B.getD i 0).testBit k = false := by simpa [bit] using hbit
   rw [e]
   generalize B.getD i 0 = x at *
   generalize B.getD k 0 = y at *
   simp (disch := omega) only [Z8, Zg, Zc, Za, Z2, Z1, Z3, Z0, Zd, Zo, Zm, stp, just, Rd.bind, Rd.run, Rd.opt, upds, acells, tsz, rdCells, fieldOf, Ze, aLoad, aStore, opStore, Z5, aNum, aBin, aInt, Nat.reduceAdd, Nat.reduceLT, Nat.reduceBEq, Nat.reduceEqDiff, Nat.reduceLeDiff, ↓reduceIte, Zf, Nat.zero_add, beq_iff_eq, ZE, Zz, ZL, Zt, Zn, ZC, Zv, stpT, Rd.foot, List.map_nil, Bool.and_self, decide_true, Z7, Zk, and_true, Int.natCast_nonneg, Int.toNat_natCast, List.elem_cons, List.elem_nil, List.length_cons, List.length_nil, List.getElem?_cons_zero, List.getElem?_cons_succ, seqN, bindN, regN, Nat.le_refl, Nat.mul_one, beq_self_eq_true, Bool.false_eq_true, Z46, ZZ, Z18, beq_self_eq_true, Zu1, ZjU, ZjO, ZuO, Zv2, Zus, ZYl, ZMB, ZMH, ZTz, Z01z, ZQH, ZI8, ZG6, ZRS, ZTg, ZD5, ZKS, ZTA, ZFM, ZIh, ZY3, ZJV, Zxu, ZSI, ZEJ, ZLq, ZGL, ZID, ZO9, ZNt, ZIP, ZG7, ZUA, Zxh, Zy1, Zxl, Z046, Z02g, ZZR, Z02V, Z040, ZWr, ZKR, ZSd, ZGh, ZYF, Zux, ZtX, g1, g2, gi, gk, hul, hsh, ha, he, hb2, ZD (show i < 1000000 by omega)]
   exact ⟨_, rfl, rfl⟩
abbrev h4S (ls : List Ld) (n : Nat) (B : List Nat) (k : Nat) : St :=
 ([(110, .int .i64 k), (109, .int .i64 n), (5, .ptr 5 0 2), (4, .int .i64 n), (2, .ptr 2 0 2)], h3H ls n B)
theorem Z0r4 {C : Callee} {ls : List Ld} {n k : Nat} {B : List Nat} (hB : B.length = n) (hb : ∀ x ∈ B, x < 2 ^ n) (hn : n ≤ 6) (hk : k < n) :
   ∃ s', (execA E C (fg 88) 0 156 [] 1000 Zdn) (h4S ls n B k) = some (.normal, s') ∧ headA [] s' = h4S ls n (fwK n B k) (k + 1) := by
 have hloop := loopN (f := (execA E C (fg 88) 0 156 [] 1000 Z9K)) (fun i => h3S ls n k ((List.range i).foldl (fwI k) B) i) n (fun i hi => by
     have := Z0rt (C := C) (ls := ls) (k := k) (B := (List.range i).foldl (fwI k) B) (by rw [Zk0, hB]) (ZvF hb i) hn hk i hi
     rw [List.range_succ, List.foldl_append]; exact this) rfl (by omega)
   (e := .exit 9) (se := ([(115, .bool false), (114, .int .i64 n), (113, .int .i64 n), (110, .int .i64 k), (109, .int .i64 n), (11, .int .i64 k), (5, .ptr 5 0 2), (4, .int .i64 n), (2, .ptr 2 0 2)], h3H ls n (fwK n B k)))
   (by
     rw [show (List.range n).foldl (fwI k) B = fwK n B k from rfl]
     simp (disch := omega) only [ZR, Z8, Zc, Za, Z2, Z1, Z3, Z0, Zo, stp, just, Rd.bind, Rd.run, Rd.opt, upds, aBin, aInt, Nat.reduceEqDiff, Nat.reduceLeDiff, ↓reduceIte, decide_false, Z7, List.elem_nil, seqN, bindN, regN, Int.lt_irrefl, Bool.false_eq_true, Zu1, ZjU, ZjO, ZuO, Zv2, Zus, Zux, ZtX, h3S]) (by simp)
 simp only [h3S, h3H, List.range_zero, List.foldl_nil, cl0] at hloop
 have g1 : (k : Int) < n := by omega
 simp only [h4S, h3H]
 generalize fwK n B k = B2 at *
 simp (disch := omega) only [Z8, ZJ, Zg, Zc, Za, Z2, Z1, Z3, Z0, Zo, Zm, stp, just, Rd.bind, Rd.run, Rd.opt, upds, aBin, aInt, Nat.reduceBEq, Nat.reduceEqDiff, Nat.reduceLeDiff, ↓reduceIte, decide_true, Z7, List.elem_cons, List.elem_nil, seqN, bindN, regN, beq_self_eq_true, Bool.false_eq_true, beq_self_eq_true, Z0bz, ZFz, ZQR, Z08a, Z0bw, Z09K, Z0js, Z0e9, Z0ey, Z0hb, Z0jB, Z0d7, Z0fd, Z0dI, Z0ky, Z0kD, Z0nc, Z0nR, Z0pc, Z0ju, Z0gX, Z0du, Z0gY, Z0o0, Z09s, Z0av, g1, hloop, ZD (show k < 1000000 by omega)]
 exact ⟨_, rfl, rfl⟩
abbrev h5S (ls : List Ld) (n : Nat) (B : List Nat) (i : Nat) : St :=
 ([(143, .int .i64 i), (142, .int .i64 n), (141, .ref 33 0 n n n 1 false), (5, .ptr 5 0 2), (2, .ptr 2 0 2)], h3H ls n B)
theorem Z0sy {C : Callee} {ls : List Ld} {n : Nat} {B : List Nat} (hB : B.length = n) (hb : ∀ x ∈ B, x < 2 ^ n) (hn : n ≤ 6) (i : Nat) (hi : i < n) (h0 : bit B i i = false) :
   ∃ s', (execA E C (fg 88) 0 156 [] 1000 Z3e) (h5S ls n B i) = some (.normal, s') ∧ headA [] s' = h5S ls n B (i + 1) := by
 have gi := ZaJ (Z51 hB hi)
 have bi := lt64 hn (Z5A hb i)
 have hul : (ucs B).length = n := by rw [Z0g, hB]
 have g1 : (i : Int) < n := by omega
 have hsh := Z06x (b := B.getD i 0) (i := i) (by omega)
 have hlt := ZTX (b := B.getD i 0) (i := i) (by omega)
 have ha := ZuM hlt
 have he := Zsq (B.getD i 0) i
 have hb2 : (B.getD i 0).testBit i = false := h0
 simp only [h5S, h3H]
 generalize B.getD i 0 = x at *
 simp (disch := omega) only [Z8, Zg, Zc, Za, Z2, Z1, Z3, Z0, Zd, Zi, Zo, Zm, stp, justO, just, Rd.bind, Rd.run, Rd.opt, upds, acells, tsz, rdCells, aLoad, aStore, opStore, Z5, aNum, aBin, aInt, putC, Nat.reduceAdd, Nat.reduceLT, Nat.reduceBEq, Nat.reduceEqDiff, Nat.reduceLeDiff, ↓reduceIte, Zf, Nat.zero_add, beq_iff_eq, List.nil_append, decide_true, partsOf, fillA, Z7, Zk, and_true, Int.natCast_nonneg, Int.toNat_natCast, snaps, List.append_nil, Option.map_some, List.elem_cons, List.elem_nil, List.length_cons, List.length_nil, List.set_cons_zero, List.set_cons_succ, Zp, seqN, bindN, regN, ZU, aBuild, Nat.le_refl, Nat.mul_one, List.not_mem_nil, beq_self_eq_true, Bool.false_eq_true, Z46, ZZ, Z18, beq_self_eq_true, ZtT, ZmW, Znf, Zuf, Zv0, Zvb, Z00O, ZEW, ZHk, ZU4, ZPm, ZHU, ZFk, Z01Y, ZGc, ZSF, ZLh, ZOW, ZGG, ZK2, ZWI, ZK8, ZIG, ZLm, ZR2, ZYe, ZZo, ZVX, Z02B, Z05S, ZYf, Z05g, Z0ln, Z0en, Z0dH, Z0gD, ZY0, Zth, Zwr, g1, gi, hul, hsh, ha, he, hb2, ZD (show i < 1000000 by omega)]
 exact ⟨_, rfl, rfl⟩
theorem Z0qb {C : Callee} {ls : List Ld} {n : Nat} {B : List Nat} (hB : B.length = n) (hb : ∀ x ∈ B, x < 2 ^ n) (hn : n ≤ 6) (i : Nat) (hi : i < n) (h0 : bit B i i = true) :
   ∃ H', (execA E C (fg 88) 0 156 [] 1000 Z3e) (h5S ls n B i) = some (.ret, ([(3, .int .i64 13), (2, .ptr 2 0 2)], H')) ∧ hget H' 2 = some ⟨.box, [.nilsl, .nilsl]⟩ := by
 have gi := ZaJ (Z51 hB hi)
 have bi := lt64 hn (Z5A hb i)
 have hul : (ucs B).length = n := by rw [Z0g, hB]
 have g1 : (i : Int) < n := by omega
 have hsh := Z06x (b := B.getD i 0) (i := i) (by omega)
 have hlt := ZTX (b := B.getD i 0) (i := i) (by omega)
 have ha := ZuM hlt
 have he := Zsq (B.getD i 0) i
 have hb2 : (B.getD i 0).testBit i = true := h0
 simp only [h5S, h3H]
 generalize B.getD i 0 = x at *
 simp (disch := omega) only [Z0o, Z8, Z0e, Zc, Za, Z2, Z1, Z3, Z0, Zd, Zi, Zo, Zm, stp, justO, just, Rd.bind, Rd.run, Rd.opt, upds, acells, tsz, rdCells, aLoad, aStore, opStore, Z5, aNum, aBin, aInt, putC, Nat.reduceAdd, Nat.reduceLT, Nat.reduceBEq, Nat.reduceEqDiff, Nat.reduceLeDiff, ↓reduceIte, Zf, Nat.zero_add, beq_iff_eq, List.nil_append, decide_true, partsOf, fillA, Z7, Zk, and_true, Int.natCast_nonneg, Int.toNat_natCast, snaps, List.append_nil, Option.map_some, List.elem_cons, List.elem_nil, List.length_cons, List.length_nil, List.set_cons_zero, List.set_cons_succ, Zp, seqN, bindN, regN, ZU, aBuild, Nat.le_refl, Nat.mul_one, List.not_mem_nil, beq_self_eq_true, Bool.false_eq_true, Z46, ZZ, Z18, beq_self_eq_true, ZtT, ZmW, Znf, Zuf, Zv0, Zvb, Z00O, ZEW, ZHk, ZU4, ZPm, ZHU, ZFk, Z01Y, ZGc, ZSF, ZLh, ZOW, ZGG, ZK2, ZWI, ZK8, ZIG, ZLm, ZR2, ZYe, ZZo, ZVX, Z02B, Z05S, ZYf, Z05g, ZY0, Zth, Zwr, g1, gi, hul, hsh, ha, he, hb2]
 exact ⟨_, rfl, rfl⟩
end Go.AM.YtgfnbmfjbjopkaaDoor
end
noncomputable section
namespace Go.AM.YtgfnbmfjbjopkaaDoor
open Go Go.AM Go.AM.Mule
theorem Z08 {α : Type} [Inhabited α] {l : List α} {i : Nat} (h : i < l.length) : l[i]? = some (l.getD i default) := by
 rw [List.getElem?_eq_getElem h]; simp [h]
def fst1 (m : Nat) (p : Nat → Bool) : Nat := (List.range m).findIdx p
theorem ZiC (m : Nat) (p : Nat → Bool) : fst1 m p ≤ m := by
 have := List.findIdx_le_length (xs := List.range m) (p := p)
 rwa [List.length_range] at this
theorem ZiY {m : Nat} {p : Nat → Bool} {i : Nat} (h : i < fst1 m p) : p i = false := by
 have := List.not_of_lt_findIdx h
 simpa using this
theorem Zhx {m : Nat} {p : Nat → Bool} (h : fst1 m p < m) : p (fst1 m p) = true := by
 have := List.findIdx_getElem (xs := List.range m) (p := p) (w := by rw [List.length_range]; exact h)
 rw [List.getElem_range] at this
 exact this
def firstE (m : Nat) (e : Nat → Int) : Int := if fst1 m (fun i => e i != 0) < m then e (fst1 m fun i => e i != 0) else 0
theorem Z2b {m : Nat} {e : Nat → Int} : firstE m e = 0 ↔ ∀ i, i < m → e i = 0 := by
 unfold firstE
 split
 · rename_i h
   have := Zhx h
   constructor
   · intro h2; rw [h2] at this; simp at this
   · intro h2; exact h2 _ h
 · rename_i h
   have := ZiC m (fun i => e i != 0)
   refine ⟨fun _ i hi => ?_, fun _ => rfl⟩
   have := ZiY (m := m) (p := fun i => e i != 0) (i := i) (by omega)
   simpa using this
def ldsE (ls : List Ld) : Int := firstE ls.length fun i => ldE (ls.getD i default)
def prsE (n : Nat) (es : List Pr) : Int := firstE es.length fun i => prE n (es.take i) (es.getD i default)
def sets (n : Nat) (es : List Pr) : List Nat := fw n (adj n es)
def clashB (n : Nat) (B : List Nat) : Bool := (List.range n).any fun i => bit B i i
def chk (ls : List Ld) (es : List Pr) : Int :=
 if ls.length = 0 then 4 else if 6 < ls.length ∨ 15 < es.length then 3 else if ldsE ls ≠ 0 then ldsE ls else if prsE ls.length es ≠ 0 then prsE ls.length es else if clashB ls.length (sets ls.length es) = true then 13 else 0
theorem Z0eM (n : Nat) (p : Nat → Bool) : (List.range n).any p = decide (fst1 n p < n) := by
 have h := List.findIdx_lt_length (xs := List.range n) (p := p)
 rw [List.length_range] at h
 rw [Bool.eq_iff_iff, decide_eq_true_eq, fst1, h, List.any_eq_true]
theorem Zgw {n : Nat} {es : List Pr} (h : prsE n es = 0) : ∀ p ∈ es.map tN, p.1 < n ∧ p.2 < n := by
 intro q hq
 obtain ⟨p, hp, rfl⟩ := List.mem_map.1 hq
 obtain ⟨i, hi, e⟩ := List.mem_iff_getElem.1 hp
 have := Z2b.1 h i hi
 have hg : es.getD i default = p := by rw [← e]; simp [hi]
 rw [hg] at this
 obtain ⟨a, b, rfl, h1, h2, _⟩ := ZRW this
 exact ⟨by simpa [tN] using h1, by simpa [tN] using h2⟩
theorem Z0ga {n : Nat} {es : List Pr} {k : Nat} (hk : k ≤ es.length) (h : ∀ i, i < k → prE n (es.take i) (es.getD i default) = 0) : ∀ p ∈ (es.take k).map tN, p.1 < n ∧ p.2 < n := by
 refine Zgw (es := es.take k) (Z2b.2 fun i hi => ?_)
 rw [List.length_take] at hi
 have := h i (by omega)
 rw [List.take_take, Nat.min_eq_left (by omega)]
 have e : (es.take k).getD i default = es.getD i default := by
   simp only [List.getD_eq_getElem?_getD, List.getElem?_take, if_pos (show i < k by omega)]
 rwa [e]
theorem ZbF {ls : List Ld} {es : List Pr} (h : chk ls es = 0) : 0 < ls.length ∧ ls.length ≤ 6 ∧ es.length ≤ 15 ∧ ldsE ls = 0 ∧ prsE ls.length es = 0 ∧ clashB ls.length (sets ls.length es) = false := by
 unfold chk at h
 split at h
 · simp at h
 · rename_i h1
   split at h
   · simp at h
   · rename_i h2
     split at h
     · rename_i h3; exact absurd h h3
     · rename_i h3
       split at h
       · rename_i h4; exact absurd h h4
       · rename_i h4
         split at h
         · simp at h
         · rename_i h5
           exact ⟨by omega, by omega, by omega, by simpa using h3, by simpa using h4, by simpa using h5⟩
theorem Z59 {ls : List Ld} {es : List Pr} (h : chk ls es = 0) : TrOk ls (sets ls.length es) ls.length ∧ Ord (bit (sets ls.length es)) ∧ (∀ a b, bit (sets ls.length es) a b = true ↔ Mule.Reach (es.map tN) a b) ∧ ∀ p ∈ es.map tN, p.1 < ls.length ∧ p.2 < ls.length := by
 obtain ⟨h1, h2, h3, h4, h5, h6⟩ := ZbF h
 have hp := Zgw h5
 obtain ⟨c1, c2⟩ := ZbS hp
 have e : sets ls.length es = closed ls.length (es.map tN) := rfl
 rw [e]
 refine ⟨⟨h1, h2, rfl, c1, fun x hx => ?_, fun x hx => Zgz (ZpB hp) _ _ x hx⟩, ⟨fun i => ?_, fun i j k a b => ?_⟩, c2, hp⟩
 · obtain ⟨i, hi, e⟩ := List.mem_iff_getElem.1 hx
   have := Z2b.1 h4 i hi
   have hg : ls.getD i default = x := by rw [← e]; simp [hi]
   rw [hg] at this
   unfold ldE at this
   split at this
   · rename_i hB; exact Z08r.1 hB
   · simp at this
 · cases hb : bit (closed ls.length (es.map tN)) i i with
   | false => rfl
   | true =>
     have hlt := (ZKy hp ((c2 i i).1 hb)).1
     rw [e] at h6
     have : clashB ls.length (closed ls.length (es.map tN)) = true := List.any_eq_true.2 ⟨i, List.mem_range.2 hlt, hb⟩
     rw [h6] at this
     exact absurd this (by simp)
 · exact (c2 _ _).2 (((c2 _ _).1 a).trans ((c2 _ _).1 b))
structure HaC (C : Callee) : Prop where
 rw_ : H1C C
 pin : ∀ (site : Nat → Nat) seen ex (l : List Pr) (q : Pr), l.length < 900 → aBack site true seen (thaw C 79 [.imm (cls bc l) l.length ex, .agg (bc q)] [] 0) = .pure (.bool (decide (q ∈ l)), [])
theorem haC (d : Nat) : HaC (callA E fg 1000 (d + 2)) := ⟨⟨fun _ _ _ => Z0fo, fun _ _ _ => ZVg⟩, fun _ _ _ _ _ h => Z0fv h⟩
theorem Z0om {C : Callee} (hC : H1C C) {ls : List Ld} {e : Bool} {b : AV} {n : Nat} {z : List AV} (hl : ls.length = n) (hz : z.length = n) (hn : n ≤ 6) (hn0 : 0 < n) (hb : b = .nilsl ∨ ∃ c m ex, b = .imm c m ex) :
   (ldsE ls ≠ 0 ∧ ∃ H', iterA (execA E C (fg 88) 0 156 [] 1000 Z4v) (headA []) 1000 (h1S ls e b n z 0) = some (.ret, ([(3, .int .i64 (ldsE ls)), (2, .ptr 2 0 2)], H')) ∧ hget H' 2 = some ⟨.box, [.nilsl, .nilsl]⟩) ∨
   (ldsE ls = 0 ∧ iterA (execA E C (fg 88) 0 156 [] 1000 Z4v) (headA []) 1000 (h1S ls e b n z 0) = some (.exit 1, ([(39, .bool false), (38, .int .i64 n), (37, .int .i64 n), (36, .imm (cls lc ls) n e), (5, .ptr 5 0 2), (4, .int .i64 n), (2, .ptr 2 0 2), (1, .ptr 1 0 2)],
     [(1, ⟨.box, [.imm (cls lc ls) n e, b]⟩), (2, ⟨.box, [.nilsl, .nilsl]⟩), (5, ⟨.box, [.ref 61 0 n n (n * 5) 5 false, .ref 33 0 n n n 1 false]⟩), (33, ⟨.row, z⟩), (61, ⟨.row, cls lc ls⟩)]))) := by
 have hle := ZiC ls.length (fun i => ldE (ls.getD i default) != 0)
 have hround : ∀ i, i < fst1 ls.length (fun i => ldE (ls.getD i default) != 0) → ∃ s', (execA E C (fg 88) 0 156 [] 1000 Z4v) (h1S ls e b n z i) = some (.normal, s') ∧ headA [] s' = h1S ls e b n z (i + 1) := by
   intro i hi
   refine Z0r8 hC hl hz hn hb i (by omega) fun l hx => ?_
   have := ZiY hi
   simp only [List.getD_eq_getElem?_getD, hx, Option.getD_some] at this
   simpa using this
 have h0 : headA [] (h1S ls e b n z 0) = h1S ls e b n z 0 := by
   rcases hb with rfl | ⟨_, _, _, rfl⟩ <;> rfl
 by_cases hlt : fst1 ls.length (fun i => ldE (ls.getD i default) != 0) < ls.length
 · have hat := Zhx hlt
   have hE : ldsE ls = ldE (ls.getD (fst1 ls.length fun i => ldE (ls.getD i default) != 0) default) := by
     unfold ldsE firstE; rw [if_pos hlt]
   have hx : ls[fst1 ls.length fun i => ldE (ls.getD i default) != 0]? = some (ls.getD (fst1 ls.length fun i => ldE (ls.getD i default) != 0) default) := Z08 hlt
   have hne : ldE (ls.getD (fst1 ls.length fun i => ldE (ls.getD i default) != 0) default) ≠ 0 := by simpa using hat
   obtain ⟨H', b1, b2⟩ := Z0qG hC (e := e) (b := b) hl hz hn _ (by omega) hx hne
   refine .inl ⟨by rw [hE]; exact hne, H', ?_, b2⟩
   rw [hE]
   exact loopN (f := (execA E C (fg 88) 0 156 [] 1000 Z4v)) (fun i => h1S ls e b n z i) _ hround h0 (by omega) b1 (by simp)
 · have hE : ldsE ls = 0 := by unfold ldsE firstE; rw [if_neg hlt]
   have e1 : fst1 ls.length (fun i => ldE (ls.getD i default) != 0) = n := by omega
   rw [e1] at hround
   refine .inr ⟨hE, loopN (f := (execA E C (fg 88) 0 156 [] 1000 Z4v)) (fun i => h1S ls e b n z i) n hround h0 (by omega) ?_ (by simp)⟩
   have t : ls.take n = ls := List.take_of_length_le (by omega)
   have oo : oH 61 (cls lc ls) = [(61, ⟨.row, cls lc ls⟩)] := Zzk 61 (by rw [ZA ZX]; omega)
   have ov : oV 61 5 n = .ref 61 0 n n (n * 5) 5 false := by
     cases n with
     | zero => omega
     | succ n => rfl
   simp only [h1S, t, oo, ov]
   simp (disch := omega) only [ZR, Z8, Zc, Za, Z2, Z1, Z3, Z0, Zo, stp, just, Rd.bind, Rd.run, Rd.opt, upds, aBin, aInt, Nat.reduceEqDiff, Nat.reduceLeDiff, ↓reduceIte, decide_false, Z7, List.elem_nil, seqN, bindN, regN, Int.lt_irrefl, Bool.false_eq_true, Zg8, ZcM, Zc1, Zgl, Zg2, Zgx, Zg9, ZgB]
theorem Z0pj {C : Callee} (hC : HaC C) {ls : List Ld} {es : List Pr} {e e2 : Bool} {n : Nat} (hl : ls.length = n) (hn : n ≤ 6) (hm : es.length ≤ 15) :
   (prsE n es ≠ 0 ∧ ∃ H', iterA (execA E C (fg 88) 0 156 [] 1000 Z3h) (headA []) 1000 (h2S ls es e e2 n 0) = some (.ret, ([(3, .int .i64 (prsE n es)), (2, .ptr 2 0 2)], H')) ∧ hget H' 2 = some ⟨.box, [.nilsl, .nilsl]⟩) ∨
   (prsE n es = 0 ∧ iterA (execA E C (fg 88) 0 156 [] 1000 Z3h) (headA []) 1000 (h2S ls es e e2 n 0) = some (.exit 4, ([(68, .bool false), (67, .int .i64 es.length), (66, .int .i64 es.length), (65, .imm (cls bc es) es.length e2), (5, .ptr 5 0 2), (4, .int .i64 n), (2, .ptr 2 0 2), (1, .ptr 1 0 2)],
     h2H ls (.imm (cls lc ls) n e) (.imm (cls bc es) es.length e2) n (adj n es)))) := by
 have hle := ZiC es.length (fun i => prE n (es.take i) (es.getD i default) != 0)
 have hz : ∀ i, i < fst1 es.length (fun i => prE n (es.take i) (es.getD i default) != 0) → prE n (es.take i) (es.getD i default) = 0 := fun i hi => by simpa using ZiY hi
 have hcall : ∀ i, i ≤ es.length → ∀ (site : Nat → Nat) seen ex (p : Pr), aBack site true seen (thaw C 79 [.imm (cls bc (es.take i)) i ex, .agg (bc p)] [] 0) = .pure (.bool (decide (p ∈ es.take i)), []) := by
   intro i hi site seen ex p
   have := hC.pin site seen ex (es.take i) p (by rw [List.length_take]; omega)
   rwa [List.length_take, Nat.min_eq_left hi] at this
 have hround : ∀ i, i < fst1 es.length (fun i => prE n (es.take i) (es.getD i default) != 0) → ∃ s', (execA E C (fg 88) 0 156 [] 1000 Z3h) (h2S ls es e e2 n i) = some (.normal, s') ∧ headA [] s' = h2S ls es e e2 n (i + 1) := by
   intro i hi
   have hx : es[i]? = some (es.getD i default) := Z08 (by omega)
   exact Z0sd hl hn hm i (by omega) (Z0ga (by omega) fun j hj => hz j (by omega)) hx (hz i hi) fun site seen ex => hcall i (by omega) site seen ex _
 by_cases hlt : fst1 es.length (fun i => prE n (es.take i) (es.getD i default) != 0) < es.length
 · have hat := Zhx hlt
   have hE : prsE n es = prE n (es.take (fst1 es.length fun i => prE n (es.take i) (es.getD i default) != 0)) (es.getD (fst1 es.length fun i => prE n (es.take i) (es.getD i default) != 0) default) := by
     unfold prsE firstE; rw [if_pos hlt]
   generalize fst1 es.length (fun i => prE n (es.take i) (es.getD i default) != 0) = k at *
   have hx : es[k]? = some (es.getD k default) := Z08 hlt
   have hne : prE n (es.take k) (es.getD k default) ≠ 0 := by simpa using hat
   obtain ⟨H', b1, b2⟩ := Z0qw (C := C) (e := e) (e2 := e2) hl hn hm k hlt hx hne fun site seen ex => hcall k (by omega) site seen ex _
   refine .inl ⟨by rw [hE]; exact hne, H', ?_, b2⟩
   rw [hE]
   exact loopN (f := (execA E C (fg 88) 0 156 [] 1000 Z3h)) (fun i => h2S ls es e e2 n i) _ hround rfl (by omega) b1 (by simp)
 · have hE : prsE n es = 0 := by unfold prsE firstE; rw [if_neg hlt]
   have e1 : fst1 es.length (fun i => prE n (es.take i) (es.getD i default) != 0) = es.length := by omega
   rw [e1] at hround
   refine .inr ⟨hE, loopN (f := (execA E C (fg 88) 0 156 [] 1000 Z3h)) (fun i => h2S ls es e e2 n i) es.length hround rfl (by omega) ?_ (by simp)⟩
   simp only [h2S, List.take_length]
   simp (disch := omega) only [ZR, Z8, Zc, Za, Z2, Z1, Z3, Z0, Zo, stp, just, Rd.bind, Rd.run, Rd.opt, upds, aBin, aInt, Nat.reduceEqDiff, Nat.reduceLeDiff, ↓reduceIte, decide_false, Z7, List.elem_nil, seqN, bindN, regN, Int.lt_irrefl, Bool.false_eq_true, Zc8, Z70, Z6C, Zd2, Zcp, ZcN, ZcP, ZcO]
theorem Z0bp {C : Callee} {ls : List Ld} {n : Nat} {B : List Nat} (hB : B.length = n) (hb : ∀ x ∈ B, x < 2 ^ n) (hn : n ≤ 6) :
   (clashB n B = true ∧ ∃ H', iterA (execA E C (fg 88) 0 156 [] 1000 Z3e) (headA []) 1000 (h5S ls n B 0) = some (.ret, ([(3, .int .i64 13), (2, .ptr 2 0 2)], H')) ∧ hget H' 2 = some ⟨.box, [.nilsl, .nilsl]⟩) ∨
   (clashB n B = false ∧ iterA (execA E C (fg 88) 0 156 [] 1000 Z3e) (headA []) 1000 (h5S ls n B 0) = some (.exit 11, ([(144, .bool false), (143, .int .i64 n), (142, .int .i64 n), (141, .ref 33 0 n n n 1 false), (5, .ptr 5 0 2), (2, .ptr 2 0 2)], h3H ls n B))) := by
 have hle := ZiC n (fun i => bit B i i)
 have hround : ∀ i, i < fst1 n (fun i => bit B i i) → ∃ s', (execA E C (fg 88) 0 156 [] 1000 Z3e) (h5S ls n B i) = some (.normal, s') ∧ headA [] s' = h5S ls n B (i + 1) := fun i hi => Z0sy hB hb hn i (by omega) (ZiY (p := fun i => bit B i i) hi)
 have ha := Z0eM n (fun i => bit B i i)
 by_cases hlt : fst1 n (fun i => bit B i i) < n
 · have hat := Zhx hlt
   obtain ⟨H', b1, b2⟩ := Z0qb (C := C) (ls := ls) hB hb hn _ hlt hat
   refine .inl ⟨by unfold clashB; rw [ha]; exact decide_eq_true hlt, H', ?_, b2⟩
   exact loopN (f := (execA E C (fg 88) 0 156 [] 1000 Z3e)) (fun i => h5S ls n B i) _ hround rfl (by omega) b1 (by simp)
 · have e1 : fst1 n (fun i => bit B i i) = n := by omega
   rw [e1] at hround
   refine .inr ⟨by unfold clashB; rw [ha]; exact decide_eq_false hlt, loopN (f := (execA E C (fg 88) 0 156 [] 1000 Z3e)) (fun i => h5S ls n B i) n hround rfl (by omega) ?_ (by simp)⟩
   simp (disch := omega) only [ZR, Z8, Zc, Za, Z2, Z1, Z3, Z0, Zo, stp, just, Rd.bind, Rd.run, Rd.opt, upds, aBin, aInt, Nat.reduceEqDiff, Nat.reduceLeDiff, ↓reduceIte, decide_false, Z7, List.elem_nil, seqN, bindN, regN, Int.lt_irrefl, Bool.false_eq_true, ZtT, ZmW, Znf, Zuf, Zv0, Zvb, Zth, Zwr, h5S]
end Go.AM.YtgfnbmfjbjopkaaDoor
end
end
noncomputable section
noncomputable section
namespace Go.AM.YtgfnbmfjbjopkaaDoor
open Go Go.AM Go.AM.Mule
theorem ZAG : ∀ n, repC [.int .u64 0] n = ucs (List.replicate n 0)
 | 0 => rfl
 | n + 1 => by rw [repC, ZAG n]; rfl
theorem Z0oV {C : Callee} {ls : List Ld} {e : Bool} {n : Nat} : iterA (execA E C (fg 88) 0 156 [] 1000 Z3h) (headA []) 1000 ([(67, .int .i64 0), (66, .int .i64 0), (65, .nilsl), (5, .ptr 5 0 2), (4, .int .i64 n), (2, .ptr 2 0 2), (1, .ptr 1 0 2)],
     h2H ls (.imm (cls lc ls) n e) .nilsl n (List.replicate n 0)) = some (.exit 4, ([(68, .bool false), (67, .int .i64 0), (66, .int .i64 0), (65, .nilsl), (5, .ptr 5 0 2), (4, .int .i64 n), (2, .ptr 2 0 2), (1, .ptr 1 0 2)],
     h2H ls (.imm (cls lc ls) n e) .nilsl n (List.replicate n 0))) :=
 Z06C (f := (execA E C (fg 88) 0 156 [] 1000 Z3h)) rfl (by simp (disch := omega) only [ZR, Z8, Zc, Za, Z2, Z1, Z3, Z0, Zo, stp, just, Rd.bind, Rd.run, Rd.opt, upds, aBin, aInt, Nat.reduceEqDiff, Nat.reduceLeDiff, ↓reduceIte, decide_false, Z7, List.elem_nil, seqN, bindN, regN, Int.lt_irrefl, Bool.false_eq_true, Zc8, Z70, Z6C, Zd2, Zcp, ZcN, ZcP, ZcO]) (by simp)
theorem Z08R {C : Callee} {ls : List Ld} {n : Nat} {B : List Nat} (hB : B.length = n) (hb : ∀ x ∈ B, x < 2 ^ n) (hn : n ≤ 6) {s0 : St} (h0 : headA [] s0 = h4S ls n B 0) :
   iterA (execA E C (fg 88) 0 156 [] 1000 Zdn) (headA []) 1000 s0 = some (.exit 7, ([(111, .bool false), (110, .int .i64 n), (109, .int .i64 n), (5, .ptr 5 0 2), (4, .int .i64 n), (2, .ptr 2 0 2)], h3H ls n (fw n B))) := by
 refine Z2M (fun k => h4S ls n ((List.range k).foldl (fwK n) B) k) n 1000 0 s0 h0 (by omega) (fun k _ hk => ?_) (e := .exit 7) ?_ (by simp)
 · have := Z0r4 (C := C) (ls := ls) (B := (List.range k).foldl (fwK n) B) (by rw [Z9X, hB]) (Zgz hb n k) hn (show k < n by omega)
   rw [List.range_succ, List.foldl_append]; exact this
 · rw [Nat.zero_add, show (List.range n).foldl (fwK n) B = fw n B from rfl]
   simp (disch := omega) only [ZR, Z8, Zc, Za, Z2, Z1, Z3, Z0, Zo, stp, just, Rd.bind, Rd.run, Rd.opt, upds, aBin, aInt, Nat.reduceEqDiff, Nat.reduceLeDiff, ↓reduceIte, decide_false, Z7, List.elem_nil, seqN, bindN, regN, Int.lt_irrefl, Bool.false_eq_true, Z0bz, ZFz, ZQR, Z08a, Z0bw, Z09K, Z09s, Z0av, h4S]
theorem Z09j {C : Callee} (hC : HaC C) {ls : List Ld} {es : List Pr} {a b : AV} (ha : SV lc ls a) (hb : SV bc es b) :
   (chk ls es ≠ 0 → ∃ H', bodyA E C fg 1000 88 [.agg [a, b]] [] 0 = some (.tup [.agg [.nilsl, .nilsl], .int .i64 (chk ls es)], H')) ∧
   (chk ls es = 0 → ∃ H', bodyA E C fg 1000 88 [.agg [a, b]] [] 0 = some (.tup [.agg [.ref 61 0 ls.length ls.length (ls.length * 5) 5 false, .ref 33 0 ls.length ls.length ls.length 1 false], .int .i64 0], H') ∧ hget H' 61 = some ⟨.row, cls lc ls⟩ ∧ hget H' 33 = some ⟨.row, ucs (sets ls.length es)⟩) := by
 rcases ha with ⟨rfl, rfl⟩ | ⟨e, rfl⟩
 · have : chk [] es = 4 := rfl
   rw [this]
   refine ⟨fun _ => ?_, fun h => by simp at h⟩
   simp (disch := omega) only [Z0o, Z8, Z0e, ↓gd, ZW, Bool.not_false, ZF, Zc, Za, Z2, Z1, Z3, Z0, Zl, Zd, Zx, Zi, Zw, Zm, stp, opBox, justO, just, Rd.bind, Rd.run, Rd.opt, upds, acells, zeroCells, tsz, rdCells, fieldOf, Ze, aLoad, aStore, opStore, resA, resL, fresh, aLen, Zh, aBin, aInt, putC, Nat.reduceAdd, Nat.reduceBEq, Nat.reduceEqDiff, Nat.reduceLeDiff, ↓reduceIte, reduceCtorEq, Zf, decide_eq_false_iff_not, Nat.zero_add, Nat.add_zero, List.nil_append, List.getElem?_toArray, Bool.not_false, partsOf, fillA, Z7, Zk, and_true, snaps, List.append_nil, Option.map_some, List.elem_cons, List.elem_nil, List.length_cons, List.length_nil, List.getElem?_cons_zero, List.getElem?_cons_succ, List.drop_zero, List.take_succ_cons, List.take_nil, List.set_cons_zero, List.set_cons_succ, Zp, seqN, bindN, regN, ZU, aBuild, Nat.le_refl, List.not_mem_nil, beq_self_eq_true, Bool.false_eq_true, T_22, T_23, T_25, ZZ, beq_self_eq_true, Z69, Z31, Z3j, Z2Z, Z3a, Z6b, Z33, Z2V, Z39, Z3n, Z3l, Z5X, Z36, Z3d, Z38, Z3g, Z4z, Z37, Z35, Z3m, Z2T, Z4G, Z6d, Z48, Z3o, Z3c, Z3i, Z2U, Z3b, Z32, Z3k, Z4q, Z62, Z67, Z68, Z66, Z63, Z5Y, b_88, if_pos]
   exact ⟨_, rfl⟩
 · by_cases hn0 : ls.length = 0
   · have h4 : chk ls es = 4 := by unfold chk; rw [if_pos hn0]
     rw [h4]
     refine ⟨fun _ => ?_, fun h => by simp at h⟩
     have hlen : (cls lc ls).length = ls.length * 5 := ZA ZX ls
     simp (disch := omega) only [Z0o, Z8, Z0e, ↓gd, ZW, Bool.not_false, ZF, Zc, Za, Z2, Z1, Z3, Z0, Zl, Zd, Zx, Zi, Zw, Zm, stp, opBox, justO, just, Rd.bind, Rd.run, Rd.opt, upds, acells, zeroCells, tsz, rdCells, fieldOf, Ze, aLoad, aStore, opStore, resA, resL, fresh, aLen, Zh, aBin, aInt, putC, Nat.reduceAdd, Nat.reduceBEq, Nat.reduceEqDiff, Nat.reduceLeDiff, ↓reduceIte, reduceCtorEq, Zf, decide_eq_false_iff_not, Nat.zero_add, Nat.add_zero, List.nil_append, List.getElem?_toArray, Bool.not_false, partsOf, fillA, Z7, Zk, and_true, snaps, List.append_nil, Option.map_some, List.elem_cons, List.elem_nil, List.length_cons, List.length_nil, List.getElem?_cons_zero, List.getElem?_cons_succ, List.drop_zero, List.take_succ_cons, List.take_nil, List.set_cons_zero, List.set_cons_succ, Zp, seqN, bindN, regN, ZU, aBuild, Nat.le_refl, List.not_mem_nil, beq_self_eq_true, Bool.false_eq_true, T_22, T_23, T_25, ZZ, beq_self_eq_true, Z69, Z31, Z3j, Z2Z, Z3a, Z6b, Z33, Z2V, Z39, Z3n, Z3l, Z5X, Z36, Z3d, Z38, Z3g, Z4z, Z37, Z35, Z3m, Z2T, Z4G, Z6d, Z48, Z3o, Z3c, Z3i, Z2U, Z3b, Z32, Z3k, Z4q, Z62, Z67, Z68, Z66, Z63, Z5Y, b_88, hn0, if_pos, Int.natCast_zero]
     exact ⟨_, rfl⟩
   · have g0 : ¬ (ls.length : Int) = 0 := by omega
     have hbl : ∀ φ, ∃ m, (m = es.length) ∧ (just (aLen E.T 23 b)).run φ = some (.int .i64 (m : Int), []) := by
       intro φ
       rcases hb with ⟨rfl, rfl⟩ | ⟨e2, rfl⟩
       · exact ⟨0, rfl, rfl⟩
       · exact ⟨es.length, rfl, rfl⟩
     by_cases h6 : 6 < ls.length ∨ 15 < es.length
     · have h3 : chk ls es = 3 := by unfold chk; rw [if_neg hn0, if_pos h6]
       rw [h3]
       refine ⟨fun _ => ?_, fun h => by simp at h⟩
       by_cases h6a : 6 < ls.length
       · have g1 : (ls.length : Int) > 6 := by omega
         simp (disch := omega) only [Z0o, Z8, Z0e, ↓gd, ZW, Bool.not_false, ZF, Zc, Za, Z2, Z1, Z3, Z0, Zl, Zd, Zx, Zi, Zw, Zm, stp, opPick, opBox, justO, just, Rd.bind, Rd.run, Rd.opt, upds, acells, zeroCells, tsz, rdCells, fieldOf, Ze, aLoad, aStore, opStore, resA, resL, fresh, aLen, Zh, aBin, aInt, putC, Nat.reduceAdd, Nat.reduceBEq, Nat.reduceEqDiff, Nat.reduceLeDiff, ↓reduceIte, reduceCtorEq, Zf, Nat.zero_add, Nat.add_zero, beq_iff_eq, List.nil_append, List.getElem?_toArray, Bool.not_false, decide_true, partsOf, fillA, Z7, Zk, and_true, snaps, List.append_nil, Option.map_some, List.elem_cons, List.elem_nil, List.length_cons, List.length_nil, List.getElem?_cons_zero, List.drop_zero, List.take_succ_cons, List.take_nil, List.set_cons_zero, List.set_cons_succ, Zp, seqN, bindN, regN, ZU, aBuild, Nat.le_refl, List.not_mem_nil, beq_self_eq_true, Bool.false_eq_true, T_22, T_25, ZZ, beq_self_eq_true, Z69, Z31, Z3j, Z2Z, Z3a, Z6b, Z33, Z2V, Z39, Z3n, Z3l, Z5X, Z36, Z3d, Z38, Z3g, Z4z, Z37, Z35, Z3m, Z2T, Z4G, Z6d, Z48, Z3o, Z3c, Z3i, Z2U, Z3b, Z32, Z3k, Z4O, Z4U, Z4Z, Z5W, Z4R, Z50, Z4Q, Z4N, Z6a, Z65, Z5U, Z64, Z4q, Z62, Z67, Z68, Z66, Z63, Z5Y, b_88, g0, g1]
         exact ⟨_, rfl⟩
       · have g1 : ¬ (ls.length : Int) > 6 := by omega
         have g2 : (es.length : Int) > 15 := by omega
         rcases hb with ⟨rfl, rfl⟩ | ⟨e2, rfl⟩
         · simp at h6; omega
         · simp (disch := omega) only [Z0o, Z8, Z0e, ↓gd, ZW, ZF, Zc, Za, Z2, Z1, Z3, Z0, Zl, Zd, Zx, Zi, Zw, Zm, stp, opPick, opBox, justO, just, Rd.bind, Rd.run, Rd.opt, upds, acells, zeroCells, tsz, rdCells, fieldOf, Ze, aLoad, aStore, opStore, resA, resL, fresh, aLen, Zh, aBin, aInt, putC, Nat.reduceAdd, Nat.reduceBEq, Nat.reduceEqDiff, Nat.reduceLeDiff, ↓reduceIte, reduceCtorEq, Zf, Nat.zero_add, Nat.add_zero, beq_iff_eq, List.nil_append, List.getElem?_toArray, decide_true, decide_false, partsOf, fillA, Z7, Zk, and_true, snaps, List.append_nil, Option.map_some, List.elem_cons, List.elem_nil, List.length_cons, List.length_nil, List.getElem?_cons_zero, List.getElem?_cons_succ, List.drop_zero, List.take_succ_cons, List.take_nil, List.set_cons_zero, List.set_cons_succ, Zp, seqN, bindN, regN, ZU, aBuild, Nat.le_refl, List.not_mem_nil, beq_self_eq_true, Bool.false_eq_true, T_22, T_23, T_25, ZZ, beq_self_eq_true, Z69, Z31, Z3j, Z2Z, Z3a, Z6b, Z33, Z2V, Z39, Z3n, Z3l, Z5X, Z36, Z3d, Z38, Z3g, Z4z, Z37, Z35, Z3m, Z2T, Z4G, Z6d, Z48, Z3o, Z3c, Z3i, Z2U, Z3b, Z32, Z3k, Z4O, Z4U, Z4Z, Z5W, Z4R, Z50, Z4Q, Z4N, Z6a, Z65, Z5U, Z64, Z4q, Z62, Z67, Z68, Z66, Z63, Z5Y, b_88, g0, g1, g2]
           exact ⟨_, rfl⟩
     · have hn : ls.length ≤ 6 := by omega
       have hm : es.length ≤ 15 := by omega
       have g1 : ¬ (ls.length : Int) > 6 := by omega
       have g2 : ¬ (es.length : Int) > 15 := by omega
       have hbs : b = .nilsl ∨ ∃ c m ex, b = .imm c m ex := by
         rcases hb with ⟨rfl, rfl⟩ | ⟨e2, rfl⟩
         · exact .inl rfl
         · exact .inr ⟨_, _, _, rfl⟩
       have hz : (ucs (List.replicate ls.length 0)).length = ls.length := by rw [Z0g, List.length_replicate]
       have hrep := ZAG ls.length
       have hflat : [AV.int .u64 0].all AV.flat = true := rfl
       have hk : (ls.length : Int) ≤ kHi .i64 := by simp only [kHi]; omega
       have hby : ((8 : Nat) : Int) * (ls.length : Int) ≤ 281474976710656 := by omega
       rcases Z0om (C := C) hC.rw_ (ls := ls) (e := e) (b := b) (z := ucs (List.replicate ls.length 0)) rfl hz hn (by omega) hbs with ⟨hE, H', hl1, hl2⟩ | ⟨hE, hl1⟩
       · have hc : chk ls es = ldsE ls := by unfold chk; rw [if_neg hn0, if_neg h6, if_pos hE]
         rw [hc]
         refine ⟨fun _ => ?_, fun h => absurd h hE⟩
         simp only [h1S, List.take_zero, ZhK, oV, oH, cl0] at hl1
         rcases hb with ⟨rfl, rfl⟩ | ⟨e2, rfl⟩
         · simp (disch := omega) only [Z0o, ZjJ, Z8, Zg, Z0e, Ze4, ↓gd, ZW, Zga, ZF, Zc, Za, Z2, Z1, Z3, Z0, Zl, Zd, Zx, Zi, Zw, Zm, stp, opPick, opBox, justO, just, Rd.bind, Rd.run, Rd.opt, upds, acells, zeroCells, tsz, elemT, rdCells, fieldOf, Ze, aLoad, aStore, opStore, resA, resL, fresh, aNum, aLen, Zh, aBin, aInt, putC, evO, Nat.reduceAdd, Nat.reduceLT, Nat.reduceBEq, Nat.reduceEqDiff, Nat.reduceLeDiff, ↓reduceIte, reduceCtorEq, Zf, decide_eq_true_eq, Nat.zero_add, Nat.add_zero, ne_eq, beq_iff_eq, List.nil_append, List.getElem?_toArray, Bool.and_true, decide_true, decide_false, not_true_eq_false, or_self, partsOf, fillA, Z7, Zk, and_true, true_and, Int.natCast_nonneg, Int.toNat_natCast, snaps, List.append_nil, Option.map_some, List.elem_cons, List.elem_nil, List.length_cons, List.length_nil, List.getElem?_cons_zero, List.getElem?_cons_succ, List.drop_zero, List.take_succ_cons, List.take_nil, List.set_cons_zero, List.set_cons_succ, Zp, seqN, bindN, regN, ZU, ZM, aBuild, placeF, Nat.le_refl, Nat.mul_one, List.not_mem_nil, beq_self_eq_true, Nat.lt_irrefl, Bool.false_eq_true, T_22, T_23, T_25, Z46, ZZ, Z18, beq_self_eq_true, Z69, Z31, Z3j, Z2Z, Z3a, Z6b, Z33, Z2V, Z39, Z3n, Z3l, Z5X, Z36, Z3d, Z38, Z3g, Z4z, Z37, Z35, Z3m, Z2T, Z4G, Z6d, Z48, Z3o, Z3c, Z3i, Z2U, Z3b, Z32, Z3k, Z4O, Z4U, Z4Z, Z5W, Z4R, Z50, Z4Q, Z4N, Z6a, Z65, Z5U, Z64, Z4q, Z62, Z67, Z68, ZaO, Z8p, Z7H, Z7f, Z7d, Z7e, Z6P, Zam, Z8o, Z87, Z7A, Z7Y, Z8A, Za1, ZaT, Za5, ZaH, ZaB, Z66, Z63, Z5Y, b_88, g0, g1, aMake, hrep, hflat, hk, hby, hl1, hl2, if_pos]
           exact ⟨_, rfl⟩
         · simp (disch := omega) only [Z0o, Z8, Zg, Z0e, ↓gd, ZW, ZF, Zc, Za, Z2, Z1, Z3, Z0, Zl, Zd, Zx, Zi, Zw, Zm, stp, opPick, opBox, justO, just, Rd.bind, Rd.run, Rd.opt, upds, acells, zeroCells, tsz, elemT, rdCells, fieldOf, Ze, aLoad, aStore, opStore, resA, resL, fresh, aNum, aLen, Zh, aBin, aInt, putC, evO, Nat.reduceAdd, Nat.reduceLT, Nat.reduceBEq, Nat.reduceEqDiff, Nat.reduceLeDiff, ↓reduceIte, reduceCtorEq, Zf, Nat.zero_add, Nat.add_zero, ne_eq, beq_iff_eq, List.nil_append, List.getElem?_toArray, Bool.and_true, decide_true, decide_false, not_true_eq_false, or_self, partsOf, fillA, Z7, Zk, and_true, true_and, Int.natCast_nonneg, Int.toNat_natCast, snaps, List.append_nil, Option.map_some, List.elem_cons, List.elem_nil, List.length_cons, List.length_nil, List.getElem?_cons_zero, List.getElem?_cons_succ, List.drop_zero, List.take_succ_cons, List.take_nil, List.set_cons_zero, List.set_cons_succ, Zp, seqN, bindN, regN, ZU, ZM, aBuild, placeF, Nat.le_refl, Nat.mul_one, List.not_mem_nil, beq_self_eq_true, Nat.lt_irrefl, Bool.false_eq_true, T_22, T_23, T_25, Z46, ZZ, Z18, beq_self_eq_true, Z69, Z31, Z3j, Z2Z, Z3a, Z6b, Z33, Z2V, Z39, Z3n, Z3l, Z5X, Z36, Z3d, Z38, Z3g, Z4z, Z37, Z35, Z3m, Z2T, Z4G, Z6d, Z48, Z3o, Z3c, Z3i, Z2U, Z3b, Z32, Z3k, Z4O, Z4U, Z4Z, Z5W, Z4R, Z50, Z4Q, Z4N, Z6a, Z65, Z5U, Z64, Z4q, Z62, Z67, Z68, ZaO, Z8p, Z7H, Z7f, Z7d, Z7e, Z6P, Zam, Z8o, Z87, Z7A, Z7Y, Z8A, Za1, ZaT, Za5, ZaH, ZaB, Z66, Z63, Z5Y, b_88, g0, g1, g2, aMake, hrep, hflat, hk, hby, hl1, hl2, if_pos]
           exact ⟨_, rfl⟩
       · simp only [h1S, List.take_zero, ZhK, oV, oH, cl0] at hl1
         have hlen : (cls lc ls).length = ls.length * 5 := ZA ZX ls
         rcases hb with ⟨rfl, rfl⟩ | ⟨e2, rfl⟩
         · have hp : prsE ls.length [] = 0 := rfl
           have hl2 := Z0oV (C := C) (ls := ls) (e := e) (n := ls.length)
           have hb0 : ∀ x ∈ List.replicate ls.length 0, x < 2 ^ ls.length := ZpB (es := []) (by simp)
           have hl4 := Z08R (C := C) (ls := ls) (B := List.replicate ls.length 0) (by simp) hb0 hn (s0 := ([(110, .int .i64 0), (109, .int .i64 ls.length), (5, .ptr 5 0 2), (4, .int .i64 ls.length), (2, .ptr 2 0 2)], h2H ls (.imm (cls lc ls) ls.length e) .nilsl ls.length (List.replicate ls.length 0))) rfl
           have hse : sets ls.length [] = fw ls.length (List.replicate ls.length 0) := rfl
           have hul : (ucs (fw ls.length (List.replicate ls.length 0))).length = ls.length := by rw [Z0g]; exact Z9X _ _ _ |>.trans (by simp)
           have hc0 : chk ls [] = if clashB ls.length (sets ls.length []) = true then 13 else 0 := by
             unfold chk; rw [if_neg hn0, if_neg h6, if_neg (by simp [hE]), if_neg (by simp [hp])]
           rw [hc0, hse]
           rcases Z0bp (C := C) (ls := ls) (n := ls.length) (B := fw ls.length (List.replicate ls.length 0)) (Z9X _ _ _ |>.trans (by simp)) (Zgz hb0 _ _) hn with ⟨hcl, H', l1, l2⟩ | ⟨hcl, l1⟩
           · rw [hcl]
             refine ⟨fun _ => ?_, fun h => by simp at h⟩
             simp only [h5S, h3H, cl0] at l1
             simp only [h2H, h3H] at hl2 hl4
             generalize fw ls.length (List.replicate ls.length 0) = FB at *
             simp (disch := omega) only [Z0o, ZjJ, Z8, ZJ, Zg, Z0e, Ze4, ↓gd, ZW, Zga, ZF, Zc, Za, Z2, Z1, Z3, Z0, Zl, Zd, Zx, Zi, Zw, Zo, Zm, stp, opPick, opBox, justO, just, Rd.bind, Rd.run, Rd.opt, upds, acells, zeroCells, tsz, elemT, rdCells, fieldOf, Ze, aLoad, aStore, opStore, resA, resL, fresh, aNum, aLen, Zh, aBin, aInt, putC, evO, Nat.reduceAdd, Nat.reduceLT, Nat.reduceBEq, Nat.reduceEqDiff, Nat.reduceLeDiff, ↓reduceIte, reduceCtorEq, Zf, decide_eq_true_eq, Nat.zero_add, Nat.add_zero, ne_eq, beq_iff_eq, List.nil_append, List.getElem?_toArray, Bool.and_true, decide_true, decide_false, not_true_eq_false, or_self, partsOf, fillA, Z7, Zk, and_true, true_and, Int.natCast_nonneg, Int.toNat_natCast, snaps, List.append_nil, Option.map_some, List.elem_cons, List.elem_nil, List.length_cons, List.length_nil, List.getElem?_cons_zero, List.getElem?_cons_succ, List.drop_zero, List.take_succ_cons, List.take_nil, List.set_cons_zero, List.set_cons_succ, Zp, seqN, bindN, regN, ZU, ZM, aBuild, placeF, Nat.le_refl, Nat.mul_one, List.not_mem_nil, beq_self_eq_true, Nat.lt_irrefl, Bool.false_eq_true, T_22, T_23, T_25, Z46, ZZ, Z18, beq_self_eq_true, Z69, Z31, Z3j, Z2Z, Z3a, Z6b, Z33, Z2V, Z39, Z3n, Z3l, Z5X, Z36, Z3d, Z38, Z3g, Z4z, Z37, Z35, Z3m, Z2T, Z4G, Z6d, Z48, Z3o, Z3c, Z3i, Z2U, Z3b, Z32, Z3k, Z4O, Z4U, Z4Z, Z5W, Z4R, Z50, Z4Q, Z4N, Z6a, Z65, Z5U, Z64, Z4q, Z62, Z67, Z68, ZaO, Z8p, Z7H, Z7f, Z7d, Z7e, Z6P, Zam, Z8o, Z87, Z7A, Z7Y, Z8A, Za1, ZaT, Za5, Zgf, ZaM, Zaz, Zal, Zas, ZaU, ZfJ, Zgj, ZfO, Zqg, Zez, ZeJ, Zes, ZnR, Zr0, Zq4, Zh7, Ze8, ZeS, Zeu, Ze0, Ze5, Zje, ZiR, Zi6, Zha, Zp6, Zh3, ZaH, ZaB, Z66, Z63, Z5Y, b_88, g0, g1, aMake, hrep, hflat, hk, hby, hul, hl1, hl2, hl4, l1, l2, if_pos]
             exact ⟨_, rfl⟩
           · rw [hcl]
             refine ⟨fun h => by simp at h, fun _ => ?_⟩
             simp only [h5S, h3H, cl0] at l1
             simp only [h2H, h3H] at hl2 hl4
             generalize fw ls.length (List.replicate ls.length 0) = FB at *
             simp (disch := omega) only [Z0o, ZjJ, Z8, ZJ, Zg, Z0e, Ze4, ↓gd, ZW, Zga, ZF, Zc, Za, Z2, Z1, Z3, Z0, Zl, Zd, Zx, Zi, Zw, Zo, Zm, stp, opPick, opBox, justO, just, Rd.bind, Rd.run, Rd.opt, upds, acells, zeroCells, tsz, elemT, rdCells, fieldOf, Ze, aLoad, aStore, opStore, resA, resL, fresh, aNum, aLen, Zh, aBin, aInt, putC, evO, Nat.reduceAdd, Nat.reduceLT, Nat.reduceBEq, Nat.reduceEqDiff, Nat.reduceLeDiff, ↓reduceIte, reduceCtorEq, Zf, decide_eq_true_eq, Nat.zero_add, Nat.add_zero, ne_eq, beq_iff_eq, List.nil_append, List.getElem?_toArray, Bool.and_true, decide_true, decide_false, not_true_eq_false, or_self, partsOf, fillA, Z7, Zk, and_true, true_and, Int.natCast_nonneg, Int.toNat_natCast, snaps, List.append_nil, Option.map_some, List.elem_cons, List.elem_nil, List.length_cons, List.length_nil, List.getElem?_cons_zero, List.getElem?_cons_succ, List.drop_zero, List.take_succ_cons, List.take_nil, List.set_cons_zero, List.set_cons_succ, Zp, seqN, bindN, regN, ZU, ZM, aBuild, placeF, Nat.le_refl, Nat.mul_one, List.not_mem_nil, beq_self_eq_true, Nat.lt_irrefl, Bool.false_eq_true, T_22, T_23, T_25, Z46, ZZ, Z18, beq_self_eq_true, Z69, Z31, Z3j, Z2Z, Z3a, Z6b, Z33, Z2V, Z39, Z3n, Z3l, Z5X, Z36, Z3d, Z38, Z3g, Z4z, Z37, Z35, Z3m, Z2T, Z4G, Z6d, Z48, Z3o, Z3c, Z3i, Z2U, Z3b, Z32, Z3k, Z4O, Z4U, Z4Z, Z5W, Z4R, Z50, Z4Q, Z4N, Z6a, Z65, Z5U, Z64, Z4q, Z62, Z67, Z68, ZaO, Z8p, Z7H, Z7f, Z7d, Z7e, Z6P, Zam, Z8o, Z87, Z7A, Z7Y, Z8A, Za1, ZaT, Za5, Zgf, ZaM, Zaz, Zal, Zas, ZaU, ZfJ, Zgj, ZfO, Zqg, Zez, ZeJ, Zes, ZnR, Zr0, Zq4, Zh7, Ze8, ZeS, Zeu, Ze0, Ze5, Zje, ZiR, Zi6, Z02e, ZBR, ZUD, ZUV, ZCv, Z02P, ZXJ, Zha, Zp6, Zh3, ZaH, ZaB, Z66, Z63, Z5Y, b_88, g0, g1, aMake, hrep, hflat, hk, hby, hul, hl1, hl2, hl4, l1, if_pos]
             exact ⟨_, rfl, rfl, rfl⟩
         · rcases Z0pj hC (ls := ls) (es := es) (e := e) (e2 := e2) rfl hn hm with ⟨hp, H', hl2, hl3⟩ | ⟨hp, hl2⟩
           · have hc : chk ls es = prsE ls.length es := by unfold chk; rw [if_neg hn0, if_neg h6, if_neg (by simp [hE]), if_pos hp]
             rw [hc]
             refine ⟨fun _ => ?_, fun h => absurd h hp⟩
             have hadj : adj ls.length [] = List.replicate ls.length 0 := rfl
             simp only [h2S, h2H, List.take_zero, hadj, cl0] at hl2
             simp (disch := omega) only [Z0o, Z8, ZJ, Zg, Z0e, ↓gd, ZW, ZF, Zc, Za, Z2, Z1, Z3, Z0, Zl, Zd, Zx, Zi, Zw, Zm, stp, opPick, opBox, justO, just, Rd.bind, Rd.run, Rd.opt, upds, acells, zeroCells, tsz, elemT, rdCells, fieldOf, Ze, aLoad, aStore, opStore, resA, resL, fresh, aNum, aLen, Zh, aBin, aInt, putC, evO, Nat.reduceAdd, Nat.reduceLT, Nat.reduceBEq, Nat.reduceEqDiff, Nat.reduceLeDiff, ↓reduceIte, reduceCtorEq, Zf, Nat.zero_add, Nat.add_zero, ne_eq, beq_iff_eq, List.nil_append, List.getElem?_toArray, Bool.and_true, decide_true, decide_false, not_true_eq_false, or_self, partsOf, fillA, Z7, Zk, and_true, true_and, Int.natCast_nonneg, Int.toNat_natCast, snaps, List.append_nil, Option.map_some, List.elem_cons, List.elem_nil, List.length_cons, List.length_nil, List.getElem?_cons_zero, List.getElem?_cons_succ, List.drop_zero, List.take_succ_cons, List.take_nil, List.set_cons_zero, List.set_cons_succ, Zp, seqN, bindN, regN, ZU, ZM, aBuild, placeF, Nat.le_refl, Nat.mul_one, List.not_mem_nil, beq_self_eq_true, Nat.lt_irrefl, Bool.false_eq_true, T_22, T_23, T_25, Z46, ZZ, Z18, beq_self_eq_true, Z69, Z31, Z3j, Z2Z, Z3a, Z6b, Z33, Z2V, Z39, Z3n, Z3l, Z5X, Z36, Z3d, Z38, Z3g, Z4z, Z37, Z35, Z3m, Z2T, Z4G, Z6d, Z48, Z3o, Z3c, Z3i, Z2U, Z3b, Z32, Z3k, Z4O, Z4U, Z4Z, Z5W, Z4R, Z50, Z4Q, Z4N, Z6a, Z65, Z5U, Z64, Z4q, Z62, Z67, Z68, ZaO, Z8p, Z7H, Z7f, Z7d, Z7e, Z6P, Zam, Z8o, Z87, Z7A, Z7Y, Z8A, Za1, ZaT, Za5, Zgf, ZaM, Zaz, Zal, Zas, ZaU, ZfJ, Zgj, ZfO, Zh3, ZaH, ZaB, Z66, Z63, Z5Y, b_88, g0, g1, g2, aMake, hrep, hflat, hk, hby, hl1, hl2, hl3, if_pos]
             exact ⟨_, rfl⟩
           · have hps := Zgw hp
             have hb0 := ZpB hps
             have hl4 := Z08R (C := C) (ls := ls) (B := adj ls.length es) (Z9V _ _) hb0 hn (s0 := ([(110, .int .i64 0), (109, .int .i64 ls.length), (5, .ptr 5 0 2), (4, .int .i64 ls.length), (2, .ptr 2 0 2)], h2H ls (.imm (cls lc ls) ls.length e) (.imm (cls bc es) es.length e2) ls.length (adj ls.length es))) rfl
             have hse : sets ls.length es = fw ls.length (adj ls.length es) := rfl
             have hul : (ucs (fw ls.length (adj ls.length es))).length = ls.length := by rw [Z0g]; exact Z9X _ _ _ |>.trans (Z9V _ _)
             have hul2 : (ucs (adj ls.length es)).length = ls.length := by rw [Z0g, Z9V]
             have hc0 : chk ls es = if clashB ls.length (sets ls.length es) = true then 13 else 0 := by
               unfold chk; rw [if_neg hn0, if_neg h6, if_neg (by simp [hE]), if_neg (by simp [hp])]
             rw [hc0, hse]
             have hadj : adj ls.length [] = List.replicate ls.length 0 := rfl
             simp only [h2S, h2H, List.take_zero, hadj, cl0] at hl2
             simp only [h2H, h3H] at hl4
             rcases Z0bp (C := C) (ls := ls) (n := ls.length) (B := fw ls.length (adj ls.length es)) (Z9X _ _ _ |>.trans (Z9V _ _)) (Zgz hb0 _ _) hn with ⟨hcl, H', l1, l2⟩ | ⟨hcl, l1⟩
             · rw [hcl]
               refine ⟨fun _ => ?_, fun h => by simp at h⟩
               simp only [h5S, h3H, cl0] at l1
               generalize fw ls.length (adj ls.length es) = FB at *
               simp (disch := omega) only [Z0o, Z8, ZJ, Zg, Z0e, ↓gd, ZW, ZF, Zc, Za, Z2, Z1, Z3, Z0, Zl, Zd, Zx, Zi, Zw, Zo, Zm, stp, opPick, opBox, justO, just, Rd.bind, Rd.run, Rd.opt, upds, acells, zeroCells, tsz, elemT, rdCells, fieldOf, Ze, aLoad, aStore, opStore, resA, resL, fresh, aNum, aLen, Zh, aBin, aInt, putC, evO, Nat.reduceAdd, Nat.reduceLT, Nat.reduceBEq, Nat.reduceEqDiff, Nat.reduceLeDiff, ↓reduceIte, reduceCtorEq, Zf, Nat.zero_add, Nat.add_zero, ne_eq, beq_iff_eq, List.nil_append, List.getElem?_toArray, Bool.and_true, decide_true, decide_false, not_true_eq_false, or_self, partsOf, fillA, Z7, Zk, and_true, true_and, Int.natCast_nonneg, Int.toNat_natCast, snaps, List.append_nil, Option.map_some, List.elem_cons, List.elem_nil, List.length_cons, List.length_nil, List.getElem?_cons_zero, List.getElem?_cons_succ, List.drop_zero, List.take_succ_cons, List.take_nil, List.set_cons_zero, List.set_cons_succ, Zp, seqN, bindN, regN, ZU, ZM, aBuild, placeF, Nat.le_refl, Nat.mul_one, List.not_mem_nil, beq_self_eq_true, Nat.lt_irrefl, Bool.false_eq_true, T_22, T_23, T_25, Z46, ZZ, Z18, beq_self_eq_true, Z69, Z31, Z3j, Z2Z, Z3a, Z6b, Z33, Z2V, Z39, Z3n, Z3l, Z5X, Z36, Z3d, Z38, Z3g, Z4z, Z37, Z35, Z3m, Z2T, Z4G, Z6d, Z48, Z3o, Z3c, Z3i, Z2U, Z3b, Z32, Z3k, Z4O, Z4U, Z4Z, Z5W, Z4R, Z50, Z4Q, Z4N, Z6a, Z65, Z5U, Z64, Z4q, Z62, Z67, Z68, ZaO, Z8p, Z7H, Z7f, Z7d, Z7e, Z6P, Zam, Z8o, Z87, Z7A, Z7Y, Z8A, Za1, ZaT, Za5, Zgf, ZaM, Zaz, Zal, Zas, ZaU, ZfJ, Zgj, ZfO, Zqg, Zez, ZeJ, Zes, ZnR, Zr0, Zq4, Zh7, Ze8, ZeS, Zeu, Ze0, Ze5, Zje, ZiR, Zi6, Zha, Zp6, Zh3, ZaH, ZaB, Z66, Z63, Z5Y, b_88, g0, g1, g2, aMake, hrep, hflat, hk, hby, hul, hl1, hl2, hl4, l1, l2, if_pos]
               exact ⟨_, rfl⟩
             · rw [hcl]
               refine ⟨fun h => by simp at h, fun _ => ?_⟩
               simp only [h5S, h3H, cl0] at l1
               generalize fw ls.length (adj ls.length es) = FB at *
               simp (disch := omega) only [Z8, ZJ, Zg, ↓gd, ZW, ZF, Zc, Za, Z2, Z1, Z3, Z0, Zl, Zd, Zx, Zi, Zw, Zo, Zm, stp, opPick, opBox, justO, just, Rd.bind, Rd.run, Rd.opt, upds, acells, zeroCells, tsz, elemT, rdCells, fieldOf, Ze, aLoad, aStore, opStore, resA, resL, fresh, aNum, aLen, Zh, aBin, aInt, putC, evO, Nat.reduceAdd, Nat.reduceLT, Nat.reduceBEq, Nat.reduceEqDiff, Nat.reduceLeDiff, ↓reduceIte, reduceCtorEq, Zf, Nat.zero_add, Nat.add_zero, ne_eq, beq_iff_eq, List.nil_append, List.getElem?_toArray, Bool.and_true, decide_true, decide_false, not_true_eq_false, or_self, partsOf, fillA, Z7, Zk, and_true, true_and, Int.natCast_nonneg, Int.toNat_natCast, snaps, List.append_nil, Option.map_some, List.elem_cons, List.elem_nil, List.length_cons, List.length_nil, List.getElem?_cons_zero, List.getElem?_cons_succ, List.drop_zero, List.take_succ_cons, List.take_nil, List.set_cons_zero, List.set_cons_succ, Zp, seqN, bindN, regN, ZU, ZM, aBuild, placeF, Nat.le_refl, Nat.mul_one, List.not_mem_nil, beq_self_eq_true, Nat.lt_irrefl, Bool.false_eq_true, T_22, T_23, T_25, Z46, ZZ, Z18, beq_self_eq_true, Z69, Z31, Z3j, Z2Z, Z3a, Z6b, Z33, Z2V, Z39, Z3n, Z3l, Z5X, Z36, Z3d, Z38, Z3g, Z4z, Z37, Z35, Z3m, Z2T, Z4G, Z6d, Z48, Z3o, Z3c, Z3i, Z2U, Z3b, Z32, Z3k, Z4O, Z4U, Z4Z, Z5W, Z4R, Z50, Z4Q, Z4N, Z6a, Z65, Z5U, Z64, Z4q, Z62, Z67, Z68, ZaO, Z8p, Z7H, Z7f, Z7d, Z7e, Z6P, Zam, Z8o, Z87, Z7A, Z7Y, Z8A, Za1, ZaT, Za5, Zgf, ZaM, Zaz, Zal, Zas, ZaU, ZfJ, Zgj, ZfO, Zqg, Zez, ZeJ, Zes, ZnR, Zr0, Zq4, Zh7, Ze8, ZeS, Zeu, Ze0, Ze5, Zje, ZiR, Zi6, Z02e, ZBR, ZUD, ZUV, ZCv, Z02P, ZXJ, Zha, Zp6, Zh3, ZaH, ZaB, Z66, Z63, Z5Y, b_88, g0, g1, g2, aMake, hrep, hflat, hk, hby, hul, hl1, hl2, hl4, l1, if_pos]
               exact ⟨_, rfl, rfl, rfl⟩
theorem ZyC {C : Callee} {site : Nat → Nat} {seen : List Nat} {f : FuncId} {args : List AV} {id id' n n' g g' sz sz' : Nat} {cells cells' : List AV} {k : IntKind} {z : Int} {H' : AHeap} (h : C f args [] 0 = some (.tup [.agg [.ref id 0 n n g sz false, .ref id' 0 n' n' g' sz' false], .int k z], H')) (hg : hget H' id = some ⟨.row, cells⟩) (hg' : hget H' id' = some ⟨.row, cells'⟩) (hne : id' ≠ id) (hs : site 1 ≠ site 0) (e1 : cells.length = g) (e2 : cells'.length = g') :
   aBack site true seen (thaw C f args [] 0) = Z91 (site 0) (site 1) seen (fun k0 k1 => .tup [.agg [.ref k0 0 n n g sz false, .ref k1 0 n' n' g' sz' false], .int k z]) ⟨.row, cells⟩ ⟨.row, cells'⟩ := by
 subst e1; subst e2
 have hb : ∀ off, (site 1 + off == site 0 + off) = false := fun off => by rw [beq_eq_false_iff_ne]; omega
 simp only [thaw, h, frzRet, aBack, sitesB, aBackAt, imp, imps, hg, hg', hne, hb, List.length_nil, List.length_cons, List.not_mem_nil, List.mem_cons, or_false, not_false_eq_true, and_true, if_true, List.map_cons, List.map_nil, AM.apart, List.elem_cons, List.elem_nil, Bool.not_false, Bool.and_true, AV.leads, AV.leads.leadsL, Bool.or_false, Bool.true_or, Nat.zero_add, Z91]
theorem Z0ps {d : Nat} {site : Nat → Nat} {seen : List Nat} {ls : List Ld} {es : List Pr} {a b : AV} (ha : SV lc ls a) (hb : SV bc es b) (h : chk ls es ≠ 0) :
   aBack site true seen (thaw (callA E fg 1000 (d + 3)) 88 [.agg [a, b]] [] 0) = .pure (.tup [.agg [.nilsl, .nilsl], .int .i64 (chk ls es)], []) := by
 obtain ⟨H', h1⟩ := (Z09j (haC d) ha hb).1 h
 exact Z2L h1 rfl (fun _ => rfl) rfl
theorem Z9U {d : Nat} {site : Nat → Nat} {seen : List Nat} {ls : List Ld} {es : List Pr} {a b : AV} (ha : SV lc ls a) (hb : SV bc es b) (h : chk ls es = 0) (hs : site 1 ≠ site 0) :
   aBack site true seen (thaw (callA E fg 1000 (d + 3)) 88 [.agg [a, b]] [] 0) =
     Z91 (site 0) (site 1) seen (fun k k' => .tup [.agg [.ref k 0 ls.length ls.length (ls.length * 5) 5 false, .ref k' 0 ls.length ls.length ls.length 1 false], .int .i64 0]) ⟨.row, cls lc ls⟩ ⟨.row, ucs (sets ls.length es)⟩ := by
 obtain ⟨H', h1, h2, h3⟩ := (Z09j (haC d) ha hb).2 h
 have := Z59 h
 exact ZyC h1 h2 h3 (by omega) hs (ZA ZX ls) (by rw [Z0g, this.1.b])
theorem Zyh {d : Nat} {site : Nat → Nat} {seen : List Nat} {ls : List Ld} {B : List Nat} {n : Nat} {e1 e2 : Bool} (h : TrOk ls B n) (hT : Ord (bit B)) :
   aBack site true seen (thaw (callA E fg 1000 (d + 6)) 89 [.agg (trA ls B n e1 e2)] [] 0) = Z15 (site 0) seen (fun j => .tup [.ref j 0 n n n 1 false, .int .i64 (ruC ls B n)]) ⟨.row, ins (ruO ls B n)⟩ := by
 obtain ⟨H', h1, h2⟩ := Z0eY (d := d) (e1 := e1) (e2 := e2) h hT
 have hlen : (ins (ruO ls B n)).length = n := by rw [Zu, ← ZUo h hT, List.length_reverse, Zgd]
 have := ZgI (site := site) (seen := seen) (C := callA E fg 1000 (d + 6)) (f := 89) (args := [.agg (trA ls B n e1 e2)]) (id := 37) (n := n) (sz := 1) (k := .i64) (z := ruC ls B n) (cells := ins (ruO ls B n)) (H' := H') (by rw [hlen]; exact h1) h2
 rw [hlen] at this
 exact this
end Go.AM.YtgfnbmfjbjopkaaDoor
end
noncomputable section
namespace Go.AM.YtgfnbmfjbjopkaaDoor
open Go Go.AM Go.AM.Mule
theorem Z2s {α : Type} {f : α → List AV} {l : List α} {a : AV} (h : SV f l a) (n : Nat) : snap (n + 1) a = .pure (a, []) := by
 rcases h with ⟨_, rfl⟩ | ⟨e, rfl⟩ <;> rfl
theorem Z06A {d : Nat} {ls : List Ld} {es : List Pr} {a b : AV} (ha : SV lc ls a) (hb : SV bc es b) (h : chk ls es = 0) :
   rsOf (bodyA E (callA E fg 1000 (d + 6)) fg 1000 19 [.agg [a, b]] [] 0) = some (.tup [.int .i64 (ruC ls (sets ls.length es) ls.length), .int .i64 0]) := by
 have hr := fun (site : Nat → Nat) seen hs => Z9U (d := d + 3) (site := site) (seen := seen) ha hb h hs
 obtain ⟨tr, ord, _, _⟩ := Z59 h
 have hu := fun (site : Nat → Nat) seen => Zyh (d := d) (site := site) (seen := seen) (e1 := false) (e2 := false) tr ord
 have sa := Z2s ha
 have sb := Z2s hb
 have hlen : (cls lc ls).length = ls.length * 5 := ZA ZX ls
 have hul : (ucs (sets ls.length es)).length = ls.length := by rw [Z0g, tr.b]
 generalize callA E fg 1000 (d + 6) = C at *
 generalize sets ls.length es = B at *
 have t1 : List.take (ls.length * 5) (cls lc ls) = cls lc ls := Z7n ZX ls
 have t2 : List.take ls.length (ucs B) = ucs B := List.take_of_length_le (by omega)
 simp (disch := omega) only [Z8, ZF, Zc, Za, Z2, Z0G, Z1, Z3, Z0, Zl, Zd, Zx, Zi, Zw, Zm, stp, opBox, justO, just, Rd.bind, Rd.run, Rd.opt, upds, acells, zeroCells, tsz, rdCells, aLoad, aStore, opStore, Zy, resA, resL, fresh, aBin, aInt, putC, Nat.reduceAdd, Nat.reduceMul, Nat.reduceBEq, Nat.reduceEqDiff, Nat.reduceLeDiff, ↓reduceIte, reduceCtorEq, Zf, Nat.zero_add, List.nil_append, Bool.and_true, decide_true, Z7, Zk, and_true, aCall, snaps, List.append_nil, Option.map_some, List.elem_cons, List.elem_nil, List.length_cons, List.length_nil, List.getElem?_cons_zero, List.getElem?_cons_succ, List.drop_zero, List.take_succ_cons, List.take_nil, List.set_cons_zero, List.set_cons_succ, Zp, Zct, Z73, seqN, bindN, regN, ZM, ZQ, Z1o, Z5K, List.cons_append, Nat.le_refl, Nat.mul_one, Nat.zero_mul, beq_self_eq_true, bne_self_eq_false, Bool.false_eq_true, T_25, ZZ, beq_self_eq_true, Z0sY, Z0nw, Z0jE, Z0nt, Z0nd, Z0qO, Z0jW, Z0j3, Z0nJ, Z0ir, Z0hQ, Z0kr, Z0lC, Z0i3, Z0md, Z0rS, Z0mP, Z0jF, Z0nh, Z0sb, Z0nj, Z0ib, Z0nG, Z0nL, Z0nT, Z0sD, Z0oy, Z0su, Z0t8, Z0qA, Z0lQ, Z0hK, Z0i5, Z0jC, Z0mM, Z0hX, Z0nl, Z0lb, Z0pR, Z0lw, Z0na, Z0lT, Z0jG, Z0pw, Z0o9, Z0pK, Z0sL, Z0t9, Z0rI, b_19, sa 196, sb 195, hr, hlen, hul, t1, t2, hu]
theorem Z0ar {d : Nat} {ls : List Ld} {es : List Pr} {a b : AV} (ha : SV lc ls a) (hb : SV bc es b) :
   rsOf (bodyA E (callA E fg 1000 (d + 3)) fg 1000 68 [.agg [a, b]] [] 0) = some (.int .i64 (chk ls es)) := by
 have sa := Z2s ha
 have sb := Z2s hb
 by_cases h : chk ls es = 0
 · have hr := fun (site : Nat → Nat) seen hs => Z9U (d := d) (site := site) (seen := seen) ha hb h hs
   rw [h]
   generalize callA E fg 1000 (d + 3) = C at *
   simp (disch := omega) only [ZF, Zc, Za, Z2, Z0G, Z1, Z3, Z0, Zl, Zd, Zx, Zi, Zw, Zm, stp, opBox, justO, just, Rd.bind, Rd.run, Rd.opt, upds, acells, zeroCells, tsz, rdCells, aLoad, aStore, opStore, Zy, resA, resL, fresh, putC, Nat.reduceAdd, Nat.reduceMul, Nat.reduceBEq, Nat.reduceEqDiff, Nat.reduceLeDiff, ↓reduceIte, reduceCtorEq, Zf, Nat.zero_add, List.nil_append, Bool.and_true, decide_true, Z7, Zk, and_true, aCall, snaps, List.append_nil, Option.map_some, List.elem_cons, List.elem_nil, List.length_cons, List.length_nil, List.getElem?_cons_zero, List.getElem?_cons_succ, List.drop_zero, List.take_succ_cons, List.take_nil, List.set_cons_zero, List.set_cons_succ, Zp, seqN, bindN, regN, ZM, ZQ, Z5K, Nat.le_refl, Nat.mul_one, Nat.zero_mul, beq_self_eq_true, Bool.false_eq_true, T_25, ZZ, beq_self_eq_true, Z0hv, ZWM, ZVK, Z03E, Z0ht, Z029, Z00D, ZVE, ZZh, Z04V, Z042, ZYk, Z01x, ZVN, Z0hm, ZZp, Z05L, ZXf, Z0hu, Z0hn, Z0hg, Z0hs, b_68, sa 196, sb 195, hr]
 · have hr := fun (site : Nat → Nat) seen => Z0ps (d := d) (site := site) (seen := seen) ha hb h
   generalize callA E fg 1000 (d + 3) = C at *
   simp (disch := omega) only [ZF, Zc, Za, Z2, Z0G, Z1, Z3, Z0, Zl, Zd, Zx, Zi, Zw, Zm, stp, opBox, justO, just, Rd.bind, Rd.run, Rd.opt, upds, acells, zeroCells, tsz, rdCells, aLoad, aStore, opStore, Zy, resA, resL, fresh, putC, Nat.reduceAdd, Nat.reduceBEq, Nat.reduceEqDiff, Nat.reduceLeDiff, ↓reduceIte, reduceCtorEq, Zf, Nat.zero_add, List.nil_append, Z7, Zk, and_true, aCall, snaps, List.append_nil, Option.map_some, List.elem_cons, List.elem_nil, List.length_cons, List.length_nil, List.getElem?_cons_zero, List.getElem?_cons_succ, List.drop_zero, List.take_succ_cons, List.take_nil, List.set_cons_zero, List.set_cons_succ, Zp, seqN, bindN, regN, ZU, ZQ, Nat.le_refl, List.not_mem_nil, beq_self_eq_true, Bool.false_eq_true, T_25, ZZ, beq_self_eq_true, Z0hv, ZWM, ZVK, Z03E, Z0ht, Z029, Z00D, ZVE, ZZh, Z04V, Z042, ZYk, Z01x, ZVN, Z0hm, ZZp, Z05L, ZXf, Z0hu, Z0hn, Z0hg, Z0hs, b_68, sa 196, sb 195, hr]
end Go.AM.YtgfnbmfjbjopkaaDoor
end
noncomputable section
namespace Go.AM.YtgfnbmfjbjopkaaDoor
open Go Go.AM Go.AM.Mule
theorem Z0pb {i : Nat} (h : i < 6) : 1 <<< i < 64 := by
 have : i = 0 ∨ i = 1 ∨ i = 2 ∨ i = 3 ∨ i = 4 ∨ i = 5 := by omega
 rcases this with e | e | e | e | e | e <;> rw [e] <;> decide
structure LiC (C : Callee) : Prop where
 nil : ∀ (site : Nat → Nat) seen, aBack site true seen (thaw C 97 [.int .u64 0] [] 0) = .pure (.nilsl, [])
 ref : ∀ (site : Nat → Nat) seen (s : Nat), s < 64 → s ≠ 0 → aBack site true seen (thaw C 97 [.int .u64 (s : Int)] [] 0) = Z15 (site 0) seen (fun k => .ref k 0 (lst s).length (lst s).length (lst s).length 1 false) ⟨.row, ins (lst s)⟩
theorem liC (d : Nat) : LiC (callA E fg 1000 (d + 4)) := ⟨fun site seen => ZMp (d := d) (site := site) (seen := seen), fun site seen s h h0 => Zm4 (d := d) (s := s) (site := site) (seen := seen) h h0⟩
end Go.AM.YtgfnbmfjbjopkaaDoor
end
noncomputable section
namespace Go.AM
theorem ZaE {f : St → XR} {hd : St → St} {e : Ex} {P : Nat → St → Prop} {Q : St → Prop} (hne : e ≠ .normal) : ∀ (n F k : Nat) (s0 : St), P k (hd s0) → n < F → (∀ i s, k ≤ i → i < k + n → P i s → ∃ s', f s = some (.normal, s') ∧ P (i + 1) (hd s')) → (∀ s, P (k + n) s → ∃ s', f s = some (e, s') ∧ Q s') → ∃ se, iterA f hd F s0 = some (e, se) ∧ Q se
 | 0, F + 1, k, s0, h0, _, _, he => by
   rw [Nat.add_zero] at he
   obtain ⟨s', h1, h2⟩ := he _ h0
   refine ⟨s', ?_, h2⟩
   rw [Z61, h1]
   cases e with
   | normal => exact absurd rfl hne
   | ret => rfl
   | exit i => rfl
 | n + 1, F + 1, k, s0, h0, hF, h, he => by
   obtain ⟨s', h1, h2⟩ := h k _ (Nat.le_refl _) (by omega) h0
   obtain ⟨se, g1, g2⟩ := ZaE (P := P) (Q := Q) hne n F (k + 1) s' h2 (by omega) (fun i s a b => h i s (by omega) (by omega)) (by rw [show k + 1 + n = k + (n + 1) by omega]; exact he)
   refine ⟨se, ?_, g2⟩
   rw [Z61, h1, Zji]
   exact g1
 | _, 0, _, _, _, hF, _, _ => absurd hF (by omega)
end Go.AM
namespace Go.AM.YtgfnbmfjbjopkaaDoor
open Go Go.AM Go.AM.Mule
def cntN (ls : List Ld) (B : List Nat) (lim : Int) (s : Nat) : Nat := cntD (bit B) (hiF ls) (cF ls) lim (lst s).length (lst s)
theorem ZYm {T : Nat → Nat → Bool} {d : Nat → Int} {c : Nat → Int → Int} {lim : Int} : ∀ (m : Nat) (S : List Nat), S.length ≤ 6 → cntD T d c lim m S ≤ 6 ^ m
 | 0, _, _ => by simp [cntD]
 | m + 1, [], _ => by simp only [cntD]; exact Nat.one_le_pow _ _ (by omega)
 | m + 1, x :: r, h => by
   simp only [cntD]
   have key : ∀ l : List Nat, ((l.map fun i => cntD T d c lim m ((x :: r).erase i)).sum) ≤ l.length * 6 ^ m := by
     intro l
     induction l with
     | nil => simp
     | cons a l ih =>
       have := ZYm (T := T) (d := d) (c := c) (lim := lim) m ((x :: r).erase a) (Nat.le_trans (List.length_erase_le ..) h)
       simp only [List.map_cons, List.sum_cons, List.length_cons, Nat.succ_mul]
       omega
   refine Nat.le_trans (key _) ?_
   have h1 : ((lastsL T (x :: r)).filter fun i => decide (c i (days d (x :: r)) ≤ lim)).length ≤ 6 := Nat.le_trans (List.length_filter_le ..) (Nat.le_trans (List.length_filter_le ..) h)
   rw [Nat.pow_succ, Nat.mul_comm]
   exact Nat.mul_le_mul_left _ h1
theorem Zu4 (ls B lim) (s : Nat) : cntN ls B lim s ≤ 46656 := by
 have h := Z4V s
 refine Nat.le_trans (ZYm _ _ h) ?_
 exact Nat.pow_le_pow_right (n := 6) (by omega) h
theorem Zx8 (ls B lim) : cntN ls B lim 0 = 1 := rfl
def delS (s i : Nat) : Nat := s &&& (63 - 1 <<< i)
theorem Z0db {ls : List Ld} {B : List Nat} {lim : Int} {s : Nat} (hs : s < 64) (h0 : s ≠ 0) : cntN ls B lim s = (((lsL B s).filter fun i => decide (cF ls i (daysS ls s) ≤ lim)).map fun i => cntN ls B lim (delS s i)).sum := by
 have hp := Z025 hs h0
 have he : ∀ i ∈ lsL B s, lst (delS s i) = (lst s).erase i ∧ (lst (delS s i)).length + 1 = (lst s).length := by
   intro i hi
   have hm := ZcZ hi
   have e := ZgV s hs i (ZSy hm)
   refine ⟨e, ?_⟩
   show (lst (s &&& _)).length + 1 = _
   rw [e, List.length_erase_of_mem hm]; omega
 unfold cntN
 obtain ⟨m, hm⟩ : ∃ m, (lst s).length = m + 1 := ⟨(lst s).length - 1, by omega⟩
 rw [hm]
 have e1 : cntD (bit B) (hiF ls) (cF ls) lim (m + 1) (lst s) = (((lastsL (bit B) (lst s)).filter fun i => decide (cF ls i (days (hiF ls) (lst s)) ≤ lim)).map fun i => cntD (bit B) (hiF ls) (cF ls) lim m ((lst s).erase i)).sum := by
   cases hl : lst s with
   | nil => rw [hl] at hm; simp at hm
   | cons x r => simp only [cntD]
 rw [e1]
 show ((List.filter (fun i => decide (cF ls i (daysS ls s) ≤ lim)) (lsL B s)).map _).sum = _
 congr 1
 apply List.map_congr_left
 intro i hi
 obtain ⟨a, b⟩ := he i (List.mem_filter.1 hi).1
 rw [a, List.length_erase_of_mem (ZcZ (List.mem_filter.1 hi).1), hm]
 rfl
theorem Z0pV {s i : Nat} (h : s < 64) (hi : i ∈ lst s) : delS s i < s := by
 have h1 : delS s i ≤ s := Nat.and_le_left
 have h2 : delS s i ≠ s := by
   intro e
   have := ZgV s h i (ZSy hi)
   rw [show s &&& (63 - 1 <<< i) = s from e] at this
   have h3 := congrArg List.length this
   rw [List.length_erase_of_mem hi] at h3
   have := List.length_pos_of_mem hi
   omega
 omega
def psum (ls : List Ld) (B : List Nat) (lim : Int) (s j : Nat) : Nat := ((((lsL B s).take j).filter fun i => decide (cF ls i (daysS ls s) ≤ lim)).map fun i => cntN ls B lim (delS s i)).sum
theorem Zgc {ls : List Ld} {B : List Nat} {lim : Int} {s j i : Nat} (h : (lsL B s)[j]? = some i) : psum ls B lim s (j + 1) = psum ls B lim s j + if cF ls i (daysS ls s) ≤ lim then cntN ls B lim (delS s i) else 0 := by
 unfold psum
 rw [List.take_add_one, h, Option.toList_some, List.filter_append, List.map_append, List.sum_append]
 congr 1
 by_cases hc : cF ls i (daysS ls s) ≤ lim
 · rw [if_pos hc]; simp [hc]
 · rw [if_neg hc]; simp [hc]
theorem ZhM (ls B lim) (s : Nat) : ∀ j, psum ls B lim s j ≤ j * 46656
 | 0 => by simp [psum]
 | j + 1 => by
   by_cases hj : j < (lsL B s).length
   · rw [Zgc (List.getElem?_eq_getElem hj)]
     have := ZhM ls B lim s j
     have := Zu4 ls B lim (delS s (lsL B s)[j])
     split <;> omega
   · have e : psum ls B lim s (j + 1) = psum ls B lim s j := by
       unfold psum; rw [List.take_of_length_le (by omega), List.take_of_length_le (by omega)]
     have := ZhM ls B lim s j
     omega
theorem ZOu {ls : List Ld} {B : List Nat} {lim : Int} {s : Nat} (hs : s < 64) (h0 : s ≠ 0) : psum ls B lim s (lsL B s).length = cntN ls B lim s := by
 rw [Z0db hs h0]; unfold psum; rw [List.take_length]
structure Part (N : Nat) (F : Nat → Nat) (s v : Nat) (os : List Nat) : Prop where
 len : os.length = N
 lt : ∀ t, t < s → os.getD t 0 = F t
 at_ : os.getD s 0 = v
 gt : ∀ t, s < t → t < N → os.getD t 0 = 0
theorem ZQf {N : Nat} {F : Nat → Nat} {s v w : Nat} {os : List Nat} (h : Part N F s v os) (hs : s < N) : Part N F s w (os.set s w) := by
 have hl : s < os.length := by rw [h.len]; exact hs
 refine ⟨by rw [List.length_set, h.len], fun t ht => ?_, ?_, fun t h1 h2 => ?_⟩
 · rw [Z3u _ _ _ _ hl, if_neg (by omega)]; exact h.lt t ht
 · rw [Z3u _ _ _ _ hl, if_pos rfl]
 · rw [Z3u _ _ _ _ hl, if_neg (by omega)]; exact h.gt t h1 h2
end Go.AM.YtgfnbmfjbjopkaaDoor
end
noncomputable section
namespace Go.AM.YtgfnbmfjbjopkaaDoor
open Go Go.AM Go.AM.Mule
abbrev ciS (ls : List Ld) (B : List Nat) (n : Nat) (e1 e2 : Bool) (lim : Int) (N s j : Nat) (first : Bool) (cs : List Int) (os hs : List Nat) : St :=
 ([(39, .int .i64 j), (38, .int .i64 (lsL B s).length), (37, .ref 37 0 (lsL B s).length (lst s).length (lst s).length 1 false), (9, .bool first), (8, .int .u64 (s : Int)), (6, .ref 24 0 N N N 1 false), (5, .ref 22 0 N N N 1 false), (4, .ref 20 0 N N N 1 false), (2, .ptr 2 0 2), (1, .int .i64 lim)],
   [(2, ⟨.box, trA ls B n e1 e2⟩), (20, ⟨.row, ics cs⟩), (22, ⟨.row, ins os⟩), (24, ⟨.row, ins hs⟩), (37, ⟨.row, lsCells B s⟩)])
structure CoC (C : Callee) (ls : List Ld) (B : List Nat) (n : Nat) (e1 e2 : Bool) : Prop where
 all : ∀ (site : Nat → Nat) seen, aBack site true seen (thaw C 95 [.agg (trA ls B n e1 e2)] [] 0) = .pure (.int .u64 ((2 ^ n - 1 : Nat) : Int), [])
 lasts : ∀ (site : Nat → Nat) seen (s : Nat), s < 2 ^ n → s ≠ 0 → aBack site true seen (thaw C 128 [.agg (trA ls B n e1 e2), .int .u64 (s : Int)] [] 0) = Z15 (site 0) seen (fun k => .ref k 0 (lsL B s).length (lst s).length (lst s).length 1 false) ⟨.row, lsCells B s⟩
 days : ∀ (site : Nat → Nat) seen (s : Nat), s < 2 ^ n → aBack site true seen (thaw C 100 [.agg (trA ls B n e1 e2), .int .u64 (s : Int)] [] 0) = .pure (.int .i64 (daysS ls s), [])
 cost : ∀ (site : Nat → Nat) seen l day, LdOk l → 0 ≤ day ∧ day ≤ 1000 → aBack site true seen (thaw C 99 [.agg (lc l), .int .i64 day] [] 0) = .pure (.int .i64 (ldC l day), [])
theorem coC {ls : List Ld} {B : List Nat} {n : Nat} (h : TrOk ls B n) (d : Nat) (e1 e2 : Bool) : CoC (callA E fg 1000 (d + 5)) ls B n e1 e2 :=
 ⟨fun _ _ => Zai h.le, fun _ _ _ a b => ZoD h a b, fun _ _ _ a => Zgy h a, fun _ _ _ _ a b => ZgQ a b⟩
theorem lsAt {B : List Nat} {s j i : Nat} (hj : (lsL B s)[j]? = some i) : (lsCells B s)[j]? = some (.int .i64 (i : Int)) := by
 have hl := (List.getElem?_eq_some_iff.1 hj).1
 unfold lsCells
 refine Z10 ?_
 rw [List.getElem?_append_left hl]; exact hj
theorem Z0rC {C : Callee} {ls : List Ld} {B : List Nat} {n : Nat} {e1 e2 : Bool} (hC : CoC C ls B n e1 e2) {lim : Int} (h : TrOk ls B n) {s : Nat} (hs : s < 2 ^ n) (_ : s ≠ 0) (j : Nat) (hj : j < (lsL B s).length) {first : Bool} {cs : List Int} {os hs' : List Nat} (hcs : cs.length = 2 ^ n)
   (hos : Part (2 ^ n) (cntN ls B 100000) s (psum ls B 100000 s j) os) (hhs : Part (2 ^ n) (cntN ls B lim) s (psum ls B lim s j) hs') :
   ∃ s', (execA E C (fg 94) 0 102 [] 1000 Za2) (ciS ls B n e1 e2 lim (2 ^ n) s j first cs os hs') = some (.normal, s') ∧ ∃ cs2 os2 hs2, cs2.length = 2 ^ n ∧ Part (2 ^ n) (cntN ls B 100000) s (psum ls B 100000 s (j + 1)) os2 ∧ Part (2 ^ n) (cntN ls B lim) s (psum ls B lim s (j + 1)) hs2 ∧
     headA [] s' = ciS ls B n e1 e2 lim (2 ^ n) s (j + 1) false cs2 os2 hs2 := by
 have h64 := lt64 h.le hs
 have hk : (lsL B s)[j]? = some (lsL B s)[j] := List.getElem?_eq_getElem hj
 have hmem := List.getElem_mem hj
 have hi6 := Z5P h.le hs _ (ZcZ hmem)
 obtain ⟨y, y1, y2, y3⟩ := Zqx h hi6
 have hdb := ZuP h hs
 have hdays := fun site seen => hC.days site seen s hs
 have hcost := fun site seen => hC.cost site seen y (daysS ls s) y2 (by omega)
 have hdl := Z0pV h64 (ZcZ hmem)
 have hpo := Zgc (ls := ls) (lim := 100000) hk
 have hph := Zgc (ls := ls) (lim := lim) hk
 rw [if_pos (by rw [y3]; have := ZnY y2 (show 0 ≤ daysS ls s ∧ daysS ls s ≤ 1000 by omega); omega)] at hpo
 rw [y3] at hph
 have bo := ZhM ls B 100000 s j
 have bh := ZhM ls B lim s j
 have b1 := Zu4 ls B 100000 (delS s (lsL B s)[j])
 have b2 := Zu4 ls B lim (delS s (lsL B s)[j])
 have hl6 := Z4V s
 have hle := ZnO B s
 have ay := Z1l ZX y1
 have hlen : (cls lc ls).length = n * 5 := by rw [ZA ZX, h.l]
 have hls := lsAt hk
 have hlsl := Z8P B s
 have hshl := Zzn (i := (lsL B s)[j]) (by have := h.le; omega)
 have han := ZfH h64 (Z0pb (show (lsL B s)[j] < 6 by have := h.le; omega))
 rw [show s &&& (63 - 1 <<< (lsL B s)[j]) = delS s (lsL B s)[j] from rfl] at han
 have o1 := hos.lt _ hdl
 have o2 := hos.at_
 have p1 := hhs.lt _ hdl
 have p2 := hhs.at_
 have co1 : cs[delS s (lsL B s)[j]]? = some (cs.getD (delS s (lsL B s)[j]) 0) := Z08 (l := cs) (by omega)
 have co2 : cs[s]? = some (cs.getD s 0) := Z08 (l := cs) (by omega)
 have oo1 : os[delS s (lsL B s)[j]]? = some (os.getD (delS s (lsL B s)[j]) 0) := Z08 (l := os) (by rw [hos.len]; omega)
 have oo2 : os[s]? = some (os.getD s 0) := Z08 (l := os) (by rw [hos.len]; omega)
 have ho1 : hs'[delS s (lsL B s)[j]]? = some (hs'.getD (delS s (lsL B s)[j]) 0) := Z08 (l := hs') (by rw [hhs.len]; omega)
 have ho2 : hs'[s]? = some (hs'.getD s 0) := Z08 (l := hs') (by rw [hhs.len]; omega)
 rw [o1] at oo1; rw [o2] at oo2; rw [p1] at ho1; rw [p2] at ho2
 have co1' := ZnA co1
 have co2' := ZnA co2
 have oo1' := Z10 oo1
 have oo2' := Z10 oo2
 have ho1' := Z10 ho1
 have ho2' := Z10 ho2
 have cl1 : (ics cs).length = 2 ^ n := by rw [Z0r, hcs]
 have ol1 : (ins os).length = 2 ^ n := by rw [Zu, hos.len]
 have hl1 : (ins hs').length = 2 ^ n := by rw [Zu, hhs.len]
 have gs : (s : Int) < (2 ^ n : Nat) := by omega
 have gdl : (delS s (lsL B s)[j] : Int) < (2 ^ n : Nat) := by omega
 have gi : (j : Int) < (lsL B s).length := by omega
 have gp : ((lsL B s)[j] : Int) < n := by omega
 have wo : wrp .i64 ((psum ls B 100000 s j : Int) + (cntN ls B 100000 (delS s (lsL B s)[j]) : Int)) = ((psum ls B 100000 s j + cntN ls B 100000 (delS s (lsL B s)[j]) : Nat) : Int) := by rw [Z0i (by omega)]; omega
 have wh : wrp .i64 ((psum ls B lim s j : Int) + (cntN ls B lim (delS s (lsL B s)[j]) : Int)) = ((psum ls B lim s j + cntN ls B lim (delS s (lsL B s)[j]) : Nat) : Int) := by rw [Z0i (by omega)]; omega
 have so := Z9N os s (psum ls B 100000 s j + cntN ls B 100000 (delS s (lsL B s)[j]))
 have sh := Z9N hs' s (psum ls B lim s j + cntN ls B lim (delS s (lsL B s)[j]))
 have Po := ZQf (w := psum ls B 100000 s (j + 1)) hos hs
 have Ph := ZQf (w := psum ls B lim s (j + 1)) hhs hs
 rw [hpo] at Po ⊢
 rw [hph] at Ph ⊢
 rw [show psum ls B lim s j + (if ldC y (daysS ls s) ≤ lim then cntN ls B lim (delS s (lsL B s)[j]) else 0) = psum ls B lim s j + (if ldC y (daysS ls s) ≤ lim then cntN ls B lim (delS s (lsL B s)[j]) else 0) from rfl] at Ph
 have hosl : (os.set s (psum ls B 100000 s j + cntN ls B 100000 (delS s (lsL B s)[j]))).length = 2 ^ n := by rw [List.length_set, hos.len]
 have sc := Z0n5 cs s
 have hN : s < 2 ^ n := hs
 simp only [ciS]
 generalize psum ls B 100000 s j = PO at *
 generalize psum ls B lim s j = PH at *
 generalize cntN ls B 100000 (delS s (lsL B s)[j]) = FO at *
 generalize cntN ls B lim (delS s (lsL B s)[j]) = FH at *
 generalize hRest : delS s (lsL B s)[j] = rest at *
 generalize (lsL B s)[j] = i at *
 generalize (lsL B s).length = m at *
 generalize (lst s).length = q at *
 generalize lsCells B s = lcs at *
 generalize daysS ls s = day at *
 generalize ldC y day = own at *
 generalize 2 ^ n = N at *
 simp only [lc] at ay hcost
 have hmx : (if own > cs.getD rest 0 then own else cs.getD rest 0) = mxv (cs.getD rest 0) own := rfl
 generalize cs.getD rest 0 = cr at *
 generalize mxv cr own = x at *
 have sx := sc x
 have hl2 : (ics (cs.set s x)).length = N := by rw [Z0r, List.length_set, hcs]
 have hol2 : (ins (os.set s (PO + FO))).length = N := by rw [Zu, hosl]
 suffices key : ∃ (cs2 : List Int) (hs2 : List Nat), cs2.length = N ∧ Part N (cntN ls B lim) s (PH + if own ≤ lim then FH else 0) hs2 ∧ (∃ s', (execA E C (fg 94) 0 102 [] 1000 Za2) ([(39, .int .i64 j), (38, .int .i64 m), (37, .ref 37 0 m q q 1 false), (9, .bool first), (8, .int .u64 (s : Int)), (6, .ref 24 0 N N N 1 false), (5, .ref 22 0 N N N 1 false), (4, .ref 20 0 N N N 1 false), (2, .ptr 2 0 2), (1, .int .i64 lim)],
       [(2, ⟨.box, trA ls B n e1 e2⟩), (20, ⟨.row, ics cs⟩), (22, ⟨.row, ins os⟩), (24, ⟨.row, ins hs'⟩), (37, ⟨.row, lcs⟩)]) = some (.normal, s') ∧
       headA [] s' = ([(39, .int .i64 (j + 1 : Nat)), (38, .int .i64 m), (37, .ref 37 0 m q q 1 false), (9, .bool false), (8, .int .u64 (s : Int)), (6, .ref 24 0 N N N 1 false), (5, .ref 22 0 N N N 1 false), (4, .ref 20 0 N N N 1 false), (2, .ptr 2 0 2), (1, .int .i64 lim)],
       [(2, ⟨.box, trA ls B n e1 e2⟩), (20, ⟨.row, ics cs2⟩), (22, ⟨.row, ins (os.set s (PO + FO))⟩), (24, ⟨.row, ins hs2⟩), (37, ⟨.row, lcs⟩)])) by
   obtain ⟨cs2, hs2, h1, h2, s', h3, h4⟩ := key
   exact ⟨s', h3, cs2, os.set s (PO + FO), hs2, h1, Po, h2, h4⟩
 by_cases hlim : own ≤ lim
 · rw [if_pos hlim] at Ph ⊢
   cases first with
   | true =>
     clear cl1
     have cl1 : (ics cs).length = N := by rw [Z0r, hcs]
     refine ⟨cs.set s x, _, by rw [List.length_set, hcs], Ph, ?_⟩
     simp (disch := omega) only [Z8, Zg, ↓gd, ZW, Bool.not_true, Bool.not_false, Zc, Za, Z2, Z1, Z3, Z0, Zd, Zi, Zo, Zm, stp, opPick, justO, just, Rd.bind, Rd.run, Rd.opt, upds, acells, tsz, rdCells, fieldOf, Ze, aLoad, aStore, opStore, Z5, aNum, Zh, aMax, aBin, aInt, putC, Nat.reduceAdd, Nat.reduceLT, Nat.reduceBEq, Nat.reduceEqDiff, Nat.reduceLeDiff, ↓reduceIte, reduceCtorEq, Zf, Nat.zero_add, Nat.add_zero, List.nil_append, ZE, ZH, ZO, ZP, Zz, ZL, Zt, Zn, ZC, Zv, stpT, Rd.foot, writing, Zq, Tr.empty, Zs, apartT, disj, List.isEmpty_nil, List.isEmpty_cons, List.map_nil, List.map_cons, Bool.not_false, Bool.not_true, Bool.true_or, Bool.or_true, Bool.or_false, Bool.and_true, Bool.true_and, Bool.and_self, decide_true, Z7, Zk, and_true, true_and, Int.natCast_nonneg, Int.toNat_natCast, aCall, snaps, List.append_nil, List.elem_cons, List.elem_nil, List.length_cons, List.length_nil, List.getElem?_cons_zero, List.drop_zero, List.take_succ_cons, List.take_nil, Zp, seqN, bindN, regN, Zr, Z0n, ZQ, List.all_cons, List.all_nil, Nat.le_refl, Nat.mul_one, List.not_mem_nil, beq_self_eq_true, Bool.false_eq_true, T_3, T_36, Z0P, ZZ, Z0E, List.all_cons, List.all_nil, List.getD_cons_zero, List.getD_cons_succ, beq_self_eq_true, Zab, Z7K, Z8a, Zaa, ZaQ, ZaD, Zc7, Z6W, Z7s, Z7t, Z8E, Zde, Z6E, Z6L, Z7w, Z8q, Z7R, Z6N, ZcH, Z89, Z5E, Z5x, Z85, Z7S, Z7I, Z6B, Z7q, Z81, Z86, Z6g, Z8m, Z8w, Zci, Z6Y, Z8f, Z8C, Z8j, Z6q, Z7C, Z6o, Z8J, Zdk, Z6R, Z6X, Z7X, Z8v, Z8H, Z7L, Z6Z, Z8l, Z6w, Z7g, Zcj, Z83, Z8I, Z6i, Z6F, Z6Q, Z8z, Z8G, Zdv, Zdz, ZcD, ZcX, Z6y, Z5H, Z5F, Z6s, Z7r, Z7N, Z7y, Z7l, Z7u, Z6J, Z6I, Z78, Z8F, Z5B, Zcc, Z8c, Z8u, Z7k, Z77, Zcn, Z6h, Z5Q, Z5R, Z72, Z6m, Z8i, Z7O, Z8g, Z7U, Z7j, Z6x, Z88, Z80, Z5J, Zdd, ZdH, Zcq, Zda, Zdt, Zdp, Zdg, Zdb, Zcv, Zdm, ZcF, Z7G, Z6U, Z7p, Zd6, ZaG, ZaP, gi, gs, gdl, gp, hls, hlsl, hlen, hshl, han, ay, hdays, hcost, co1', oo1', oo2', ho1', ho2', cl1, ol1, hl1, wo, wh, so, sh, sx, hmx, hlim, if_pos, ZD (show j < 1000000 by omega)]
     exact ⟨_, rfl, rfl⟩
   | false =>
     by_cases hx : x < cs.getD s 0
     · skip
       refine ⟨cs.set s x, _, by rw [List.length_set, hcs], Ph, ?_⟩
       simp (disch := omega) only [Z8, Zg, ↓gd, ZW, Bool.not_true, Bool.not_false, Zc, Za, Z2, Z1, Z3, Z0, Zd, Zi, Zo, Zm, stp, opPick, justO, just, Rd.bind, Rd.run, Rd.opt, upds, acells, tsz, rdCells, fieldOf, Ze, aLoad, aStore, opStore, Z5, aNum, Zh, aMax, aBin, aInt, putC, Nat.reduceAdd, Nat.reduceLT, Nat.reduceBEq, Nat.reduceEqDiff, Nat.reduceLeDiff, ↓reduceIte, Zf, Nat.zero_add, Nat.add_zero, List.nil_append, ZE, ZH, ZO, ZP, Zz, ZL, Zt, Zn, ZC, Zv, stpT, Rd.foot, writing, Zq, Tr.empty, Zs, apartT, disj, List.isEmpty_nil, List.isEmpty_cons, List.map_nil, List.map_cons, Bool.not_false, Bool.not_true, Bool.true_or, Bool.or_true, Bool.or_false, Bool.and_true, Bool.true_and, Bool.and_self, decide_true, Z7, Zk, and_true, true_and, Int.natCast_nonneg, Int.toNat_natCast, aCall, snaps, List.append_nil, List.elem_cons, List.elem_nil, List.length_cons, List.length_nil, List.getElem?_cons_zero, List.drop_zero, List.take_succ_cons, List.take_nil, Zp, seqN, bindN, regN, Zr, Z0n, ZQ, List.all_cons, List.all_nil, Nat.le_refl, Nat.mul_one, List.not_mem_nil, beq_self_eq_true, Bool.false_eq_true, T_3, T_36, Z0P, ZZ, Z0E, List.all_cons, List.all_nil, List.getD_cons_zero, List.getD_cons_succ, beq_self_eq_true, Zab, Z7K, Z8a, Zaa, ZaQ, ZaD, Zc7, Z6W, Z7s, Z7t, Z8E, Zde, Z6E, Z6L, Z7w, Z8q, Z7R, Z6N, ZcH, Z89, Z5E, Z5x, Z85, Z7S, Z7I, Z6B, Z7q, Z81, Z86, Z6g, Z8m, Z8w, Zci, Z6Y, Z8f, Z8C, Z8j, Z6q, Z7C, Z6o, Z8J, Zdk, Z6R, Z6X, Z7X, Z8v, Z8H, Z7L, Z6Z, Z8l, Z6w, Z7g, Zcj, Z83, Z8I, Z6i, Z6F, Z6Q, Z8z, Z8G, Zdv, Zdz, ZcD, ZcX, Z6y, Z5H, Z5F, Z6s, Z7r, Z7N, Z7y, Z7l, Z7u, Z6J, Z6I, Z78, Z8F, Z5B, Zcc, Z8c, Z8u, Z7k, Z77, Zcn, Z6h, Z5Q, Z5R, Z72, Z6m, Z8i, Z7O, Z8g, Z7U, Z7j, Z6x, Z88, Z80, Z5J, Zdd, ZdH, Zcq, Zda, Zdt, Zdp, Zdg, Zdb, Zcv, Zdm, ZcF, Z7G, Z6U, Z7p, Zd6, ZaG, ZaP, gi, gs, gdl, gp, hls, hlsl, hlen, hshl, han, ay, hdays, hcost, co1', co2', oo1', oo2', ho1', ho2', cl1, ol1, hl1, wo, wh, so, sh, sx, hmx, hlim, hx, if_pos, ZD (show j < 1000000 by omega)]
       exact ⟨_, rfl, rfl⟩
     · skip
       refine ⟨cs, _, hcs, Ph, ?_⟩
       simp (disch := omega) only [Z8, Zg, ↓gd, ZW, Bool.not_true, Bool.not_false, Zc, Za, Z2, Z1, Z3, Z0, Zd, Zi, Zo, Zm, stp, opPick, justO, just, Rd.bind, Rd.run, Rd.opt, upds, acells, tsz, rdCells, fieldOf, Ze, aLoad, aStore, opStore, Z5, aNum, Zh, aMax, aBin, aInt, putC, Nat.reduceAdd, Nat.reduceLT, Nat.reduceBEq, Nat.reduceEqDiff, Nat.reduceLeDiff, ↓reduceIte, Zf, Nat.zero_add, Nat.add_zero, List.nil_append, ZE, ZH, ZO, ZP, Zz, ZL, Zt, Zn, ZC, Zv, stpT, Rd.foot, writing, Zq, Tr.empty, Zs, apartT, disj, List.isEmpty_nil, List.isEmpty_cons, List.map_nil, List.map_cons, Bool.not_false, Bool.not_true, Bool.true_or, Bool.or_true, Bool.or_false, Bool.and_true, Bool.true_and, Bool.and_self, decide_true, decide_false, Z7, Zk, and_true, true_and, Int.natCast_nonneg, Int.toNat_natCast, aCall, snaps, List.append_nil, List.elem_cons, List.elem_nil, List.length_cons, List.length_nil, List.getElem?_cons_zero, List.drop_zero, List.take_succ_cons, List.take_nil, Zp, seqN, bindN, regN, Zr, Z0n, ZQ, List.all_cons, List.all_nil, Nat.le_refl, Nat.mul_one, List.not_mem_nil, beq_self_eq_true, Bool.false_eq_true, T_3, T_36, Z0P, ZZ, Z0E, List.all_cons, List.all_nil, List.getD_cons_zero, List.getD_cons_succ, beq_self_eq_true, Zab, Z7K, Z8a, Zaa, ZaQ, ZaD, Zc7, Z6W, Z7s, Z7t, Z8E, Zde, Z6E, Z6L, Z7w, Z8q, Z7R, Z6N, ZcH, Z89, Z5E, Z5x, Z85, Z7S, Z7I, Z6B, Z7q, Z81, Z86, Z6g, Z8m, Z8w, Zci, Z6Y, Z8f, Z8C, Z8j, Z6q, Z7C, Z6o, Z8J, Zdk, Z6R, Z6X, Z7X, Z8v, Z8H, Z7L, Z6Z, Z8l, Z6w, Z7g, Zcj, Z83, Z8I, Z6i, Z6F, Z6Q, Z8z, Z8G, Zdv, Zdz, ZcD, ZcX, Z6y, Z5H, Z5F, Z6s, Z7r, Z7N, Z7y, Z7l, Z7u, Z6J, Z6I, Z78, Z8F, Z5B, Zcc, Z8c, Z8u, Z7k, Z77, Zcn, Z6h, Z5Q, Z5R, Z72, Z6m, Z8i, Z7O, Z8g, Z7U, Z7j, Z6x, Z88, Z80, Z5J, Zdd, ZdH, Zcq, Zda, Zdt, Zdp, Zdg, Zdb, Zcv, Zdm, ZcF, Z7G, Z6U, Z7p, Zd6, ZaG, ZaP, gi, gs, gdl, gp, hls, hlsl, hlen, hshl, han, ay, hdays, hcost, co1', co2', oo1', oo2', ho1', ho2', cl1, ol1, hl1, wo, wh, so, sh, sx, hmx, hlim, hx, if_pos, ZD (show j < 1000000 by omega)]
       exact ⟨_, rfl, rfl⟩
 · rw [if_neg hlim] at Ph ⊢
   have Ph : Part N (cntN ls B lim) s (PH + 0) hs' := by rw [Nat.add_zero]; exact hhs
   cases first with
   | true =>
     clear cl1
     have cl1 : (ics cs).length = N := by rw [Z0r, hcs]
     refine ⟨cs.set s x, _, by rw [List.length_set, hcs], Ph, ?_⟩
     simp (disch := omega) only [Z8, Zg, ↓gd, ZW, Bool.not_true, Bool.not_false, Zc, Za, Z2, Z1, Z3, Z0, Zd, Zi, Zo, Zm, stp, opPick, justO, just, Rd.bind, Rd.run, Rd.opt, upds, acells, tsz, rdCells, fieldOf, Ze, aLoad, aStore, opStore, Z5, aNum, Zh, aMax, aBin, aInt, putC, Nat.reduceAdd, Nat.reduceLT, Nat.reduceBEq, Nat.reduceEqDiff, Nat.reduceLeDiff, ↓reduceIte, reduceCtorEq, Zf, Nat.zero_add, Nat.add_zero, List.nil_append, ZE, ZH, ZO, ZP, Zz, ZL, Zt, Zn, ZC, Zv, stpT, Rd.foot, writing, Zq, Tr.empty, Zs, apartT, disj, List.isEmpty_nil, List.isEmpty_cons, List.map_nil, List.map_cons, Bool.not_false, Bool.not_true, Bool.true_or, Bool.or_true, Bool.or_false, Bool.and_true, Bool.true_and, Bool.and_self, decide_true, decide_false, Z7, Zk, and_true, true_and, Int.natCast_nonneg, Int.toNat_natCast, aCall, snaps, List.append_nil, List.elem_cons, List.elem_nil, List.length_cons, List.length_nil, List.getElem?_cons_zero, List.drop_zero, List.take_succ_cons, List.take_nil, Zp, seqN, bindN, regN, Zr, Z0n, ZQ, List.all_cons, List.all_nil, Nat.le_refl, Nat.mul_one, List.not_mem_nil, beq_self_eq_true, Bool.false_eq_true, T_3, T_36, Z0P, ZZ, Z0E, List.all_cons, List.all_nil, List.getD_cons_zero, List.getD_cons_succ, beq_self_eq_true, Zab, Z7K, Z8a, Zaa, ZaQ, ZaD, Zc7, Z6W, Z7s, Z7t, Z8E, Zde, Z6E, Z6L, Z7w, Z8q, Z7R, Z6N, ZcH, Z89, Z5E, Z5x, Z85, Z7S, Z7I, Z6B, Z7q, Z81, Z86, Z6g, Z8m, Z8w, Zci, Z6Y, Z8f, Z8C, Z8j, Z6q, Z7C, Z6o, Z8J, Zdk, Z6R, Z6X, Z7X, Z8v, Z8H, Z7L, Z6Z, Z8l, Z6w, Z7g, Zcj, Z83, Z8I, Z6i, Z6F, Z6Q, Z8z, Z8G, Zdv, Zdz, ZcD, ZcX, Z6y, Z5H, Z5F, Z6s, Z7r, Z7N, Z7y, Z7l, Z7u, Z6J, Z6I, Z78, Z8F, Z5B, Zcc, Z8c, Z8u, Z7k, Z77, Zcn, Z6h, Z5Q, Z5R, Z72, Z6m, Z8i, Z7O, Z8g, Z7U, Z7j, Z6x, Z88, Z80, Z5J, Zdd, ZdH, Zcq, Zda, Zdt, Zdp, Zdg, Zdb, Zcv, Zdm, ZcF, Z7G, Z6U, Z7p, Zd6, ZaG, ZaP, gi, gs, gdl, gp, hls, hlsl, hlen, hshl, han, ay, hdays, hcost, co1', oo1', oo2', ho1', ho2', cl1, ol1, hl1, wo, wh, so, sh, sx, hmx, hlim, if_pos, ZD (show j < 1000000 by omega)]
     exact ⟨_, rfl, rfl⟩
   | false =>
     by_cases hx : x < cs.getD s 0
     · skip
       refine ⟨cs.set s x, _, by rw [List.length_set, hcs], Ph, ?_⟩
       simp (disch := omega) only [Z8, Zg, ↓gd, ZW, Bool.not_true, Bool.not_false, Zc, Za, Z2, Z1, Z3, Z0, Zd, Zi, Zo, Zm, stp, opPick, justO, just, Rd.bind, Rd.run, Rd.opt, upds, acells, tsz, rdCells, fieldOf, Ze, aLoad, aStore, opStore, Z5, aNum, Zh, aMax, aBin, aInt, putC, Nat.reduceAdd, Nat.reduceLT, Nat.reduceBEq, Nat.reduceEqDiff, Nat.reduceLeDiff, ↓reduceIte, Zf, Nat.zero_add, Nat.add_zero, List.nil_append, ZE, ZH, ZO, ZP, Zz, ZL, Zt, Zn, ZC, Zv, stpT, Rd.foot, writing, Zq, Tr.empty, Zs, apartT, disj, List.isEmpty_nil, List.isEmpty_cons, List.map_nil, List.map_cons, Bool.not_false, Bool.not_true, Bool.true_or, Bool.or_true, Bool.or_false, Bool.and_true, Bool.true_and, Bool.and_self, decide_true, decide_false, Z7, Zk, and_true, true_and, Int.natCast_nonneg, Int.toNat_natCast, aCall, snaps, List.append_nil, List.elem_cons, List.elem_nil, List.length_cons, List.length_nil, List.getElem?_cons_zero, List.drop_zero, List.take_succ_cons, List.take_nil, Zp, seqN, bindN, regN, Zr, Z0n, ZQ, List.all_cons, List.all_nil, Nat.le_refl, Nat.mul_one, List.not_mem_nil, beq_self_eq_true, Bool.false_eq_true, T_3, T_36, Z0P, ZZ, Z0E, List.all_cons, List.all_nil, List.getD_cons_zero, List.getD_cons_succ, beq_self_eq_true, Zab, Z7K, Z8a, Zaa, ZaQ, ZaD, Zc7, Z6W, Z7s, Z7t, Z8E, Zde, Z6E, Z6L, Z7w, Z8q, Z7R, Z6N, ZcH, Z89, Z5E, Z5x, Z85, Z7S, Z7I, Z6B, Z7q, Z81, Z86, Z6g, Z8m, Z8w, Zci, Z6Y, Z8f, Z8C, Z8j, Z6q, Z7C, Z6o, Z8J, Zdk, Z6R, Z6X, Z7X, Z8v, Z8H, Z7L, Z6Z, Z8l, Z6w, Z7g, Zcj, Z83, Z8I, Z6i, Z6F, Z6Q, Z8z, Z8G, Zdv, Zdz, ZcD, ZcX, Z6y, Z5H, Z5F, Z6s, Z7r, Z7N, Z7y, Z7l, Z7u, Z6J, Z6I, Z78, Z8F, Z5B, Zcc, Z8c, Z8u, Z7k, Z77, Zcn, Z6h, Z5Q, Z5R, Z72, Z6m, Z8i, Z7O, Z8g, Z7U, Z7j, Z6x, Z88, Z80, Z5J, Zdd, ZdH, Zcq, Zda, Zdt, Zdp, Zdg, Zdb, Zcv, Zdm, ZcF, Z7G, Z6U, Z7p, Zd6, ZaG, ZaP, gi, gs, gdl, gp, hls, hlsl, hlen, hshl, han, ay, hdays, hcost, co1', co2', oo1', oo2', ho1', ho2', cl1, ol1, hl1, wo, wh, so, sh, sx, hmx, hlim, hx, if_pos, ZD (show j < 1000000 by omega)]
       exact ⟨_, rfl, rfl⟩
     · skip
       refine ⟨cs, _, hcs, Ph, ?_⟩
       simp (disch := omega) only [Z8, Zg, ↓gd, ZW, Bool.not_true, Bool.not_false, Zc, Za, Z2, Z1, Z3, Z0, Zd, Zi, Zo, Zm, stp, opPick, justO, just, Rd.bind, Rd.run, Rd.opt, upds, acells, tsz, rdCells, fieldOf, Ze, aLoad, aStore, opStore, Z5, aNum, Zh, aMax, aBin, aInt, putC, Nat.reduceAdd, Nat.reduceLT, Nat.reduceBEq, Nat.reduceEqDiff, Nat.reduceLeDiff, ↓reduceIte, Zf, Nat.zero_add, Nat.add_zero, List.nil_append, ZE, ZH, ZO, ZP, Zz, ZL, Zt, Zn, ZC, Zv, stpT, Rd.foot, writing, Zq, Tr.empty, Zs, apartT, disj, List.isEmpty_nil, List.isEmpty_cons, List.map_nil, List.map_cons, Bool.not_false, Bool.not_true, Bool.true_or, Bool.or_true, Bool.or_false, Bool.and_true, Bool.true_and, Bool.and_self, decide_true, decide_false, Z7, Zk, and_true, true_and, Int.natCast_nonneg, Int.toNat_natCast, aCall, snaps, List.append_nil, List.elem_cons, List.elem_nil, List.length_cons, List.length_nil, List.getElem?_cons_zero, List.drop_zero, List.take_succ_cons, List.take_nil, Zp, seqN, bindN, regN, Zr, Z0n, ZQ, List.all_cons, List.all_nil, Nat.le_refl, Nat.mul_one, List.not_mem_nil, beq_self_eq_true, Bool.false_eq_true, T_3, T_36, Z0P, ZZ, Z0E, List.all_cons, List.all_nil, List.getD_cons_zero, List.getD_cons_succ, beq_self_eq_true, Zab, Z7K, Z8a, Zaa, ZaQ, ZaD, Zc7, Z6W, Z7s, Z7t, Z8E, Zde, Z6E, Z6L, Z7w, Z8q, Z7R, Z6N, ZcH, Z89, Z5E, Z5x, Z85, Z7S, Z7I, Z6B, Z7q, Z81, Z86, Z6g, Z8m, Z8w, Zci, Z6Y, Z8f, Z8C, Z8j, Z6q, Z7C, Z6o, Z8J, Zdk, Z6R, Z6X, Z7X, Z8v, Z8H, Z7L, Z6Z, Z8l, Z6w, Z7g, Zcj, Z83, Z8I, Z6i, Z6F, Z6Q, Z8z, Z8G, Zdv, Zdz, ZcD, ZcX, Z6y, Z5H, Z5F, Z6s, Z7r, Z7N, Z7y, Z7l, Z7u, Z6J, Z6I, Z78, Z8F, Z5B, Zcc, Z8c, Z8u, Z7k, Z77, Zcn, Z6h, Z5Q, Z5R, Z72, Z6m, Z8i, Z7O, Z8g, Z7U, Z7j, Z6x, Z88, Z80, Z5J, Zdd, ZdH, Zcq, Zda, Zdt, Zdp, Zdg, Zdb, Zcv, Zdm, ZcF, Z7G, Z6U, Z7p, Zd6, ZaG, ZaP, gi, gs, gdl, gp, hls, hlsl, hlen, hshl, han, ay, hdays, hcost, co1', co2', oo1', oo2', ho1', ho2', cl1, ol1, hl1, wo, wh, so, sh, sx, hmx, hlim, hx, if_pos, ZD (show j < 1000000 by omega)]
       exact ⟨_, rfl, rfl⟩
end Go.AM.YtgfnbmfjbjopkaaDoor
end
noncomputable section
namespace Go.AM.YtgfnbmfjbjopkaaDoor
open Go Go.AM Go.AM.Mule
theorem ZoU {N : Nat} {F : Nat → Nat} {s : Nat} {os : List Nat} (h : Part N F s (F s) os) : Part N F (s + 1) 0 os := by
 refine ⟨h.len, fun t ht => ?_, ?_, fun t h1 h2 => h.gt t (by omega) h2⟩
 · rcases Nat.lt_or_ge t s with h1 | h1
   · exact h.lt t h1
   · rw [show t = s by omega]; exact h.at_
 · by_cases hs : s + 1 < N
   · exact h.gt _ (by omega) hs
   · have := h.len
     rw [List.getD_eq_getElem?_getD, List.getElem?_eq_none (by omega)]; rfl
theorem ZKt {N : Nat} {F : Nat → Nat} {v : Nat} {os : List Nat} (h : Part N F N v os) : os = (List.range N).map F := by
 apply List.ext_getElem?
 intro t
 by_cases ht : t < N
 · have := h.lt t ht
   have e : os[t]? = some (os.getD t 0) := Z08 (l := os) (by rw [h.len]; exact ht)
   rw [e, this]; simp [ht]
 · rw [List.getElem?_eq_none (by rw [h.len]; omega), List.getElem?_eq_none (by simp; omega)]
abbrev coS (ls : List Ld) (B : List Nat) (n : Nat) (e1 e2 : Bool) (lim : Int) (N s : Nat) (cs : List Int) (os hs : List Nat) : St :=
 ([(8, .int .u64 (s : Int)), (6, .ref 24 0 N N N 1 false), (5, .ref 22 0 N N N 1 false), (4, .ref 20 0 N N N 1 false), (2, .ptr 2 0 2), (1, .int .i64 lim)],
   [(2, ⟨.box, trA ls B n e1 e2⟩), (20, ⟨.row, ics cs⟩), (22, ⟨.row, ins os⟩), (24, ⟨.row, ins hs⟩)])
theorem Z0t0 {C : Callee} {ls : List Ld} {B : List Nat} {n : Nat} {e1 e2 : Bool} (hC : CoC C ls B n e1 e2) {lim : Int} (h : TrOk ls B n) (_ : Ord (bit B)) {s : Nat} (hs : s < 2 ^ n) (h0 : s ≠ 0) {cs : List Int} {os hs' : List Nat} (hcs : cs.length = 2 ^ n)
   (hos : Part (2 ^ n) (cntN ls B 100000) s 0 os) (hhs : Part (2 ^ n) (cntN ls B lim) s 0 hs') :
   ∃ s', (execA E C (fg 94) 0 102 [] 1000 Zaw) (coS ls B n e1 e2 lim (2 ^ n) s cs os hs') = some (.normal, s') ∧ ∃ cs2 os2 hs2, cs2.length = 2 ^ n ∧ Part (2 ^ n) (cntN ls B 100000) (s + 1) 0 os2 ∧ Part (2 ^ n) (cntN ls B lim) (s + 1) 0 hs2 ∧
     headA [] s' = coS ls B n e1 e2 lim (2 ^ n) (s + 1) cs2 os2 hs2 := by
 have h64 := lt64 h.le hs
 have hN : 2 ^ n ≤ 64 := Nat.pow_le_pow_right (by omega) h.le
 have hl6 := Z4V s
 have hle := ZnO B s
 have hp1 := ZOu (ls := ls) (B := B) (lim := 100000) h64 h0
 have hp2 := ZOu (ls := ls) (B := B) (lim := lim) h64 h0
 obtain ⟨se, hi, first2, cs2, os2, hs2, c1, c2, c3, rfl⟩ := ZaE (f := (execA E C (fg 94) 0 102 [] 1000 Za2)) (hd := headA []) (e := .exit 2)
   (P := fun j st => ∃ first cs os hs2, cs.length = 2 ^ n ∧ Part (2 ^ n) (cntN ls B 100000) s (psum ls B 100000 s j) os ∧ Part (2 ^ n) (cntN ls B lim) s (psum ls B lim s j) hs2 ∧ st = ciS ls B n e1 e2 lim (2 ^ n) s j first cs os hs2)
   (Q := fun st => ∃ (first : Bool) (cs : List Int) (os hs2 : List Nat), cs.length = 2 ^ n ∧ Part (2 ^ n) (cntN ls B 100000) s (cntN ls B 100000 s) os ∧ Part (2 ^ n) (cntN ls B lim) s (cntN ls B lim s) hs2 ∧ st = ([(40, .bool false), (39, .int .i64 (lsL B s).length), (38, .int .i64 (lsL B s).length), (37, .ref 37 0 (lsL B s).length (lst s).length (lst s).length 1 false), (9, .bool first), (8, .int .u64 (s : Int)), (6, .ref 24 0 (2 ^ n) (2 ^ n) (2 ^ n) 1 false), (5, .ref 22 0 (2 ^ n) (2 ^ n) (2 ^ n) 1 false), (4, .ref 20 0 (2 ^ n) (2 ^ n) (2 ^ n) 1 false), (2, .ptr 2 0 2), (1, .int .i64 lim)],
     [(2, ⟨.box, trA ls B n e1 e2⟩), (20, ⟨.row, ics cs⟩), (22, ⟨.row, ins os⟩), (24, ⟨.row, ins hs2⟩), (37, ⟨.row, lsCells B s⟩)]))
   (by simp) (lsL B s).length 1000 0 (ciS ls B n e1 e2 lim (2 ^ n) s 0 true cs os hs') ⟨true, cs, os, hs', hcs, hos, hhs, rfl⟩ (by omega)
   (fun j st _ hj hP => by
     obtain ⟨first, cs, os, hs2, a1, a2, a3, rfl⟩ := hP
     obtain ⟨s', b1, cs2, os2, hs3, b2, b3, b4, b5⟩ := Z0rC (first := first) hC h hs h0 j (by omega) a1 a2 a3
     exact ⟨s', b1, false, cs2, os2, hs3, b2, b3, b4, b5⟩)
   (fun st hP => by
     obtain ⟨first, cs, os, hs2, a1, a2, a3, rfl⟩ := hP
     rw [Nat.zero_add] at a2 a3 ⊢
     rw [hp1] at a2; rw [hp2] at a3
     refine ⟨_, ?_, first, cs, os, hs2, a1, a2, a3, rfl⟩
     simp only [ciS]
     generalize (lsL B s).length = m at *
     generalize (lst s).length = q at *
     simp (disch := omega) only [ZR, Z8, Zc, Za, Z2, Z1, Z3, Z0, Zo, stp, just, Rd.bind, Rd.run, Rd.opt, upds, aBin, aInt, Nat.reduceEqDiff, Nat.reduceLeDiff, ↓reduceIte, decide_false, Z7, List.elem_nil, seqN, bindN, regN, Int.lt_irrefl, Bool.false_eq_true, Zab, Z7K, Z8a, Zaa, ZaQ, ZaD, ZaG, ZaP])
 have hall := hC.all
 have hlasts := fun site seen => hC.lasts site seen s hs h0
 have g1 : (s : Int) ≤ ((2 ^ n - 1 : Nat) : Int) := by omega
 have hlsl := Z8P B s
 have w : wrp .u64 ((s : Int) + 1) = ((s + 1 : Nat) : Int) := wrpU (n := s + 1) (by omega)
 simp only [ciS, cl0] at hi
 have key : ∃ s', (execA E C (fg 94) 0 102 [] 1000 Zaw) (coS ls B n e1 e2 lim (2 ^ n) s cs os hs') = some (.normal, s') ∧ headA [] s' = coS ls B n e1 e2 lim (2 ^ n) (s + 1) cs2 os2 hs2 := by
   simp only [coS]
   generalize (lsL B s).length = m at *
   generalize (lst s).length = q at *
   generalize lsCells B s = lcs at *
   generalize 2 ^ n - 1 = N1 at *
   generalize 2 ^ n = N at *
   simp (disch := omega) only [Z8, ZJ, Zg, Zc, Za, Z2, Z1, Z3, Z0, Zl, Zd, Zx, Zi, Zm, stp, just, Rd.bind, Rd.run, Rd.opt, upds, rdCells, aLoad, aLen, Zh, aBin, aInt, Nat.reduceAdd, Nat.reduceBEq, Nat.reduceEqDiff, Nat.reduceLeDiff, ↓reduceIte, Zf, Nat.zero_add, List.nil_append, List.getElem?_toArray, decide_true, Z7, aCall, snaps, List.append_nil, List.elem_cons, List.elem_nil, List.length_cons, List.length_nil, List.getElem?_cons_zero, List.drop_zero, List.take_succ_cons, List.take_nil, Zp, seqN, bindN, regN, Zr, Z0n, ZQ, Z1o, Nat.le_refl, Nat.zero_mul, beq_self_eq_true, Bool.false_eq_true, T_36, ZZ, beq_self_eq_true, Z0a4, Z04f, Z04y, ZVP, Z04d, Z05O, Z0cu, Z0cw, Z0bE, Z08s, Z0pi, Z0id, Z0ia, Z0qh, Z0ik, Z0kw, Z0iX, Z0ny, Z0n1, Z0mN, Z0oh, Z0ql, Z0pp, Z0pT, Z0on, Z0pZ, Z0lu, Z0mr, Z0mv, Z0lE, Z0qg, Z0bN, hall, hlasts, g1, hlsl, hi, w]
   exact ⟨_, rfl, rfl⟩
 obtain ⟨s', k1, k2⟩ := key
 exact ⟨s', k1, cs2, os2, hs2, c1, ZoU c2, ZoU c3, k2⟩
theorem ZJU {N : Nat} {F : Nat → Nat} (h : F 0 = 1) (hN : 1 ≤ N) : Part N F 1 0 ((List.replicate N 0).set 0 1) := by
 have hl : 0 < (List.replicate N 0).length := by simp; omega
 have z : ∀ t, (List.replicate N 0).getD t 0 = 0 := fun t => by
   simp only [List.getD_eq_getElem?_getD, List.getElem?_replicate]; split <;> rfl
 refine ⟨by simp, fun t ht => ?_, ?_, fun t h1 h2 => ?_⟩
 · rw [Z3u _ _ _ _ hl, if_pos (by omega), show t = 0 by omega, h]
 · rw [Z3u _ _ _ _ hl, if_neg (by omega), z]
 · rw [Z3u _ _ _ _ hl, if_neg (by omega), z]
def cntL (ls : List Ld) (B : List Nat) (lim : Int) (n : Nat) : List Nat := (List.range (2 ^ n)).map (cntN ls B lim)
theorem Z4f (ls B lim n) : (cntL ls B lim n).length = 2 ^ n := by simp [cntL]
theorem ZBV (ls B lim n) : (cntL ls B lim n)[2 ^ n - 1]? = some (cntN ls B lim (2 ^ n - 1)) := by
 have := Nat.two_pow_pos n
 simp [cntL, show 2 ^ n - 1 < 2 ^ n by omega]
theorem Z0bF {d : Nat} {ls : List Ld} {B : List Nat} {n : Nat} {e1 e2 : Bool} {lim : Int} (h : TrOk ls B n) (hT : Ord (bit B)) :
   ∃ cs H', cs.length = 2 ^ n ∧ bodyA E (callA E fg 1000 (d + 5)) fg 1000 94 [.agg (trA ls B n e1 e2), .int .i64 lim] [] 0 = some (.tup [.ref 20 0 (2 ^ n) (2 ^ n) (2 ^ n) 1 false, .ref 22 0 (2 ^ n) (2 ^ n) (2 ^ n) 1 false, .ref 24 0 (2 ^ n) (2 ^ n) (2 ^ n) 1 false], H') ∧
     hget H' 20 = some ⟨.row, ics cs⟩ ∧ hget H' 22 = some ⟨.row, ins (cntL ls B 100000 n)⟩ ∧ hget H' 24 = some ⟨.row, ins (cntL ls B lim n)⟩ := by
 have hC := coC h d e1 e2
 have hN : 2 ^ n ≤ 64 := Nat.pow_le_pow_right (by omega) h.le
 have hN1 := Nat.two_pow_pos n
 generalize callA E fg 1000 (d + 5) = C at *
 have hl1 : ∀ x : Nat, ((2 ^ n : Nat) : Int) = x → x = 2 ^ n := fun x hx => by omega
 obtain ⟨se, hi, cs2, c1, rfl⟩ := ZaE (f := (execA E C (fg 94) 0 102 [] 1000 Zaw)) (hd := headA []) (e := .exit 0)
   (P := fun k st => ∃ cs os hs2, cs.length = 2 ^ n ∧ Part (2 ^ n) (cntN ls B 100000) k 0 os ∧ Part (2 ^ n) (cntN ls B lim) k 0 hs2 ∧ st = coS ls B n e1 e2 lim (2 ^ n) k cs os hs2)
   (Q := fun st => ∃ cs, cs.length = 2 ^ n ∧ st = ([(32, .bool false), (8, .int .u64 ((2 ^ n : Nat) : Int)), (6, .ref 24 0 (2 ^ n) (2 ^ n) (2 ^ n) 1 false), (5, .ref 22 0 (2 ^ n) (2 ^ n) (2 ^ n) 1 false), (4, .ref 20 0 (2 ^ n) (2 ^ n) (2 ^ n) 1 false), (2, .ptr 2 0 2), (1, .int .i64 lim)],
     [(2, ⟨.box, trA ls B n e1 e2⟩), (20, ⟨.row, ics cs⟩), (22, ⟨.row, ins (cntL ls B 100000 n)⟩), (24, ⟨.row, ins (cntL ls B lim n)⟩)]))
   (by simp) (2 ^ n - 1) 1000 1 (coS ls B n e1 e2 lim (2 ^ n) 1 (List.replicate (2 ^ n) 0) ((List.replicate (2 ^ n) 0).set 0 1) ((List.replicate (2 ^ n) 0).set 0 1))
   ⟨_, _, _, by simp, ZJU (Zx8 ..) hN1, ZJU (Zx8 ..) hN1, rfl⟩ (by omega)
   (fun k st hk1 hk2 hP => by
     obtain ⟨cs, os, hs2, a1, a2, a3, rfl⟩ := hP
     obtain ⟨s', b1, cs2, os2, hs3, b2, b3, b4, b5⟩ := Z0t0 hC h hT (show k < 2 ^ n by omega) (by omega) a1 a2 a3
     exact ⟨s', b1, cs2, os2, hs3, b2, b3, b4, b5⟩)
   (fun st hP => by
     obtain ⟨cs, os, hs2, a1, a2, a3, rfl⟩ := hP
     rw [show 1 + (2 ^ n - 1) = 2 ^ n by omega] at a2 a3 ⊢
     obtain rfl := ZKt a2
     obtain rfl := ZKt a3
     refine ⟨_, ?_, cs, a1, rfl⟩
     have hall := hC.all
     have g1 : ¬ ((2 ^ n : Nat) : Int) ≤ ((2 ^ n - 1 : Nat) : Int) := by omega
     simp only [coS, cntL]
     generalize 2 ^ n - 1 = N1 at *
     generalize 2 ^ n = N at *
     simp (disch := omega) only [ZR, Z8, Zc, Za, Z2, Z1, Z3, Z0, Zd, Zm, stp, just, Rd.bind, Rd.run, Rd.opt, upds, rdCells, aLoad, aBin, aInt, Nat.reduceAdd, Nat.reduceBEq, Nat.reduceEqDiff, Nat.reduceLeDiff, ↓reduceIte, Zf, Nat.zero_add, decide_false, Z7, aCall, snaps, List.append_nil, List.elem_cons, List.elem_nil, List.length_cons, List.length_nil, List.drop_zero, List.take_succ_cons, List.take_nil, seqN, bindN, regN, Z0n, ZQ, Nat.le_refl, beq_self_eq_true, Bool.false_eq_true, ZZ, beq_self_eq_true, Z0a4, Z04f, Z04y, ZVP, Z04d, Z05O, Z0cu, Z0cw, Z0bE, Z08s, Z0bN, hall, g1])
 have hall := hC.all
 have w1 : wrp .i64 ((2 ^ n - 1 : Nat) : Int) = ((2 ^ n - 1 : Nat) : Int) := Z0i (by omega)
 have w2 : wrp .i64 (((2 ^ n - 1 : Nat) : Int) + 1) = ((2 ^ n : Nat) : Int) := by rw [Z0i (by omega)]; omega
 have rep := ZeY (2 ^ n)
 have rep2 : ins (List.replicate (2 ^ n) 0) = ics (List.replicate (2 ^ n) 0) := by rw [Z0iM]; simp
 have hflat : [AV.int .i64 0].all AV.flat = true := rfl
 have hk : ((2 ^ n : Nat) : Int) ≤ kHi .i64 := by simp only [kHi]; omega
 have hby : ((8 : Nat) : Int) * ((2 ^ n : Nat) : Int) ≤ 281474976710656 := by omega
 have hil : (ins (List.replicate (2 ^ n) 0)).length = 2 ^ n := by rw [Zu, List.length_replicate]
 have s1 := Z9N (List.replicate (2 ^ n) 0) 0 1
 have hil2 : (ins ((List.replicate (2 ^ n) 0).set 0 1)).length = 2 ^ n := by rw [Zu, List.length_set, List.length_replicate]
 simp only [coS, ← rep2] at hi
 have z1 : ((1 : Nat) : Int) = 1 := rfl
 rw [z1] at hi s1
 have lo1 : (ins (cntL ls B 100000 n)).length = 2 ^ n := by rw [Zu, Z4f]
 have lo2 : (ins (cntL ls B lim n)).length = 2 ^ n := by rw [Zu, Z4f]
 have lo0 : (ics cs2).length = 2 ^ n := by rw [Z0r, c1]
 have gz : (0 : Int) < ((2 ^ n : Nat) : Int) := by omega
 have hN2 : 1 ≤ 2 ^ n := hN1
 refine ⟨cs2, [(2, ⟨.box, trA ls B n e1 e2⟩), (20, ⟨.row, ics cs2⟩), (22, ⟨.row, ins (cntL ls B 100000 n)⟩), (24, ⟨.row, ins (cntL ls B lim n)⟩)], c1, ?_, rfl, rfl, rfl⟩
 generalize 2 ^ n - 1 = N1 at *
 generalize 2 ^ n = N at *
 simp (disch := omega) only [ZJ, Bool.not_true, Bool.not_false, ZF, Zc, Za, Z2, Z1, Z3, Z0, Zl, Zd, Zx, Zi, Zw, Zo, Zm, stp, opBox, justO, just, Rd.bind, Rd.run, Rd.opt, upds, acells, zeroCells, tsz, elemT, rdCells, aLoad, aStore, opStore, resA, resL, fresh, Z5, aNum, aBin, aInt, putC, Nat.reduceAdd, Nat.reduceLT, Nat.reduceBEq, Nat.reduceEqDiff, Nat.reduceLeDiff, ↓reduceIte, reduceCtorEq, Zf, Nat.zero_add, Nat.add_zero, List.nil_append, ZE, ZH, ZO, ZP, Zz, ZL, Zt, Zn, ZC, Zv, stpT, Rd.foot, writing, Zq, Tr.empty, Zs, apartT, disj, List.isEmpty_nil, List.isEmpty_cons, List.map_nil, List.map_cons, Bool.not_false, Bool.not_true, Bool.true_or, Bool.or_true, Bool.or_false, Bool.and_true, Bool.true_and, Bool.and_self, decide_true, Z7, Zk, and_true, true_and, Int.natCast_nonneg, Int.toNat_natCast, aCall, snaps, List.append_nil, Option.map_some, List.elem_cons, List.elem_nil, List.length_cons, List.length_nil, List.drop_zero, List.take_succ_cons, List.take_nil, Zp, seqN, bindN, regN, Zr, Z0n, ZQ, aConv, List.all_cons, List.all_nil, Nat.le_refl, Int.reduceLE, Int.reduceToNat, Nat.mul_one, List.not_mem_nil, beq_self_eq_true, Bool.false_eq_true, T_3, T_36, ZZ, Z18, List.all_cons, List.all_nil, List.getD_cons_zero, List.getD_cons_succ, beq_self_eq_true, Z0rA, Z0m3, Z0jQ, Z0mk, Z0jM, Z0kj, Z0sf, Z0jp, Z0m9, Z0jb, Z0iu, Z0ns, Z0l2, Z0rU, Z0l9, Z0eZ, Z0gM, Z0lp, Z0k5, Z0kB, Z0mO, Z0m8, Z0jI, Z0la, Z0jH, Z0lW, Z0qN, Z0lA, Z0jA, Z0kz, Z0k0, Z0nH, Z0nB, Z0iP, Z0pG, Z0lj, Z0kQ, Z0oQ, Z0pm, Z0rd, Z0oM, Z0dn, Z0fu, Z0fY, Z0e4, Z0h0, Z0gw, Z0dd, Z0oj, Z0oa, Z0r1, Z0sI, Z0sn, Z0qZ, Z0t4, b_94, hall, w1, w2, aMake, rep, hflat, hk, hby, hil, s1, hi, gz, hN2, if_pos]
end Go.AM.YtgfnbmfjbjopkaaDoor
end
noncomputable section
namespace Go.AM
def Zf5 (k0 k1 k2 : Nat) (seen : List Nat) (r : Nat → Nat → Nat → AV) (b0 b1 b2 : Blk) : Rd (AV × Ups) :=
 (freeOff [k2, k1, k0] 6 0).bind fun off => (freeAll [k2 + off, k1 + off, k0 + off]).bind fun _ => (frz seen).bind fun us => .pure (r (k0 + off) (k1 + off) (k2 + off), us ++ [(k2 + off, b2), (k1 + off, b1), (k0 + off, b0)])
def ZIV (k0 k1 k2 : Nat) (seen : List Nat) (r : Nat → Nat → Nat → AV) (b0 b1 b2 : Blk) : Rd (AV × Ups) := Zf5 k0 k1 k2 seen r b0 b1 b2
theorem Z0fj (k0 k1 k2 : Nat) (seen : List Nat) (r : Nat → Nat → Nat → AV) (b0 b1 b2 : Blk) : ∃ no no' no'' : Blk → Rd (AV × Ups), Zf5 k0 k1 k2 seen r b0 b1 b2 = .get k2 fun
   | none => .get k1 fun
     | none => .get k0 fun
       | none => .get k2 fun
         | none => .get k1 fun
           | none => .get k0 fun
             | none => (frz seen).bind fun us => .pure (r k0 k1 k2, us ++ [(k2, b2), (k1, b1), (k0, b0)])
             | some _ => .fail
           | some _ => .fail
         | some _ => .fail
       | some b => no b
     | some b => no' b
   | some b => no'' b := by
 refine ⟨fun _ => (freeOff [k2, k1, k0] 5 1048576).bind fun off => (freeAll [k2 + off, k1 + off, k0 + off]).bind fun _ => (frz seen).bind fun us => .pure (r (k0 + off) (k1 + off) (k2 + off), us ++ [(k2 + off, b2), (k1 + off, b1), (k0 + off, b0)]),
   fun _ => (freeOff [k2, k1, k0] 5 1048576).bind fun off => (freeAll [k2 + off, k1 + off, k0 + off]).bind fun _ => (frz seen).bind fun us => .pure (r (k0 + off) (k1 + off) (k2 + off), us ++ [(k2 + off, b2), (k1 + off, b1), (k0 + off, b0)]),
   fun _ => (freeOff [k2, k1, k0] 5 1048576).bind fun off => (freeAll [k2 + off, k1 + off, k0 + off]).bind fun _ => (frz seen).bind fun us => .pure (r (k0 + off) (k1 + off) (k2 + off), us ++ [(k2 + off, b2), (k1 + off, b1), (k0 + off, b0)]), ?_⟩
 simp only [Zf5, freeOff, List.map_cons, List.map_nil, allFree, Rd.bind, Nat.add_zero]
 congr 1
 funext x
 cases x with
 | some _ => rfl
 | none =>
   simp only [Rd.bind]
   congr 1
   funext y
   cases y with
   | some _ => rfl
   | none =>
     simp only [Rd.bind]
     congr 1
     funext z
     cases z with
     | some _ => rfl
     | none =>
       simp only [Rd.bind, freeAll, Nat.add_zero]
       congr 1
       funext x
       cases x with
       | some _ => rfl
       | none =>
         simp only [Rd.bind]
         congr 1
         funext y
         cases y with
         | some _ => rfl
         | none =>
           simp only [Rd.bind]
           congr 1
           funext z
           cases z <;> rfl
theorem Z04e {k0 k1 k2 : Nat} {seen : List Nat} {r : Nat → Nat → Nat → AV} {b0 b1 b2 : Blk} {H : AHeap} : (Zf5 k0 k1 k2 seen r b0 b1 b2).run H = match hget H k2 with
   | none => match hget H k1 with
     | none => match hget H k0 with
       | none => ((frz seen).bind fun us => .pure (r k0 k1 k2, us ++ [(k2, b2), (k1, b1), (k0, b0)])).run H
       | some _ => (ZIV k0 k1 k2 seen r b0 b1 b2).run H
     | some _ => (ZIV k0 k1 k2 seen r b0 b1 b2).run H
   | some _ => (ZIV k0 k1 k2 seen r b0 b1 b2).run H := by
 cases h : hget H k2 with
 | some _ => rfl
 | none =>
   cases h2 : hget H k1 with
   | some _ => rfl
   | none =>
     cases h3 : hget H k0 with
     | some _ => rfl
     | none =>
       obtain ⟨no, no', no'', e⟩ := Z0fj k0 k1 k2 seen r b0 b1 b2
       rw [e]; simp only [Rd.run, h, h2, h3]
theorem Z07I {C : Callee} {site : Nat → Nat} {seen : List Nat} {f : FuncId} {args : List AV} {i0 i1 i2 n0 n1 n2 g0 g1 g2 z0 z1 z2 : Nat} {c0 c1 c2 : List AV} {H' : AHeap} (h : C f args [] 0 = some (.tup [.ref i0 0 n0 n0 g0 z0 false, .ref i1 0 n1 n1 g1 z1 false, .ref i2 0 n2 n2 g2 z2 false], H'))
   (h0 : hget H' i0 = some ⟨.row, c0⟩) (h1 : hget H' i1 = some ⟨.row, c1⟩) (h2 : hget H' i2 = some ⟨.row, c2⟩) (d1 : i1 ≠ i0) (d2 : i2 ≠ i0) (d3 : i2 ≠ i1) (s1 : site 1 ≠ site 0) (s2 : site 2 ≠ site 0) (s3 : site 2 ≠ site 1) (l0 : c0.length = g0) (l1 : c1.length = g1) (l2 : c2.length = g2) :
   aBack site true seen (thaw C f args [] 0) = Zf5 (site 0) (site 1) (site 2) seen (fun k k' k'' => .tup [.ref k 0 n0 n0 g0 z0 false, .ref k' 0 n1 n1 g1 z1 false, .ref k'' 0 n2 n2 g2 z2 false]) ⟨.row, c0⟩ ⟨.row, c1⟩ ⟨.row, c2⟩ := by
 subst l0; subst l1; subst l2
 have e1 : ∀ off, (site 1 + off == site 0 + off) = false := fun off => by rw [beq_eq_false_iff_ne]; omega
 have e2 : ∀ off, (site 2 + off == site 0 + off) = false := fun off => by rw [beq_eq_false_iff_ne]; omega
 have e3 : ∀ off, (site 2 + off == site 1 + off) = false := fun off => by rw [beq_eq_false_iff_ne]; omega
 simp only [thaw, h, frzRet, aBack, sitesB, aBackAt, imp, imps, h0, h1, h2, d1, d2, d3, e1, e2, e3, List.length_nil, List.length_cons, List.not_mem_nil, List.mem_cons, or_self, not_false_eq_true, and_true, if_true, List.map_cons, List.map_nil, AM.apart, List.elem_cons, List.elem_nil, Bool.not_false, Bool.and_true, AV.leads, AV.leads.leadsL, Bool.or_false, Bool.true_or, Nat.zero_add, Zf5, Nat.reduceAdd]
end Go.AM
end
noncomputable section
namespace Go.AM.YtgfnbmfjbjopkaaDoor
open Go Go.AM Go.AM.Mule
theorem ZpS {d : Nat} {ls : List Ld} {B : List Nat} {n : Nat} {e1 e2 : Bool} {lim : Int} (h : TrOk ls B n) (hT : Ord (bit B)) :
   ∃ c : List AV, c.length = 2 ^ n ∧ ∀ (site : Nat → Nat) seen, site 1 ≠ site 0 → site 2 ≠ site 0 → site 2 ≠ site 1 → aBack site true seen (thaw (callA E fg 1000 (d + 6)) 94 [.agg (trA ls B n e1 e2), .int .i64 lim] [] 0) = Zf5 (site 0) (site 1) (site 2) seen (fun k k' k'' => .tup [.ref k 0 (2 ^ n) (2 ^ n) (2 ^ n) 1 false, .ref k' 0 (2 ^ n) (2 ^ n) (2 ^ n) 1 false, .ref k'' 0 (2 ^ n) (2 ^ n) (2 ^ n) 1 false])
     ⟨.row, c⟩ ⟨.row, ins (cntL ls B 100000 n)⟩ ⟨.row, ins (cntL ls B lim n)⟩ := by
 obtain ⟨cs, H', c1, h1, h2, h3, h4⟩ := Z0bF (d := d) (e1 := e1) (e2 := e2) (lim := lim) h hT
 exact ⟨ics cs, by rw [Z0r, c1], fun site seen s1 s2 s3 => Z07I h1 h2 h3 h4 (by omega) (by omega) (by omega) s1 s2 s3 (by rw [Z0r, c1]) (by rw [Zu, Z4f]) (by rw [Zu, Z4f])⟩
def ordN (ls : List Ld) (B : List Nat) (n : Nat) (lim : Int) : Nat := cntN ls B lim (2 ^ n - 1)
theorem Z07m {d : Nat} {ls : List Ld} {es : List Pr} {a b : AV} (ha : SV lc ls a) (hb : SV bc es b) (h : chk ls es = 0) :
   rsOf (bodyA E (callA E fg 1000 (d + 6)) fg 1000 61 [.agg [a, b]] [] 0) = some (.tup [.int .i64 (ordN ls (sets ls.length es) ls.length 100000 : Nat), .int .i64 0]) := by
 have hr := fun (site : Nat → Nat) seen hs => Z9U (d := d + 3) (site := site) (seen := seen) ha hb h hs
 obtain ⟨tr, ord, _, _⟩ := Z59 h
 obtain ⟨c, c1, hu⟩ := ZpS (d := d) (e1 := false) (e2 := false) (lim := 0) tr ord
 have hall := fun (site : Nat → Nat) seen => Zai (d := d + 5) (site := site) (seen := seen) (ls := ls) (B := sets ls.length es) (n := ls.length) (e1 := false) (e2 := false) tr.le
 have sa := Z2s ha
 have sb := Z2s hb
 have hlen : (cls lc ls).length = ls.length * 5 := ZA ZX ls
 have hul : (ucs (sets ls.length es)).length = ls.length := by rw [Z0g, tr.b]
 have hat := Z10 (ZBV ls (sets ls.length es) 100000 ls.length)
 have l1 : (ins (cntL ls (sets ls.length es) 100000 ls.length)).length = 2 ^ ls.length := by rw [Zu, Z4f]
 have l2 : (ins (cntL ls (sets ls.length es) 0 ls.length)).length = 2 ^ ls.length := by rw [Zu, Z4f]
 have hN := Nat.two_pow_pos ls.length
 rw [show cntN ls (sets ls.length es) 100000 (2 ^ ls.length - 1) = ordN ls (sets ls.length es) ls.length 100000 from rfl] at hat
 generalize ordN ls (sets ls.length es) ls.length 100000 = x at *
 generalize cntL ls (sets ls.length es) 100000 ls.length = o1 at *
 generalize cntL ls (sets ls.length es) 0 ls.length = o2 at *
 generalize callA E fg 1000 (d + 6) = C at *
 generalize sets ls.length es = B at *
 have t1 : List.take (ls.length * 5) (cls lc ls) = cls lc ls := Z7n ZX ls
 have t2 : List.take ls.length (ucs B) = ucs B := List.take_of_length_le (by omega)
 have g : ((2 ^ ls.length - 1 : Nat) : Int) < ((2 ^ ls.length : Nat) : Int) := by omega
 generalize 2 ^ ls.length - 1 = N1 at *
 generalize 2 ^ ls.length = N at *
 simp (disch := omega) only [Z8, ZF, Zc, Za, Z2, Z0G, Z1, Z3, Z0, Zl, Zd, Zx, Zi, Zw, Zm, stp, opBox, justO, just, Rd.bind, Rd.run, Rd.opt, upds, acells, zeroCells, tsz, rdCells, aLoad, aStore, opStore, Zy, resA, resL, fresh, Z5, aNum, aBin, aInt, putC, Nat.reduceAdd, Nat.reduceMul, Nat.reduceLT, Nat.reduceBEq, Nat.reduceEqDiff, Nat.reduceLeDiff, ↓reduceIte, reduceCtorEq, Zf, Nat.zero_add, List.nil_append, Bool.and_true, decide_true, Z7, Zk, and_true, Int.natCast_nonneg, Int.toNat_natCast, aCall, snaps, List.append_nil, Option.map_some, List.elem_cons, List.elem_nil, List.length_cons, List.length_nil, List.getElem?_cons_zero, List.getElem?_cons_succ, List.drop_zero, List.take_succ_cons, List.take_nil, List.set_cons_zero, List.set_cons_succ, Zp, Zct, Z73, seqN, bindN, regN, Zr, ZM, ZQ, Z5K, List.cons_append, Nat.le_refl, Nat.mul_one, Nat.zero_mul, beq_self_eq_true, bne_self_eq_false, Bool.false_eq_true, T_3, T_25, T_36, ZZ, beq_self_eq_true, Z0sc, Z0jD, Z0jq, Z0k6, Z0hR, Z0ru, Z0lN, Z0j7, Z0j2, Z0m5, Z0mq, Z0m2, Z0k1, Z0mV, Z0m6, Z0r0, Z0jj, Z0kW, Z0jU, Z0s0, Z0it, Z0hZ, Z0nv, Z0mB, Z0p3, Z0rw, Z0qo, Z0qY, Z0sh, Z0qa, Z0mW, Z0m0, Z0lx, Z0lt, Z0mp, Z0kp, Z0j1, Z0nD, Z0n0, Z0mZ, Z0qs, Z0ii, Z0ke, Z0hP, Z0nm, Z0ku, Z0kk, Z0nz, Z0iV, Z0p7, Z0pM, Z0oJ, Z0rK, Z0qV, Z0rQ, b_61, sa 196, sb 195, hr, hlen, hul, t1, t2, hu, hall, Z04e, l1, hat, g]
theorem Z07S {d : Nat} {ls : List Ld} {es : List Pr} {a b : AV} (ha : SV lc ls a) (hb : SV bc es b) (h : chk ls es = 0) :
   rsOf (bodyA E (callA E fg 1000 (d + 6)) fg 1000 24 [.agg [a, b]] [] 0) = some (.tup [.int .i64 (ordN ls (sets ls.length es) ls.length (ruC ls (sets ls.length es) ls.length) : Nat), .int .i64 0]) := by
 have hr := fun (site : Nat → Nat) seen hs => Z9U (d := d + 3) (site := site) (seen := seen) ha hb h hs
 obtain ⟨tr, ord, _, _⟩ := Z59 h
 have hru := fun (site : Nat → Nat) seen => Zyh (d := d) (site := site) (seen := seen) (e1 := false) (e2 := false) tr ord
 obtain ⟨c, c1, hu⟩ := ZpS (d := d) (e1 := false) (e2 := false) (lim := ruC ls (sets ls.length es) ls.length) tr ord
 have hall := fun (site : Nat → Nat) seen => Zai (d := d + 5) (site := site) (seen := seen) (ls := ls) (B := sets ls.length es) (n := ls.length) (e1 := false) (e2 := false) tr.le
 have sa := Z2s ha
 have sb := Z2s hb
 have hlen : (cls lc ls).length = ls.length * 5 := ZA ZX ls
 have hul : (ucs (sets ls.length es)).length = ls.length := by rw [Z0g, tr.b]
 have hol : (ins (ruO ls (sets ls.length es) ls.length)).length = ls.length := by rw [Zu, ← ZUo tr ord, List.length_reverse, Zgd]
 have hat := Z10 (ZBV ls (sets ls.length es) (ruC ls (sets ls.length es) ls.length) ls.length)
 have l1 : (ins (cntL ls (sets ls.length es) 100000 ls.length)).length = 2 ^ ls.length := by rw [Zu, Z4f]
 have l2 : (ins (cntL ls (sets ls.length es) (ruC ls (sets ls.length es) ls.length) ls.length)).length = 2 ^ ls.length := by rw [Zu, Z4f]
 have hN := Nat.two_pow_pos ls.length
 rw [show cntN ls (sets ls.length es) (ruC ls (sets ls.length es) ls.length) (2 ^ ls.length - 1) = ordN ls (sets ls.length es) ls.length (ruC ls (sets ls.length es) ls.length) from rfl] at hat
 generalize ordN ls (sets ls.length es) ls.length (ruC ls (sets ls.length es) ls.length) = x at *
 generalize cntL ls (sets ls.length es) 100000 ls.length = o1 at *
 generalize cntL ls (sets ls.length es) (ruC ls (sets ls.length es) ls.length) ls.length = o2 at *
 generalize ruC ls (sets ls.length es) ls.length = lim at *
 generalize ruO ls (sets ls.length es) ls.length = ro at *
 generalize callA E fg 1000 (d + 6) = C at *
 generalize sets ls.length es = B at *
 have t1 : List.take (ls.length * 5) (cls lc ls) = cls lc ls := Z7n ZX ls
 have t2 : List.take ls.length (ucs B) = ucs B := List.take_of_length_le (by omega)
 have g : ((2 ^ ls.length - 1 : Nat) : Int) < ((2 ^ ls.length : Nat) : Int) := by omega
 generalize 2 ^ ls.length - 1 = N1 at *
 generalize 2 ^ ls.length = N at *
 simp (disch := omega) only [Z8, ZF, Zc, Za, Z2, Z0G, Z1, Z3, Z0, Zl, Zd, Zx, Zi, Zw, Zm, stp, opBox, justO, just, Rd.bind, Rd.run, Rd.opt, upds, acells, zeroCells, tsz, rdCells, aLoad, aStore, opStore, Zy, resA, resL, fresh, Z5, aNum, aBin, aInt, putC, Nat.reduceAdd, Nat.reduceMul, Nat.reduceLT, Nat.reduceBEq, Nat.reduceEqDiff, Nat.reduceLeDiff, ↓reduceIte, reduceCtorEq, Zf, Nat.zero_add, List.nil_append, Bool.and_true, decide_true, Z7, Zk, and_true, Int.natCast_nonneg, Int.toNat_natCast, aCall, snaps, List.append_nil, Option.map_some, List.elem_cons, List.elem_nil, List.length_cons, List.length_nil, List.getElem?_cons_zero, List.getElem?_cons_succ, List.drop_zero, List.take_succ_cons, List.take_nil, List.set_cons_zero, List.set_cons_succ, Zp, Zct, Z73, Z08y, seqN, bindN, regN, Zr, ZM, ZQ, Z1o, Z5K, List.cons_append, Nat.le_refl, Nat.mul_one, Nat.zero_mul, beq_self_eq_true, bne_self_eq_false, Bool.false_eq_true, T_3, T_25, T_36, ZZ, beq_self_eq_true, Z0sp, Z0mi, Z0lf, Z0no, Z0lL, Z0sM, Z0l0, Z0hE, Z0hU, Z0kH, Z0je, Z0lk, Z0mb, Z0kd, Z0nE, Z0sK, Z0ma, Z0nC, Z0mz, Z0sR, Z0j5, Z0jv, Z0nn, Z0iT, Z0pq, Z0qR, Z0p4, Z0ry, Z0rW, Z0oW, Z0jn, Z0in, Z0ld, Z0n8, Z0lr, Z0iN, Z0ne, Z0mH, Z0pl, Z0nA, Z0iO, Z0l4, Z0iF, Z0lS, Z0kJ, Z0jt, Z0kY, Z0k7, Z0lc, Z0ji, Z0pN, Z0n9, Z0kt, Z0lq, Z0kq, Z0jT, Z0iv, Z0m7, Z0kP, Z0pf, Z0q1, Z0qp, Z0qH, Z0rB, Z0ro, Z0qM, b_24, sa 196, sb 195, hr, hlen, hul, t1, t2, hru, hu, hall, Z04e, l2, hat, g]
end Go.AM.YtgfnbmfjbjopkaaDoor
end
end
