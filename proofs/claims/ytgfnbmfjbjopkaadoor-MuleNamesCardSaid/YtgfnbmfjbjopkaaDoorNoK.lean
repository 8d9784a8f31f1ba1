/- A part of the proof of muleNames_card: NmL. Own work of this project; texts printed by own programs among it. -/
import Derived.KernelRfl
import Derived.Test.YtgfnbmfjbjopkaaDoorNoJ
set_option maxRecDepth 1000000
set_option maxHeartbeats 16000000
noncomputable section
noncomputable section
namespace Go.AM.YtgfnbmfjbjopkaaDoor
open Go Go.AM Go.AM.Mule
theorem Z0dF (d : Nat) : (List.range 64).all (fun s => match callA E fg 1000 (d + 2) 109 [.int .u64 s] [] 0 with
   | some (.int .i64 (.ofNat n), _) => Nat.beq n (lst s).length
   | _ => false) = true := by kernel_rfl
theorem Z0ep {d s : Nat} (h : s < 64) : ∃ H, callA E fg 1000 (d + 2) 109 [.int .u64 s] [] 0 = some (.int .i64 ((lst s).length : Nat), H) := by
 have := List.all_eq_true.1 (Z0dF d) s (List.mem_range.2 h)
 revert this
 generalize callA E fg 1000 (d + 2) 109 [.int .u64 s] [] 0 = r
 intro this
 split at this
 · rw [← Nat.eq_of_beq_eq_true this]; exact ⟨_, rfl⟩
 · simp at this
theorem Z0c7 {d s : Nat} {site : Nat → Nat} {seen : List Nat} (h : s < 64) : aBack site true seen (thaw (callA E fg 1000 (d + 2)) 109 [.int .u64 (s : Int)] [] 0) = .pure (.int .i64 ((lst s).length : Nat), []) := Z1k (Z0ep h)
theorem Z0pA {C : Callee} {ls : List Ld} {B : List Nat} {n : Nat} {e1 e2 : Bool} {i s : Nat} (h : TrOk ls B n) (hi : i < n) (hs : s < 64) :
   rsOf (bodyA E C fg 1000 108 [.int .i64 (i : Int), .iptr (trA ls B n e1 e2) 0, .iptr [.int .u64 (s : Int)] 0] [] 0) = some (.bool (B.getD i 0 &&& s != 0)) := by
 have hat := ZaJ (Z51 h.b hi)
 have hl := Z0g B
 rw [h.b] at hl
 have hb := b_lt h (i := i)
 have ha := ZLi (a := B.getD i 0) (b := s) (by omega) (by omega)
 have hn := ZLs (B.getD i 0 &&& s)
 generalize B.getD i 0 = b at *
 simp (disch := omega) only [Bool.not_true, Bool.not_false, ZF, Zc, Za, Z2, Z1, Z3, Z0, Zw, Zm, just, Rd.bind, Rd.run, Rd.opt, upds, tsz, rdCells, fieldOf, Ze, aLoad, resA, resL, Z5, aNum, aBin, aInt, Nat.reduceAdd, Nat.reduceLT, Nat.reduceBEq, Nat.reduceEqDiff, Nat.reduceLeDiff, ↓reduceIte, reduceCtorEq, Nat.zero_add, ZE, ZH, ZO, ZP, Zz, ZL, Zt, Zn, ZC, stpT, Rd.foot, writing, Zq, Tr.empty, Zs, List.isEmpty_nil, List.map_nil, Bool.not_false, Bool.not_true, Bool.or_true, Bool.or_false, Bool.and_self, decide_true, Z7, and_true, true_and, Int.natCast_nonneg, Int.ofNat_lt, Int.toNat_natCast, Option.map_some, List.elem_cons, List.elem_nil, List.getElem?_cons_zero, List.getElem?_cons_succ, seqN, bindN, regN, Nat.le_refl, Nat.mul_one, beq_self_eq_true, Bool.false_eq_true, Z46, ZZ, Z18, beq_self_eq_true, Z0ph, Z0de, Z0fQ, Z0pO, Z0fw, Z0cg, Z0bP, Z0fM, Z0fC, Z0ft, Z0fn, Z0dX, Z0h2, Z0d6, Z0eq, Z0gW, Z0pX, Z0pr, Z0qd, Z0sW, hat, hl, ha, hn, if_pos]
theorem Z0o3 {d : Nat} {ls : List Ld} {B : List Nat} {n : Nat} {e1 e2 : Bool} {s : Nat} {l : List Nat} (h : TrOk ls B n) (hl : ∀ i ∈ l, i < n) (hs : s < 64) :
   Prd (callA E fg 1000 (d + 1)) (.clo 108 [.iptr (trA ls B n e1 e2) 0, .iptr [.int .u64 (s : Int)] 0]) l (fun i => B.getD i 0 &&& s != 0) := by
 refine ⟨fun _ => rfl, fun site i hi => ?_, rfl⟩
 have := Z5Z (site := site) (seen := []) (Z1j (Z0pA (C := callA E fg 1000 d) (e1 := e1) (e2 := e2) h (hl i hi) hs))
 simp only [opCallV, Z08e, aCall, List.cons_append, List.nil_append, List.append_nil, snaps, snap, Rd.bind]
 exact this
def restS (n s : Nat) : Nat := (2 ^ n - 1) &&& (63 - s)
def svB (ls : List Ld) (B : List Nat) (n : Nat) (snow : Int) (s : Nat) : Bool := !((lst (restS n s)).any fun i => B.getD i 0 &&& s != 0) && decide (daysS ls s ≤ snow)
def svN (ls : List Ld) (B : List Nat) (n : Nat) (snow : Int) : Nat → Nat
 | 0 => 0
 | k + 1 => if svB ls B n snow k = true then max (svN ls B n snow k) (lst k).length else svN ls B n snow k
structure SvC (C : Callee) (ls : List Ld) (B : List Nat) (n : Nat) : Prop where
 all : ∀ (site : Nat → Nat) seen e1 e2, aBack site true seen (thaw C 95 [.agg (trA ls B n e1 e2)] [] 0) = .pure (.int .u64 ((2 ^ n - 1 : Nat) : Int), [])
 days : ∀ (site : Nat → Nat) seen e1 e2 (s : Nat), s < 2 ^ n → aBack site true seen (thaw C 100 [.agg (trA ls B n e1 e2), .int .u64 (s : Int)] [] 0) = .pure (.int .i64 (daysS ls s), [])
 li : LiC C
 ones : ∀ (site : Nat → Nat) seen (s : Nat), s < 64 → aBack site true seen (thaw C 109 [.int .u64 (s : Int)] [] 0) = .pure (.int .i64 ((lst s).length : Nat), [])
 cf : ∀ (site : Nat → Nat) seen (s : Nat) (l : List Nat) a, s < 64 → (∀ i ∈ l, i < n) → LV l a → l.length ≤ 6 → aBack site true seen (thaw C 56 [a, .clo 108 [.iptr (trA ls B n false false) 0, .iptr [.int .u64 (s : Int)] 0]] [] 0) = .pure (.bool (l.any fun i => B.getD i 0 &&& s != 0), [])
theorem svC {ls : List Ld} {B : List Nat} {n : Nat} (h : TrOk ls B n) (d : Nat) : SvC (callA E fg 1000 (d + 5)) ls B n :=
 ⟨fun _ _ _ _ => Zai h.le, fun _ _ _ _ _ a => Zgy h a, liC _, fun _ _ _ a => Z0c7 a, fun site seen s l a hs hl ha h6 => Z0hJ (d := d + 3) (site := site) (seen := seen) (Z0o3 (d := d + 2) (e1 := false) (e2 := false) h hl hs) (fun n => rfl) ha (by omega)⟩
abbrev svS (ls : List Ld) (B : List Nat) (n : Nat) (snow : Int) (s : Nat) (out : Nat) : St :=
 ([(30, .int .u64 (s : Int)), (29, .int .u64 ((2 ^ n : Nat) : Int)), (8, .int .i64 (out : Int)), (6, .ptr 6 0 2), (1, .int .i64 snow)],
   [(6, ⟨.box, [.ref 13 0 n n (n * 5) 5 false, .ref 68 0 n n n 1 false]⟩), (13, ⟨.row, cls lc ls⟩), (68, ⟨.row, ucs B⟩)])
theorem Z0sC {C : Callee} {ls : List Ld} {B : List Nat} {n : Nat} {snow : Int} (hC : SvC C ls B n) (h : TrOk ls B n) {s out : Nat} (hs : s < 2 ^ n) :
   ∃ s', (execA E C (fg 36) 0 55 [] 1000 Zdx) (svS ls B n snow s out) = some (.normal, s') ∧ headA [] s' = svS ls B n snow (s + 1) (if svB ls B n snow s = true then max out (lst s).length else out) := by
 have h64 := lt64 h.le hs
 have hN : 2 ^ n ≤ 64 := Nat.pow_le_pow_right (by omega) h.le
 have hlen : (cls lc ls).length = n * 5 := by rw [ZA ZX, h.l]
 have hul : (ucs B).length = n := by rw [Z0g, h.b]
 have t1 : List.take (n * 5) (cls lc ls) = cls lc ls := List.take_of_length_le (by omega)
 have t2 : List.take n (ucs B) = ucs B := List.take_of_length_le (by omega)
 have hall := fun site seen => hC.all site seen false false
 have hdays := fun site seen => hC.days site seen false false s hs
 have hones := fun site seen => hC.ones site seen s h64
 have han := ZfH (s := 2 ^ n - 1) (t := s) (by omega) h64
 rw [show (2 ^ n - 1) &&& (63 - s) = restS n s from rfl] at han
 have hr64 : restS n s < 64 := Nat.lt_of_le_of_lt Nat.and_le_left (by omega)
 have hrn : restS n s < 2 ^ n := Nat.lt_of_le_of_lt Nat.and_le_left (by omega)
 have ws : wrp .u64 ((s : Int) + 1) = ((s + 1 : Nat) : Int) := wrpU (n := s + 1) (by omega)
 have g1 : (s : Int) < ((2 ^ n : Nat) : Int) := by omega
 have hcf := fun site seen a (ha : LV (lst (restS n s)) a) => hC.cf site seen s (lst (restS n s)) a h64 (Z5P h.le hrn) ha (Z4V _)
 have hmx : (if ((lst s).length : Int) > (out : Int) then ((lst s).length : Int) else (out : Int)) = ((max out (lst s).length : Nat) : Int) := by split <;> omega
 have hmx2 : (if out < (lst s).length then ((lst s).length : Int) else (out : Int)) = ((max out (lst s).length : Nat) : Int) := by split <;> omega
 have htk := ZgZ (lst (restS n s))
 have hil := Zu (lst (restS n s))
 unfold svB
 simp only [svS]
 generalize hN1 : 2 ^ n - 1 = N1 at *
 generalize 2 ^ n = N at *
 generalize hany : ((lst (restS n s)).any fun i => B.getD i 0 &&& s != 0) = bb at *
 by_cases hz : restS n s = 0
 · have hr := hC.li.nil
   have hcf0 := fun site seen => hcf site seen .nilsl (.inl ⟨(ZhR _ hr64).2 hz, rfl⟩)
   rw [hz] at han
   have z0 : ((0 : Nat) : Int) = 0 := rfl
   rw [z0] at han
   clear hcf
   cases bb with
   | true =>
     simp only [Bool.not_true, Bool.false_and, Bool.false_eq_true, if_false]
     simp (disch := omega) only [Z8, Zg, ↓gd, ZW, Bool.not_true, Bool.not_false, Zc, Za, Z2, Z1, Z3, Z0, Zl, Zd, Zi, Zo, Zm, stp, opPick, opBox, justO, just, Rd.bind, Rd.run, Rd.opt, upds, acells, zeroCells, tsz, rdCells, aLoad, aStore, opStore, fresh, aBin, aInt, putC, Nat.reduceAdd, Nat.reduceBEq, Nat.reduceEqDiff, Nat.reduceLeDiff, ↓reduceIte, Zf, Nat.zero_add, List.nil_append, ZE, ZH, ZO, ZP, Zz, ZL, Zt, Zn, ZC, Zv, stpT, Rd.foot, writing, Zq, Tr.empty, Zs, apartT, disj, List.isEmpty_nil, List.isEmpty_cons, List.map_nil, Bool.not_false, Bool.not_true, Bool.true_or, Bool.or_true, Bool.or_false, Bool.and_true, Bool.true_and, Bool.and_self, decide_true, aUn, Z7, Zk, and_true, aCall, snaps, List.append_nil, List.elem_cons, List.elem_nil, List.length_cons, List.length_nil, List.getElem?_cons_zero, List.drop_zero, List.take_succ_cons, List.take_nil, List.set_cons_zero, Zp, seqN, bindN, regN, Zr, ZU, ZM, Z0q, ZQ, Z2K, List.all_cons, List.all_nil, List.cons_append, Nat.le_refl, Nat.mul_one, List.not_mem_nil, beq_self_eq_true, Bool.false_eq_true, ZZ, Z18, List.all_cons, List.all_nil, List.getD_cons_zero, List.getD_cons_succ, beq_self_eq_true, ZaI, Z82, Z6T, ZaN, Zad, Zav, ZcV, Z9Y, Z9W, Z9Z, Za0, ZdB, Z7Q, Z5C, Z5O, Z6O, Z7v, Z8s, Z74, Z7x, Z8K, Z76, Z6A, Z6t, ZdD, Z6K, Z7b, Z8n, Z8D, Z8k, Z7P, Z7z, Z6H, Z6n, Zc6, Z75, Z6u, Z7V, Z7i, ZbY, Zdy, Zdh, ZcJ, ZcA, Zcf, ZdA, Z6r, Z8e, Z79, Zcl, Zar, Zap, g1, hlen, hul, t1, t2, hall, han, hr, hcf0, ws]
     exact ⟨_, rfl, rfl⟩
   | false =>
     simp only [Bool.not_false, Bool.true_and, decide_eq_true_eq]
     by_cases hd : daysS ls s ≤ snow
     · rw [if_pos hd]
       simp (disch := omega) only [Z8, Zg, ↓gd, ZW, Bool.not_true, Bool.not_false, Zc, Za, Z2, Z1, Z3, Z0, Zl, Zd, Zi, Zo, Zm, stp, opPick, opBox, justO, just, Rd.bind, Rd.run, Rd.opt, upds, acells, zeroCells, tsz, rdCells, aLoad, aStore, opStore, fresh, Zh, aMax, aBin, aInt, putC, Nat.reduceAdd, Nat.reduceBEq, Nat.reduceEqDiff, Nat.reduceLeDiff, ↓reduceIte, Zf, Nat.zero_add, List.nil_append, ZE, ZH, ZO, ZP, Zz, ZL, Zt, Zn, ZC, Zv, stpT, Rd.foot, writing, Zq, Tr.empty, Zs, apartT, disj, List.isEmpty_nil, List.isEmpty_cons, List.map_nil, Bool.not_false, Bool.not_true, Bool.true_or, Bool.or_true, Bool.or_false, Bool.and_true, Bool.true_and, Bool.and_self, decide_true, aUn, Z7, Zk, and_true, Int.ofNat_lt, aCall, snaps, List.append_nil, List.elem_cons, List.elem_nil, List.length_cons, List.length_nil, List.getElem?_cons_zero, List.drop_zero, List.take_succ_cons, List.take_nil, List.set_cons_zero, Zp, seqN, bindN, regN, Zr, ZU, ZM, Z0q, ZQ, Z2K, List.all_cons, List.all_nil, List.cons_append, Nat.le_refl, Nat.mul_one, List.not_mem_nil, beq_self_eq_true, Bool.false_eq_true, ZZ, Z18, List.all_cons, List.all_nil, List.getD_cons_zero, List.getD_cons_succ, beq_self_eq_true, ZaI, Z82, Z6T, ZaN, Zad, Zav, ZcV, Z9Y, Z9W, Z9Z, Za0, ZdB, Z7Q, Z5C, Z5O, Z6O, Z7v, Z8s, Z74, Z7x, Z8K, Z76, Z6A, Z6t, ZdD, Z6K, Z7b, Z8n, Z8D, Z8k, Z7P, Z7z, Z6H, Z6n, Zc6, Z75, Z6u, Z7V, Z7i, ZNI, ZJI, ZbY, Zdy, Zdh, ZcJ, ZcA, Zcf, ZdA, Z6r, Z8e, Z79, Zcl, Zar, Zap, g1, hlen, hul, t1, t2, hall, han, hr, hcf0, hdays, hd, hones, hmx2, ws]
       exact ⟨_, rfl, rfl⟩
     · rw [if_neg hd]
       simp (disch := omega) only [Z8, Zg, ↓gd, ZW, Bool.not_true, Bool.not_false, Zc, Za, Z2, Z1, Z3, Z0, Zl, Zd, Zi, Zo, Zm, stp, opPick, opBox, justO, just, Rd.bind, Rd.run, Rd.opt, upds, acells, zeroCells, tsz, rdCells, aLoad, aStore, opStore, fresh, aBin, aInt, putC, Nat.reduceAdd, Nat.reduceBEq, Nat.reduceEqDiff, Nat.reduceLeDiff, ↓reduceIte, Zf, Nat.zero_add, List.nil_append, ZE, ZH, ZO, ZP, Zz, ZL, Zt, Zn, ZC, Zv, stpT, Rd.foot, writing, Zq, Tr.empty, Zs, apartT, disj, List.isEmpty_nil, List.isEmpty_cons, List.map_nil, Bool.not_false, Bool.not_true, Bool.true_or, Bool.or_true, Bool.or_false, Bool.and_true, Bool.true_and, Bool.and_self, decide_true, decide_false, aUn, Z7, Zk, and_true, aCall, snaps, List.append_nil, List.elem_cons, List.elem_nil, List.length_cons, List.length_nil, List.getElem?_cons_zero, List.drop_zero, List.take_succ_cons, List.take_nil, List.set_cons_zero, Zp, seqN, bindN, regN, Zr, ZU, ZM, Z0q, ZQ, Z2K, List.all_cons, List.all_nil, List.cons_append, Nat.le_refl, Nat.mul_one, List.not_mem_nil, beq_self_eq_true, Bool.false_eq_true, ZZ, Z18, List.all_cons, List.all_nil, List.getD_cons_zero, List.getD_cons_succ, beq_self_eq_true, ZaI, Z82, Z6T, ZaN, Zad, Zav, ZcV, Z9Y, Z9W, Z9Z, Za0, ZdB, Z7Q, Z5C, Z5O, Z6O, Z7v, Z8s, Z74, Z7x, Z8K, Z76, Z6A, Z6t, ZdD, Z6K, Z7b, Z8n, Z8D, Z8k, Z7P, Z7z, Z6H, Z6n, Zc6, Z75, Z6u, Z7V, Z7i, ZbY, Zdy, Zdh, ZcJ, ZcA, Zcf, ZdA, Z6r, Z8e, Z79, Zcl, Zar, Zap, g1, hlen, hul, t1, t2, hall, han, hr, hcf0, hdays, hd, ws]
       exact ⟨_, rfl, rfl⟩
 · have hr := fun site seen => hC.li.ref site seen _ hr64 hz
   have hcf0 := fun site seen ex => hcf site seen (.imm (ins (lst (restS n s))) (lst (restS n s)).length ex) (.inr ⟨ex, rfl⟩)
   clear hcf
   clear hany
   generalize lst (restS n s) = l at *
   cases bb with
   | true =>
     simp only [Bool.not_true, Bool.false_and, Bool.false_eq_true, if_false]
     simp (disch := omega) only [Z8, Zg, ↓gd, ZW, Bool.not_true, Bool.not_false, Zc, Za, Z2, Z1, Z3, Z0, Zl, Zd, Zi, Zo, Zm, stp, opPick, opBox, justO, just, Rd.bind, Rd.run, Rd.opt, upds, acells, zeroCells, tsz, rdCells, aLoad, aStore, opStore, fresh, aBin, aInt, putC, Nat.reduceAdd, Nat.reduceBEq, Nat.reduceEqDiff, Nat.reduceLeDiff, ↓reduceIte, Zf, Nat.zero_add, List.nil_append, ZE, ZH, ZO, ZP, Zz, ZL, Zt, Zn, ZC, Zv, stpT, Rd.foot, writing, Zq, Tr.empty, Zs, apartT, disj, List.isEmpty_nil, List.isEmpty_cons, List.map_nil, List.map_cons, Bool.not_false, Bool.not_true, Bool.true_or, Bool.or_true, Bool.or_false, Bool.and_true, Bool.true_and, Bool.and_self, decide_true, aUn, Z7, Zk, and_true, aCall, snaps, List.append_nil, List.elem_cons, List.elem_nil, List.length_cons, List.length_nil, List.getElem?_cons_zero, List.drop_zero, List.take_succ_cons, List.take_nil, List.set_cons_zero, Zp, seqN, bindN, regN, Zr, ZM, Z0q, ZQ, Z2K, List.all_cons, List.all_nil, Z1o, Ztn, List.cons_append, Nat.le_refl, Nat.mul_one, Nat.zero_mul, List.not_mem_nil, beq_self_eq_true, Bool.false_eq_true, ZZ, Z18, List.all_cons, List.all_nil, List.getD_cons_zero, List.getD_cons_succ, beq_self_eq_true, ZaI, Z82, Z6T, ZaN, Zad, Zav, ZcV, Z9Y, Z9W, Z9Z, Za0, ZdB, Z7Q, Z5C, Z5O, Z6O, Z7v, Z8s, Z74, Z7x, Z8K, Z76, Z6A, Z6t, ZdD, Z6K, Z7b, Z8n, Z8D, Z8k, Z7P, Z7z, Z6H, Z6n, Zc6, Z75, Z6u, Z7V, Z7i, ZbY, Zdy, Zdh, ZcJ, ZcA, Zcf, ZdA, Z6r, Z8e, Z79, Zcl, Zar, Zap, g1, hlen, hul, t1, t2, hall, han, hr, hil, htk, hcf0, ws]
     exact ⟨_, rfl, rfl⟩
   | false =>
     simp only [Bool.not_false, Bool.true_and, decide_eq_true_eq]
     by_cases hd : daysS ls s ≤ snow
     · rw [if_pos hd]
       simp (disch := omega) only [Z8, Zg, ↓gd, ZW, Bool.not_true, Bool.not_false, Zc, Za, Z2, Z1, Z3, Z0, Zl, Zd, Zi, Zo, Zm, stp, opPick, opBox, justO, just, Rd.bind, Rd.run, Rd.opt, upds, acells, zeroCells, tsz, rdCells, aLoad, aStore, opStore, fresh, Zh, aMax, aBin, aInt, putC, Nat.reduceAdd, Nat.reduceBEq, Nat.reduceEqDiff, Nat.reduceLeDiff, ↓reduceIte, Zf, Nat.zero_add, List.nil_append, ZE, ZH, ZO, ZP, Zz, ZL, Zt, Zn, ZC, Zv, stpT, Rd.foot, writing, Zq, Tr.empty, Zs, apartT, disj, List.isEmpty_nil, List.isEmpty_cons, List.map_nil, List.map_cons, Bool.not_false, Bool.not_true, Bool.true_or, Bool.or_true, Bool.or_false, Bool.and_true, Bool.true_and, Bool.and_self, decide_true, aUn, Z7, Zk, and_true, Int.ofNat_lt, aCall, snaps, List.append_nil, List.elem_cons, List.elem_nil, List.length_cons, List.length_nil, List.getElem?_cons_zero, List.drop_zero, List.take_succ_cons, List.take_nil, List.set_cons_zero, Zp, seqN, bindN, regN, Zr, ZM, Z0q, ZQ, Z2K, List.all_cons, List.all_nil, Z1o, Ztn, List.cons_append, Nat.le_refl, Nat.mul_one, Nat.zero_mul, List.not_mem_nil, beq_self_eq_true, Bool.false_eq_true, ZZ, Z18, List.all_cons, List.all_nil, List.getD_cons_zero, List.getD_cons_succ, beq_self_eq_true, ZaI, Z82, Z6T, ZaN, Zad, Zav, ZcV, Z9Y, Z9W, Z9Z, Za0, ZdB, Z7Q, Z5C, Z5O, Z6O, Z7v, Z8s, Z74, Z7x, Z8K, Z76, Z6A, Z6t, ZdD, Z6K, Z7b, Z8n, Z8D, Z8k, Z7P, Z7z, Z6H, Z6n, Zc6, Z75, Z6u, Z7V, Z7i, ZNI, ZJI, ZbY, Zdy, Zdh, ZcJ, ZcA, Zcf, ZdA, Z6r, Z8e, Z79, Zcl, Zar, Zap, g1, hlen, hul, t1, t2, hall, han, hr, hil, htk, hcf0, hdays, hd, hones, hmx2, ws]
       exact ⟨_, rfl, rfl⟩
     · rw [if_neg hd]
       simp (disch := omega) only [Z8, Zg, ↓gd, ZW, Bool.not_true, Bool.not_false, Zc, Za, Z2, Z1, Z3, Z0, Zl, Zd, Zi, Zo, Zm, stp, opPick, opBox, justO, just, Rd.bind, Rd.run, Rd.opt, upds, acells, zeroCells, tsz, rdCells, aLoad, aStore, opStore, fresh, aBin, aInt, putC, Nat.reduceAdd, Nat.reduceBEq, Nat.reduceEqDiff, Nat.reduceLeDiff, ↓reduceIte, Zf, Nat.zero_add, List.nil_append, ZE, ZH, ZO, ZP, Zz, ZL, Zt, Zn, ZC, Zv, stpT, Rd.foot, writing, Zq, Tr.empty, Zs, apartT, disj, List.isEmpty_nil, List.isEmpty_cons, List.map_nil, List.map_cons, Bool.not_false, Bool.not_true, Bool.true_or, Bool.or_true, Bool.or_false, Bool.and_true, Bool.true_and, Bool.and_self, decide_true, decide_false, aUn, Z7, Zk, and_true, aCall, snaps, List.append_nil, List.elem_cons, List.elem_nil, List.length_cons, List.length_nil, List.getElem?_cons_zero, List.drop_zero, List.take_succ_cons, List.take_nil, List.set_cons_zero, Zp, seqN, bindN, regN, Zr, ZM, Z0q, ZQ, Z2K, List.all_cons, List.all_nil, Z1o, Ztn, List.cons_append, Nat.le_refl, Nat.mul_one, Nat.zero_mul, List.not_mem_nil, beq_self_eq_true, Bool.false_eq_true, ZZ, Z18, List.all_cons, List.all_nil, List.getD_cons_zero, List.getD_cons_succ, beq_self_eq_true, ZaI, Z82, Z6T, ZaN, Zad, Zav, ZcV, Z9Y, Z9W, Z9Z, Za0, ZdB, Z7Q, Z5C, Z5O, Z6O, Z7v, Z8s, Z74, Z7x, Z8K, Z76, Z6A, Z6t, ZdD, Z6K, Z7b, Z8n, Z8D, Z8k, Z7P, Z7z, Z6H, Z6n, Zc6, Z75, Z6u, Z7V, Z7i, ZbY, Zdy, Zdh, ZcJ, ZcA, Zcf, ZdA, Z6r, Z8e, Z79, Zcl, Zar, Zap, g1, hlen, hul, t1, t2, hall, han, hr, hil, htk, hcf0, hdays, hd, ws]
       exact ⟨_, rfl, rfl⟩
def savedE (ls : List Ld) (es : List Pr) (snow : Int) : Int := if chk ls es ≠ 0 then chk ls es else if snow < 0 ∨ 54 < snow then 1 else 0
theorem Z06u {d : Nat} {ls : List Ld} {es : List Pr} {a b : AV} {snow : Int} (ha : SV lc ls a) (hb : SV bc es b) (h : savedE ls es snow = 0) :
   rsOf (bodyA E (callA E fg 1000 (d + 5)) fg 1000 36 [.agg [a, b], .int .i64 snow] [] 0) = some (.tup [.int .i64 (svN ls (sets ls.length es) ls.length snow (2 ^ ls.length) : Nat), .int .i64 0]) := by
 have sa := Z2s ha
 have sb := Z2s hb
 have hk : chk ls es = 0 := by
   unfold savedE at h
   split at h
   · rename_i h1; exact absurd h h1
   · rename_i h1; simpa using h1
 have hsn : ¬ snow < 0 ∧ ¬ snow > 54 := by
   unfold savedE at h
   rw [if_neg (by simpa using hk)] at h
   split at h
   · simp at h
   · rename_i h1; omega
 obtain ⟨g3, g4⟩ := hsn
 have hr := fun (site : Nat → Nat) seen hs => Z9U (d := d + 2) (site := site) (seen := seen) ha hb hk hs
 obtain ⟨tr, ord, _, _⟩ := Z59 hk
 have hC := svC tr d
 have hlen : (cls lc ls).length = ls.length * 5 := ZA ZX ls
 have hul : (ucs (sets ls.length es)).length = ls.length := by rw [Z0g, tr.b]
 have t1 : List.take (ls.length * 5) (cls lc ls) = cls lc ls := Z7n ZX ls
 have t2 : List.take ls.length (ucs (sets ls.length es)) = ucs (sets ls.length es) := List.take_of_length_le (by omega)
 have hN : 2 ^ ls.length ≤ 64 := Nat.pow_le_pow_right (by omega) tr.le
 have hN1 := Nat.two_pow_pos ls.length
 generalize callA E fg 1000 (d + 5) = C at *
 generalize sets ls.length es = B at *
 have hall := fun site seen => hC.all site seen false false
 have w1 : wrp .u64 (((2 ^ ls.length - 1 : Nat) : Int) + 1) = ((2 ^ ls.length : Nat) : Int) := by
   have := wrpU (n := 2 ^ ls.length) (by omega)
   rw [← this]; congr 1; omega
 have hloop := Z2M (f := (execA E C (fg 36) 0 55 [] 1000 Zdx)) (hd := headA []) (fun k => svS ls B ls.length snow k (svN ls B ls.length snow k)) (2 ^ ls.length) 1000 0
   ([(30, .int .u64 0), (29, .int .u64 ((2 ^ ls.length : Nat) : Int)), (8, .int .i64 0), (6, .ptr 6 0 2), (1, .int .i64 snow)],
     [(2, ⟨.box, [a, b]⟩), (6, ⟨.box, [.ref 13 0 ls.length ls.length (ls.length * 5) 5 false, .ref 68 0 ls.length ls.length ls.length 1 false]⟩), (13, ⟨.row, cls lc ls⟩), (68, ⟨.row, ucs B⟩)])
   (by rcases ha with ⟨_, rfl⟩ | ⟨e, rfl⟩ <;> rcases hb with ⟨_, rfl⟩ | ⟨e', rfl⟩ <;> rfl) (by omega) (fun k _ hk => by
     have := Z0sC (snow := snow) (out := svN ls B ls.length snow k) hC tr (show k < 2 ^ ls.length by omega)
     exact this)
   (e := .exit 1) (se := ([(31, .bool false), (30, .int .u64 ((2 ^ ls.length : Nat) : Int)), (29, .int .u64 ((2 ^ ls.length : Nat) : Int)), (8, .int .i64 (svN ls B ls.length snow (2 ^ ls.length) : Nat)), (6, .ptr 6 0 2), (1, .int .i64 snow)],
     [(6, ⟨.box, [.ref 13 0 ls.length ls.length (ls.length * 5) 5 false, .ref 68 0 ls.length ls.length ls.length 1 false]⟩), (13, ⟨.row, cls lc ls⟩), (68, ⟨.row, ucs B⟩)]))
   (by
     rw [Nat.zero_add]
     simp only [svS]
     generalize svN ls B ls.length snow (2 ^ ls.length) = v at *
     generalize 2 ^ ls.length = N at *
     simp (disch := omega) only [ZR, Z8, Zc, Za, Z2, Z1, Z3, Z0, Zo, stp, just, Rd.bind, Rd.run, Rd.opt, upds, aBin, aInt, Nat.reduceEqDiff, Nat.reduceLeDiff, ↓reduceIte, decide_false, Z7, List.elem_nil, seqN, bindN, regN, Int.lt_irrefl, Bool.false_eq_true, ZaI, Z82, Z6T, ZaN, Zad, Zav, Zar, Zap]) (by simp)
 generalize svN ls B ls.length snow (2 ^ ls.length) = v at *
 generalize 2 ^ ls.length - 1 = N1 at *
 generalize 2 ^ ls.length = N at *
 simp (disch := omega) only [Z8, ZJ, Zg, ↓gd, ZW, ZF, Zc, Za, Z2, Z0G, Z1, Z3, Z0, Zl, Zd, Zx, Zi, Zw, Zo, Zm, stp, opPick, opBox, justO, just, Rd.bind, Rd.run, Rd.opt, upds, acells, zeroCells, tsz, rdCells, aLoad, aStore, opStore, Zy, resA, resL, fresh, aBin, aInt, putC, Nat.reduceAdd, Nat.reduceMul, Nat.reduceBEq, Nat.reduceEqDiff, Nat.reduceLeDiff, ↓reduceIte, reduceCtorEq, Zf, Nat.zero_add, List.nil_append, Bool.and_true, decide_true, decide_false, Z7, Zk, and_true, aCall, snaps, List.append_nil, Option.map_some, List.elem_cons, List.elem_nil, List.length_cons, List.length_nil, List.getElem?_cons_zero, List.getElem?_cons_succ, List.drop_zero, List.take_succ_cons, List.take_nil, List.set_cons_zero, List.set_cons_succ, Zp, seqN, bindN, regN, ZM, ZQ, Z5K, List.cons_append, Nat.le_refl, Nat.mul_one, Nat.zero_mul, beq_self_eq_true, bne_self_eq_false, Bool.false_eq_true, T_25, ZZ, beq_self_eq_true, Z0sx, Z0iQ, Z0kL, Z0hS, Z0hF, Z0t1, Z0iE, Z0mQ, Z0li, Z0ly, Z0kI, Z0hM, Z0jy, Z0lH, Z0my, Z0rf, Z0j8, Z0io, Z0ig, Z0mc, Z0q7, Z0iW, Z0lz, Z0mF, Z0jg, Z0oP, Z0ra, Z0pg, Z0im, Z0k9, Z0kT, Z0kf, Z0lD, Z0iD, Z0nM, Z0nF, Z0oI, Z0me, Z0k8, Z0ng, Z0oF, Z0p5, Z0pU, Z0pS, Z0pI, Z0rT, Z0si, Z0rP, Z0oU, Z0lh, Z0iA, Z0nS, Z0j9, Z0kV, Z0jl, Z0k2, Z0n7, Z0pC, Z0oz, Z0oA, Z0oc, Z0eW, Z0fO, Z0eJ, Z0h5, Z0o7, Z0py, Z0q6, Z0pH, Z0rE, Z0qS, Z0sX, b_36, sa 196, sb 195, hr, hlen, hul, t1, t2, g3, g4, hall, w1, hloop]
end Go.AM.YtgfnbmfjbjopkaaDoor
end
noncomputable section
namespace Go.AM.YtgfnbmfjbjopkaaDoor
open Go Go.AM Go.AM.Mule
def latV (cost : Int) (l : Ld) : Int := if l.base > cost then -1 else if l.rate = 0 then 54 else min 54 (l.due + min (cost - l.base) 486 / l.rate)
def latG (cost : Int) (l : Ld) : Nat := if l.base > cost then 52 else if l.rate = 0 then 59 else 44
theorem Z0lB (cost l) : latG cost l = 52 ∨ latG cost l = 59 ∨ latG cost l = 44 := by
 unfold latG; split
 · exact .inl rfl
 · split
   · exact .inr (.inl rfl)
   · exact .inr (.inr rfl)
def latL (cost : Int) (ls : List Ld) : List Int := ls.map (latV cost)
theorem Z0hD {cost : Int} {l : Ld} (h : LdOk l) (h1 : ¬ l.base > cost) (_ : ¬ l.rate = 0) (hc : cost ≤ 9223372036854775807) : wrp .i64 (cost - l.base) = cost - l.base ∧ (if 486 < cost - l.base then (486 : Int) else cost - l.base) = min (cost - l.base) 486 ∧ wrp .i64 ((min (cost - l.base) 486).tdiv l.rate) = min (cost - l.base) 486 / l.rate ∧
   wrp .i64 (l.due + min (cost - l.base) 486 / l.rate) = l.due + min (cost - l.base) 486 / l.rate ∧ (if l.due + min (cost - l.base) 486 / l.rate < 54 then l.due + min (cost - l.base) 486 / l.rate else 54) = min 54 (l.due + min (cost - l.base) 486 / l.rate) := by
 obtain ⟨_, _, hd, hr, hb⟩ := h
 have hm : 0 ≤ min (cost - l.base) 486 ∧ min (cost - l.base) 486 ≤ 486 := by omega
 have hq1 : 0 ≤ min (cost - l.base) 486 / l.rate := Int.ediv_nonneg hm.1 hr.1
 have hq2 : min (cost - l.base) 486 / l.rate ≤ min (cost - l.base) 486 := Int.ediv_le_self _ hm.1
 refine ⟨Z0i (by omega), by split <;> omega, ?_, Z0i (by omega), by split <;> omega⟩
 rw [Int.tdiv_eq_ediv_of_nonneg hm.1]
 exact Z0i (by omega)
abbrev la0 (ls : List Ld) (cost : Int) (n : Nat) : St :=
 ([(26, .int .i64 0), (25, .int .i64 n), (24, .ref 13 0 n n (n * 5) 5 false), (8, .nilsl), (1, .int .i64 cost)], [(13, ⟨.row, cls lc ls⟩)])
abbrev laS (ls : List Ld) (cost : Int) (n g i : Nat) : St :=
 ([(26, .int .i64 i), (25, .int .i64 n), (24, .ref 13 0 n n (n * 5) 5 false), (8, .ref g 0 i i i 1 false), (1, .int .i64 cost)], [(13, ⟨.row, cls lc ls⟩), (g, ⟨.row, ics (latL cost (ls.take i))⟩)])
theorem Z0ff {C : Callee} {ls : List Ld} {B : List Nat} {n : Nat} {cost : Int} (h : TrOk ls B n) (hc : cost ≤ 9223372036854775807) {x : Ld} (hx : ls[0]? = some x) :
   ∃ s', (execA E C (fg 38) 0 62 [] 1000 Z6c) (la0 ls cost n) = some (.normal, s') ∧ headA [] s' = laS ls cost n (latG cost x) 1 := by
 have hok := h.ld x (List.mem_of_getElem? hx)
 have hat := Z1l ZX hx
 rw [Nat.zero_mul, List.drop_zero] at hat
 have hlen : (cls lc ls).length = n * 5 := by rw [ZA ZX, h.l]
 have hne := h.ne
 have hle := h.le
 have g1 : (0 : Int) < n := by omega
 have e : ls.take 1 = [x] := by
   cases ls with
   | nil => simp at hx
   | cons a l => simp at hx; subst hx; rfl
 have z1 : ((1 : Nat) : Int) = 1 := rfl
 simp only [laS, la0, e, latL, List.map_cons, List.map_nil, ics, z1]
 have w1 : wrp .i64 (0 + 1) = 1 := rfl
 simp only [lc] at hat
 by_cases c1 : x.base > cost
 · have e1 : latV cost x = -1 := by unfold latV; rw [if_pos c1]
   have e2 : latG cost x = 52 := by unfold latG; rw [if_pos c1]
   rw [e1, e2]
   simp (disch := omega) only [Z8, Zg, Zc, Za, Z2, Z1, Z3, Z0, Zl, Zd, Zx, Zi, Zo, Zm, stp, opBox, justO, just, Rd.bind, Rd.run, Rd.opt, upds, acells, zeroCells, tsz, elemT, rdCells, aLoad, aStore, opStore, fresh, Z5, aNum, Zh, aMin, aBin, aInt, putC, evO, ofV, ofV1, Nat.reduceAdd, Nat.reduceLT, Nat.reduceBEq, Nat.reduceEqDiff, Nat.reduceLeDiff, Int.reduceNeg, ↓reduceIte, reduceCtorEq, Zf, Nat.zero_add, Nat.add_zero, ne_eq, beq_iff_eq, List.nil_append, List.getElem?_toArray, ZE, Zz, ZL, Zt, Zn, ZC, Zv, stpT, Rd.foot, List.map_nil, Bool.and_self, decide_true, not_true_eq_false, or_self, ZB, Z02, fo6, fo5, partsOf, fillA, repC, Z00, aAppend, srcOf, window, Z7, Zk, and_true, true_and, snaps, List.append_nil, List.elem_cons, List.elem_nil, List.length_cons, List.length_nil, List.getElem?_cons_zero, List.getElem?_cons_succ, List.drop_zero, List.take_succ_cons, List.take_nil, List.set_cons_zero, List.set_cons_succ, Zp, seqN, bindN, regN, Zr, Nat.le_refl, Int.reduceLE, Int.reduceToNat, Nat.mul_one, Nat.zero_mul, List.not_mem_nil, beq_self_eq_true, Nat.lt_irrefl, Bool.false_eq_true, T_3, T_36, Z0P, Z0E, beq_self_eq_true, Z34, Z2g, Z2f, Z2Y, Z2W, Z2X, Z3K, Z2r, Z2w, Z2u, Z2v, Z2t, Z3w, Z1t, Z1q, Z1I, Z1S, Z1A, Z1N, Z3C, Z1Z, Z1V, Z1B, Z1F, Z1R, Z3O, Z1M, Z1w, Z1J, Z1K, Z1U, Z3S, Z1P, Z1H, Z1u, Z1s, Z20, Z3Q, Z1Q, Z16, Z1v, Z1D, Z1z, Z1E, Z1W, Z1Y, Z1x, Z1G, Z1T, Z1r, Z17, Z3L, Z3D, Z3U, Z3B, Z3z, Z3G, Z3A, Z3M, Z1C, Z1y, Z1O, Z3N, Z3f, Z30, g1, hat, hlen, c1, w1, if_pos, Z45 (show 1 ≤ 1000000 by omega)]
   exact ⟨_, rfl, rfl⟩
 · by_cases c2 : x.rate = 0
   · have e1 : latV cost x = 54 := by unfold latV; rw [if_neg c1, if_pos c2]
     have e2 : latG cost x = 59 := by unfold latG; rw [if_neg c1, if_pos c2]
     rw [e1, e2]
     simp (disch := omega) only [Zbo, Z8, Zg, Zc, Za, Z2, Z1, Z3, Z0, Zl, Zd, Zx, Zi, Zo, Zm, stp, opBox, justO, just, Rd.bind, Rd.run, Rd.opt, upds, acells, zeroCells, tsz, elemT, rdCells, aLoad, aStore, opStore, fresh, Z5, aNum, Zh, aMin, aBin, aInt, putC, evO, ofV, ofV1, Nat.reduceAdd, Nat.reduceLT, Nat.reduceBEq, Nat.reduceEqDiff, Nat.reduceLeDiff, Int.reduceNeg, ↓reduceIte, reduceCtorEq, Zf, Nat.zero_add, Nat.add_zero, ne_eq, List.nil_append, List.getElem?_toArray, ZE, ZeR, Zbv, ZeX, Zz, ZL, Zt, Zn, ZC, Zv, stpT, Rd.foot, List.map_nil, Bool.and_self, decide_true, decide_false, not_true_eq_false, or_self, ZB, Z02, fo6, fo5, partsOf, fillA, repC, Z00, aAppend, srcOf, window, Z7, Zk, and_true, true_and, snaps, List.append_nil, List.elem_cons, List.elem_nil, List.length_cons, List.length_nil, List.getElem?_cons_zero, List.getElem?_cons_succ, List.drop_zero, List.take_succ_cons, List.take_nil, List.set_cons_zero, List.set_cons_succ, Zp, seqN, bindN, regN, Zr, Nat.le_refl, Int.reduceLE, Int.reduceToNat, Nat.mul_one, Nat.zero_mul, List.not_mem_nil, beq_self_eq_true, Nat.lt_irrefl, Bool.false_eq_true, T_3, T_36, Z0P, Z0E, beq_self_eq_true, Z34, Z2g, Z2f, Z2Y, Z2W, Z2X, Z3K, Z2r, Z2w, Z2u, Z2v, Z2t, Z3w, Z1t, Z1q, Z1I, Z1S, Z1A, Z1N, Z3C, Z1Z, Z1V, Z1B, Z1F, Z1R, Z3O, Z1M, Z1w, Z1J, Z1K, Z1U, Z3S, Z1P, Z1H, Z1u, Z1s, Z20, Z3Q, Z1Q, Z16, Z1v, Z1D, Z1z, Z1E, Z1W, Z1Y, Z1x, Z1G, Z1T, Z1r, Z17, Z3L, Z3D, Z3U, Z3B, Z3z, Z3G, Z3A, Z3M, Z1C, Z1y, Z1O, Z3N, Z3f, Z30, g1, hat, hlen, c1, c2, w1, if_pos, Z45 (show 1 ≤ 1000000 by omega)]
     exact ⟨_, rfl, rfl⟩
   · have e1 : latV cost x = min 54 (x.due + min (cost - x.base) 486 / x.rate) := by unfold latV; rw [if_neg c1, if_neg c2]
     have e2 : latG cost x = 44 := by unfold latG; rw [if_neg c1, if_neg c2]
     obtain ⟨b1, b2, b3, b4, b5⟩ := Z0hD hok c1 c2 hc
     rw [e1, e2]
     simp (disch := omega) only [Z8, Zg, Bool.not_true, Bool.not_false, Zc, Za, Z2, Z1, Z3, Z0, Zl, Zd, Zx, Zi, Zo, Zm, stp, opBox, justO, just, Rd.bind, Rd.run, Rd.opt, upds, acells, zeroCells, tsz, elemT, rdCells, aLoad, aStore, opStore, fresh, Z5, aNum, Zh, aMin, aBin, aInt, putC, evO, ofV, ofV1, Nat.reduceAdd, Nat.reduceLT, Nat.reduceBEq, Nat.reduceEqDiff, Nat.reduceLeDiff, Int.reduceNeg, ↓reduceIte, reduceCtorEq, Zf, Nat.zero_add, Nat.add_zero, ne_eq, beq_iff_eq, List.nil_append, List.getElem?_toArray, ZE, ZH, ZO, ZP, Zz, ZL, Zt, Zn, ZC, Zv, stpT, Rd.foot, writing, Zq, Tr.empty, Zs, apartT, disj, List.isEmpty_nil, List.isEmpty_cons, List.map_nil, List.map_cons, Bool.not_false, Bool.not_true, Bool.true_or, Bool.or_true, Bool.or_false, Bool.and_true, Bool.true_and, Bool.and_self, decide_true, decide_false, not_true_eq_false, or_self, ZB, Z02, fo6, fo5, partsOf, fillA, repC, Z00, aAppend, srcOf, window, Z7, Zk, and_true, true_and, snaps, List.append_nil, List.elem_cons, List.elem_nil, List.length_cons, List.length_nil, List.getElem?_cons_zero, List.getElem?_cons_succ, List.drop_zero, List.take_succ_cons, List.take_nil, List.set_cons_zero, List.set_cons_succ, Zp, seqN, bindN, regN, Zr, List.all_cons, List.all_nil, Nat.le_refl, Int.reduceLE, Int.reduceToNat, Nat.mul_one, Nat.zero_mul, List.not_mem_nil, beq_self_eq_true, Nat.lt_irrefl, Bool.false_eq_true, T_3, T_36, Z0P, Z0E, List.all_cons, List.all_nil, List.getD_cons_zero, List.getD_cons_succ, beq_self_eq_true, Z34, Z2g, Z2f, Z2Y, Z2W, Z2X, Z3K, Z2r, Z2w, Z2u, Z2v, Z2t, Z3w, Z1t, Z1q, Z1I, Z1S, Z1A, Z1N, Z3C, Z1Z, Z1V, Z1B, Z1F, Z1R, Z3O, Z1M, Z1w, Z1J, Z1K, Z1U, Z3S, Z1P, Z1H, Z1u, Z1s, Z20, Z3Q, Z1Q, Z16, Zbd, Z1v, Z1D, Z1z, Z1E, Z1W, Z1Y, Z1x, Z1G, Z1T, Z1r, Z17, ZaX, Zbk, Zb3, Zbl, Zbe, Z3L, Z3D, Z3U, Z3B, Z3z, Z3G, Z3A, Z3M, Z1C, Z1y, Z1O, Z3N, Z3f, Z30, g1, hat, hlen, c1, c2, w1, b1, b2, b3, b4, b5, if_pos, Z45 (show 1 ≤ 1000000 by omega)]
     exact ⟨_, rfl, rfl⟩
theorem Z0rV {C : Callee} {ls : List Ld} {B : List Nat} {n g : Nat} {cost : Int} (h : TrOk ls B n) (hc : cost ≤ 9223372036854775807) (hg : g = 52 ∨ g = 59 ∨ g = 44) (i : Nat) (hi : i < n) (_ : 0 < i) :
   ∃ s', (execA E C (fg 38) 0 62 [] 1000 Z6c) (laS ls cost n g i) = some (.normal, s') ∧ headA [] s' = laS ls cost n g (i + 1) := by
 have hx : ls[i]? = some (ls.getD i default) := Z08 (by rw [h.l]; exact hi)
 have hok := h.ld _ (List.mem_of_getElem? hx)
 have hat := Z1l ZX hx
 have hlen : (cls lc ls).length = n * 5 := by rw [ZA ZX, h.l]
 have hle := h.le
 have g1 : (i : Int) < n := by omega
 have e : latL cost (ls.take (i + 1)) = latL cost (ls.take i) ++ [latV cost (ls.getD i default)] := by
   rw [List.take_add_one, hx, Option.toList_some]; simp [latL]
 have hl1 : (ics (latL cost (ls.take i))).length = i := by rw [Z0r]; simp [latL]; rw [h.l]; omega
 have hsn := Z0eS (latL cost (ls.take i)) (latV cost (ls.getD i default))
 have htk : List.take i (ics (latL cost (ls.take i))) = ics (latL cost (ls.take i)) := List.take_of_length_le (by omega)
 have hno : ¬ i + 1 ≤ i := by omega
 simp only [laS, e]
 generalize ls.getD i default = x at *
 simp only [lc] at hat
 rw [← hsn]
 generalize ics (latL cost (ls.take i)) = L at *
 by_cases c1 : x.base > cost
 · have e1 : latV cost x = -1 := by unfold latV; rw [if_pos c1]
   rw [e1]
   rcases hg with rfl | rfl | rfl
   · simp (disch := omega) only [Z8, Zg, Zc, Za, Z2, Z1, Z3, Z0, Zl, Zd, Zx, Zi, Zo, Zm, stp, opBox, justO, just, Rd.bind, Rd.run, Rd.opt, upds, acells, zeroCells, tsz, elemT, rdCells, aLoad, aStore, opStore, fresh, Z5, aNum, Zh, aMin, aBin, aInt, putC, evO, ofV, ofV1, Nat.reduceAdd, Nat.reduceLT, Nat.reduceBEq, Nat.reduceEqDiff, Nat.reduceLeDiff, Int.reduceNeg, ↓reduceIte, reduceCtorEq, Zf, Nat.zero_add, Nat.add_zero, ne_eq, beq_iff_eq, List.nil_append, List.getElem?_toArray, ZE, Zz, ZL, Zt, Zn, ZC, Zv, stpT, Rd.foot, List.map_nil, Bool.and_self, decide_true, not_true_eq_false, or_self, ZB, Z02, fo6, fo5, partsOf, fillA, repC, Z00, aAppend, srcOf, window, Z7, Zk, and_true, true_and, Int.natCast_nonneg, Int.toNat_natCast, snaps, List.append_nil, List.elem_cons, List.elem_nil, List.length_cons, List.length_nil, List.getElem?_cons_zero, List.getElem?_cons_succ, List.drop_zero, List.take_succ_cons, List.take_nil, List.set_cons_zero, List.set_cons_succ, Zp, seqN, bindN, regN, Zr, Nat.le_refl, Int.reduceLE, Int.reduceToNat, Nat.mul_one, List.not_mem_nil, beq_self_eq_true, Nat.lt_irrefl, Bool.false_eq_true, T_3, T_36, Z0P, Z0E, beq_self_eq_true, Z34, Z2g, Z2f, Z2Y, Z2W, Z2X, Z3K, Z2r, Z2w, Z2u, Z2v, Z2t, Z3w, Z1t, Z1q, Z1I, Z1S, Z1A, Z1N, Z3C, Z1Z, Z1V, Z1B, Z1F, Z1R, Z3O, Z1M, Z1w, Z1J, Z1K, Z1U, Z3S, Z1P, Z1H, Z1u, Z1s, Z20, Z3Q, Z1Q, Z16, Z1v, Z1D, Z1z, Z1E, Z1W, Z1Y, Z1x, Z1G, Z1T, Z1r, Z17, Z3L, Z3D, Z3U, Z3B, Z3z, Z3G, Z3A, Z3M, Z1C, Z1y, Z1O, Z3N, Z3f, Z30, g1, hat, hlen, hl1, htk, hno, c1, if_pos, Z45 (show i + 1 ≤ 1000000 by omega), ZD (show i < 1000000 by omega)]
     exact ⟨_, rfl, rfl⟩
   · simp (disch := omega) only [Z8, Zg, Zc, Za, Z2, Z1, Z3, Z0, Zl, Zd, Zi, Zo, Zm, stp, opBox, justO, just, Rd.bind, Rd.run, Rd.opt, upds, acells, zeroCells, tsz, elemT, rdCells, aLoad, aStore, opStore, fresh, Z5, aNum, Zh, aMin, aBin, aInt, putC, evO, ofV, ofV1, Nat.reduceAdd, Nat.reduceLT, Nat.reduceBEq, Nat.reduceEqDiff, Nat.reduceLeDiff, Int.reduceNeg, ↓reduceIte, reduceCtorEq, Zf, Nat.zero_add, Nat.add_zero, ne_eq, beq_iff_eq, List.nil_append, List.getElem?_toArray, ZE, Zz, ZL, Zt, Zn, ZC, Zv, stpT, Rd.foot, List.map_nil, Bool.and_self, decide_true, not_true_eq_false, or_self, ZB, Z02, fo6, fo5, partsOf, fillA, repC, Z00, aAppend, srcOf, window, Z7, Zk, and_true, true_and, Int.natCast_nonneg, Int.toNat_natCast, snaps, List.append_nil, List.elem_cons, List.elem_nil, List.length_cons, List.length_nil, List.getElem?_cons_zero, List.getElem?_cons_succ, List.drop_zero, List.take_succ_cons, List.take_nil, List.set_cons_zero, List.set_cons_succ, Zp, seqN, bindN, regN, Zr, Nat.le_refl, Int.reduceLE, Int.reduceToNat, Nat.mul_one, List.not_mem_nil, beq_self_eq_true, Nat.lt_irrefl, Bool.false_eq_true, T_3, T_36, Z0P, Z0E, beq_self_eq_true, Z34, Z2g, Z2f, Z2Y, Z2W, Z2X, Z3K, Z2r, Z2w, Z2u, Z2v, Z2t, Z3w, Z1t, Z1q, Z1I, Z1S, Z1A, Z1N, Z3C, Z1Z, Z1V, Z1B, Z1F, Z1R, Z3O, Z1M, Z1w, Z1J, Z1K, Z1U, Z3S, Z1P, Z1H, Z1u, Z1s, Z20, Z3Q, Z1Q, Z16, Z1v, Z1D, Z1z, Z1E, Z1W, Z1Y, Z1x, Z1G, Z1T, Z1r, Z17, Z3L, Z3D, Z3U, Z3B, Z3z, Z3G, Z3A, Z3M, Z1C, Z1y, Z1O, Z3N, Z3f, Z30, g1, hat, hlen, hl1, htk, hno, c1, if_pos, Z45 (show i + 1 ≤ 1000000 by omega), ZD (show i < 1000000 by omega)]
     exact ⟨_, rfl, rfl⟩
   · simp (disch := omega) only [Z8, Zg, Zc, Za, Z2, Z1, Z3, Z0, Zl, Zd, Zx, Zi, Zo, Zm, stp, opBox, justO, just, Rd.bind, Rd.run, Rd.opt, upds, acells, zeroCells, tsz, elemT, rdCells, aLoad, aStore, opStore, fresh, Z5, aNum, Zh, aMin, aBin, aInt, putC, evO, ofV, ofV1, Nat.reduceAdd, Nat.reduceLT, Nat.reduceBEq, Nat.reduceEqDiff, Nat.reduceLeDiff, Int.reduceNeg, ↓reduceIte, reduceCtorEq, Zf, Nat.zero_add, Nat.add_zero, ne_eq, beq_iff_eq, List.nil_append, List.getElem?_toArray, ZE, Zz, ZL, Zt, Zn, ZC, Zv, stpT, Rd.foot, List.map_nil, Bool.and_self, decide_true, not_true_eq_false, or_self, ZB, Z02, fo6, fo5, partsOf, fillA, repC, Z00, aAppend, srcOf, window, Z7, Zk, and_true, true_and, Int.natCast_nonneg, Int.toNat_natCast, snaps, List.append_nil, List.elem_cons, List.elem_nil, List.length_cons, List.length_nil, List.getElem?_cons_zero, List.getElem?_cons_succ, List.drop_zero, List.take_succ_cons, List.take_nil, List.set_cons_zero, List.set_cons_succ, Zp, seqN, bindN, regN, Zr, Nat.le_refl, Int.reduceLE, Int.reduceToNat, Nat.mul_one, List.not_mem_nil, beq_self_eq_true, Nat.lt_irrefl, Bool.false_eq_true, T_3, T_36, Z0P, Z0E, beq_self_eq_true, Z34, Z2g, Z2f, Z2Y, Z2W, Z2X, Z3K, Z2r, Z2w, Z2u, Z2v, Z2t, Z3w, Z1t, Z1q, Z1I, Z1S, Z1A, Z1N, Z3C, Z1Z, Z1V, Z1B, Z1F, Z1R, Z3O, Z1M, Z1w, Z1J, Z1K, Z1U, Z3S, Z1P, Z1H, Z1u, Z1s, Z20, Z3Q, Z1Q, Z16, Z1v, Z1D, Z1z, Z1E, Z1W, Z1Y, Z1x, Z1G, Z1T, Z1r, Z17, Z3L, Z3D, Z3U, Z3B, Z3z, Z3G, Z3A, Z3M, Z1C, Z1y, Z1O, Z3N, Z3f, Z30, g1, hat, hlen, hl1, htk, hno, c1, if_pos, Z45 (show i + 1 ≤ 1000000 by omega), ZD (show i < 1000000 by omega)]
     exact ⟨_, rfl, rfl⟩
 · by_cases c2 : x.rate = 0
   · have e1 : latV cost x = 54 := by unfold latV; rw [if_neg c1, if_pos c2]
     rw [e1]
     rcases hg with rfl | rfl | rfl
     · simp (disch := omega) only [Zbo, Z8, Zg, Zc, Za, Z2, Z1, Z3, Z0, Zl, Zd, Zx, Zi, Zo, Zm, stp, opBox, justO, just, Rd.bind, Rd.run, Rd.opt, upds, acells, zeroCells, tsz, elemT, rdCells, aLoad, aStore, opStore, fresh, Z5, aNum, Zh, aMin, aBin, aInt, putC, evO, ofV, ofV1, Nat.reduceAdd, Nat.reduceLT, Nat.reduceBEq, Nat.reduceEqDiff, Nat.reduceLeDiff, Int.reduceNeg, ↓reduceIte, reduceCtorEq, Zf, Nat.zero_add, Nat.add_zero, ne_eq, List.nil_append, List.getElem?_toArray, ZE, ZeR, Zbv, ZeX, Zz, ZL, Zt, Zn, ZC, Zv, stpT, Rd.foot, List.map_nil, Bool.and_self, decide_true, decide_false, not_true_eq_false, or_self, ZB, Z02, fo6, fo5, partsOf, fillA, repC, Z00, aAppend, srcOf, window, Z7, Zk, and_true, true_and, Int.natCast_nonneg, Int.toNat_natCast, snaps, List.append_nil, List.elem_cons, List.elem_nil, List.length_cons, List.length_nil, List.getElem?_cons_zero, List.getElem?_cons_succ, List.drop_zero, List.take_succ_cons, List.take_nil, List.set_cons_zero, List.set_cons_succ, Zp, seqN, bindN, regN, Zr, Nat.le_refl, Int.reduceLE, Int.reduceToNat, Nat.mul_one, List.not_mem_nil, beq_self_eq_true, Nat.lt_irrefl, Bool.false_eq_true, T_3, T_36, Z0P, Z0E, beq_self_eq_true, Z34, Z2g, Z2f, Z2Y, Z2W, Z2X, Z3K, Z2r, Z2w, Z2u, Z2v, Z2t, Z3w, Z1t, Z1q, Z1I, Z1S, Z1A, Z1N, Z3C, Z1Z, Z1V, Z1B, Z1F, Z1R, Z3O, Z1M, Z1w, Z1J, Z1K, Z1U, Z3S, Z1P, Z1H, Z1u, Z1s, Z20, Z3Q, Z1Q, Z16, Z1v, Z1D, Z1z, Z1E, Z1W, Z1Y, Z1x, Z1G, Z1T, Z1r, Z17, Z3L, Z3D, Z3U, Z3B, Z3z, Z3G, Z3A, Z3M, Z1C, Z1y, Z1O, Z3N, Z3f, Z30, g1, hat, hlen, hl1, htk, hno, c1, c2, if_pos, Z45 (show i + 1 ≤ 1000000 by omega), ZD (show i < 1000000 by omega)]
       exact ⟨_, rfl, rfl⟩
     · simp (disch := omega) only [Zbo, Z8, Zg, Zc, Za, Z2, Z1, Z3, Z0, Zl, Zd, Zi, Zo, Zm, stp, opBox, justO, just, Rd.bind, Rd.run, Rd.opt, upds, acells, zeroCells, tsz, elemT, rdCells, aLoad, aStore, opStore, fresh, Z5, aNum, Zh, aMin, aBin, aInt, putC, evO, ofV, ofV1, Nat.reduceAdd, Nat.reduceLT, Nat.reduceBEq, Nat.reduceEqDiff, Nat.reduceLeDiff, Int.reduceNeg, ↓reduceIte, reduceCtorEq, Zf, Nat.zero_add, Nat.add_zero, ne_eq, List.nil_append, List.getElem?_toArray, ZE, ZeR, Zbv, ZeX, Zz, ZL, Zt, Zn, ZC, Zv, stpT, Rd.foot, List.map_nil, Bool.and_self, decide_true, decide_false, not_true_eq_false, or_self, ZB, Z02, fo6, fo5, partsOf, fillA, repC, Z00, aAppend, srcOf, window, Z7, Zk, and_true, true_and, Int.natCast_nonneg, Int.toNat_natCast, snaps, List.append_nil, List.elem_cons, List.elem_nil, List.length_cons, List.length_nil, List.getElem?_cons_zero, List.getElem?_cons_succ, List.drop_zero, List.take_succ_cons, List.take_nil, List.set_cons_zero, List.set_cons_succ, Zp, seqN, bindN, regN, Zr, Nat.le_refl, Int.reduceLE, Int.reduceToNat, Nat.mul_one, List.not_mem_nil, beq_self_eq_true, Nat.lt_irrefl, Bool.false_eq_true, T_3, T_36, Z0P, Z0E, beq_self_eq_true, Z34, Z2g, Z2f, Z2Y, Z2W, Z2X, Z3K, Z2r, Z2w, Z2u, Z2v, Z2t, Z3w, Z1t, Z1q, Z1I, Z1S, Z1A, Z1N, Z3C, Z1Z, Z1V, Z1B, Z1F, Z1R, Z3O, Z1M, Z1w, Z1J, Z1K, Z1U, Z3S, Z1P, Z1H, Z1u, Z1s, Z20, Z3Q, Z1Q, Z16, Z1v, Z1D, Z1z, Z1E, Z1W, Z1Y, Z1x, Z1G, Z1T, Z1r, Z17, Z3L, Z3D, Z3U, Z3B, Z3z, Z3G, Z3A, Z3M, Z1C, Z1y, Z1O, Z3N, Z3f, Z30, g1, hat, hlen, hl1, htk, hno, c1, c2, if_pos, Z45 (show i + 1 ≤ 1000000 by omega), ZD (show i < 1000000 by omega)]
       exact ⟨_, rfl, rfl⟩
     · simp (disch := omega) only [Zbo, Z8, Zg, Zc, Za, Z2, Z1, Z3, Z0, Zl, Zd, Zx, Zi, Zo, Zm, stp, opBox, justO, just, Rd.bind, Rd.run, Rd.opt, upds, acells, zeroCells, tsz, elemT, rdCells, aLoad, aStore, opStore, fresh, Z5, aNum, Zh, aMin, aBin, aInt, putC, evO, ofV, ofV1, Nat.reduceAdd, Nat.reduceLT, Nat.reduceBEq, Nat.reduceEqDiff, Nat.reduceLeDiff, Int.reduceNeg, ↓reduceIte, reduceCtorEq, Zf, Nat.zero_add, Nat.add_zero, ne_eq, List.nil_append, List.getElem?_toArray, ZE, ZeR, Zbv, ZeX, Zz, ZL, Zt, Zn, ZC, Zv, stpT, Rd.foot, List.map_nil, Bool.and_self, decide_true, decide_false, not_true_eq_false, or_self, ZB, Z02, fo6, fo5, partsOf, fillA, repC, Z00, aAppend, srcOf, window, Z7, Zk, and_true, true_and, Int.natCast_nonneg, Int.toNat_natCast, snaps, List.append_nil, List.elem_cons, List.elem_nil, List.length_cons, List.length_nil, List.getElem?_cons_zero, List.getElem?_cons_succ, List.drop_zero, List.take_succ_cons, List.take_nil, List.set_cons_zero, List.set_cons_succ, Zp, seqN, bindN, regN, Zr, Nat.le_refl, Int.reduceLE, Int.reduceToNat, Nat.mul_one, List.not_mem_nil, beq_self_eq_true, Nat.lt_irrefl, Bool.false_eq_true, T_3, T_36, Z0P, Z0E, beq_self_eq_true, Z34, Z2g, Z2f, Z2Y, Z2W, Z2X, Z3K, Z2r, Z2w, Z2u, Z2v, Z2t, Z3w, Z1t, Z1q, Z1I, Z1S, Z1A, Z1N, Z3C, Z1Z, Z1V, Z1B, Z1F, Z1R, Z3O, Z1M, Z1w, Z1J, Z1K, Z1U, Z3S, Z1P, Z1H, Z1u, Z1s, Z20, Z3Q, Z1Q, Z16, Z1v, Z1D, Z1z, Z1E, Z1W, Z1Y, Z1x, Z1G, Z1T, Z1r, Z17, Z3L, Z3D, Z3U, Z3B, Z3z, Z3G, Z3A, Z3M, Z1C, Z1y, Z1O, Z3N, Z3f, Z30, g1, hat, hlen, hl1, htk, hno, c1, c2, if_pos, Z45 (show i + 1 ≤ 1000000 by omega), ZD (show i < 1000000 by omega)]
       exact ⟨_, rfl, rfl⟩
   · have e1 : latV cost x = min 54 (x.due + min (cost - x.base) 486 / x.rate) := by unfold latV; rw [if_neg c1, if_neg c2]
     obtain ⟨b1, b2, b3, b4, b5⟩ := Z0hD hok c1 c2 hc
     rw [e1]
     rcases hg with rfl | rfl | rfl
     · simp (disch := omega) only [Z8, Zg, Bool.not_true, Bool.not_false, Zc, Za, Z2, Z1, Z3, Z0, Zl, Zd, Zx, Zi, Zo, Zm, stp, opBox, justO, just, Rd.bind, Rd.run, Rd.opt, upds, acells, zeroCells, tsz, elemT, rdCells, aLoad, aStore, opStore, fresh, Z5, aNum, Zh, aMin, aBin, aInt, putC, evO, ofV, ofV1, Nat.reduceAdd, Nat.reduceLT, Nat.reduceBEq, Nat.reduceEqDiff, Nat.reduceLeDiff, Int.reduceNeg, ↓reduceIte, reduceCtorEq, Zf, Nat.zero_add, Nat.add_zero, ne_eq, beq_iff_eq, List.nil_append, List.getElem?_toArray, ZE, ZH, ZO, ZP, Zz, ZL, Zt, Zn, ZC, Zv, stpT, Rd.foot, writing, Zq, Tr.empty, Zs, apartT, disj, List.isEmpty_nil, List.isEmpty_cons, List.map_nil, List.map_cons, Bool.not_false, Bool.not_true, Bool.true_or, Bool.or_true, Bool.or_false, Bool.and_true, Bool.true_and, Bool.and_self, decide_true, decide_false, not_true_eq_false, or_self, ZB, Z02, fo6, fo5, partsOf, fillA, repC, Z00, aAppend, srcOf, window, Z7, Zk, and_true, true_and, Int.natCast_nonneg, Int.toNat_natCast, snaps, List.append_nil, List.elem_cons, List.elem_nil, List.length_cons, List.length_nil, List.getElem?_cons_zero, List.getElem?_cons_succ, List.drop_zero, List.take_succ_cons, List.take_nil, List.set_cons_zero, List.set_cons_succ, Zp, seqN, bindN, regN, Zr, List.all_cons, List.all_nil, Nat.le_refl, Int.reduceLE, Int.reduceToNat, Nat.mul_one, List.not_mem_nil, beq_self_eq_true, Nat.lt_irrefl, Bool.false_eq_true, T_3, T_36, Z0P, Z0E, List.all_cons, List.all_nil, List.getD_cons_zero, List.getD_cons_succ, beq_self_eq_true, Z34, Z2g, Z2f, Z2Y, Z2W, Z2X, Z3K, Z2r, Z2w, Z2u, Z2v, Z2t, Z3w, Z1t, Z1q, Z1I, Z1S, Z1A, Z1N, Z3C, Z1Z, Z1V, Z1B, Z1F, Z1R, Z3O, Z1M, Z1w, Z1J, Z1K, Z1U, Z3S, Z1P, Z1H, Z1u, Z1s, Z20, Z3Q, Z1Q, Z16, Zbd, Z1v, Z1D, Z1z, Z1E, Z1W, Z1Y, Z1x, Z1G, Z1T, Z1r, Z17, ZaX, Zbk, Zb3, Zbl, Zbe, Z3L, Z3D, Z3U, Z3B, Z3z, Z3G, Z3A, Z3M, Z1C, Z1y, Z1O, Z3N, Z3f, Z30, g1, hat, hlen, hl1, htk, hno, c1, c2, b1, b2, b3, b4, b5, if_pos, Z45 (show i + 1 ≤ 1000000 by omega), ZD (show i < 1000000 by omega)]
       exact ⟨_, rfl, rfl⟩
     · simp (disch := omega) only [Z8, Zg, Bool.not_true, Bool.not_false, Zc, Za, Z2, Z1, Z3, Z0, Zl, Zd, Zi, Zo, Zm, stp, opBox, justO, just, Rd.bind, Rd.run, Rd.opt, upds, acells, zeroCells, tsz, elemT, rdCells, aLoad, aStore, opStore, fresh, Z5, aNum, Zh, aMin, aBin, aInt, putC, evO, ofV, ofV1, Nat.reduceAdd, Nat.reduceLT, Nat.reduceBEq, Nat.reduceEqDiff, Nat.reduceLeDiff, Int.reduceNeg, ↓reduceIte, reduceCtorEq, Zf, Nat.zero_add, Nat.add_zero, ne_eq, beq_iff_eq, List.nil_append, List.getElem?_toArray, ZE, ZH, ZO, ZP, Zz, ZL, Zt, Zn, ZC, Zv, stpT, Rd.foot, writing, Zq, Tr.empty, Zs, apartT, disj, List.isEmpty_nil, List.isEmpty_cons, List.map_nil, List.map_cons, Bool.not_false, Bool.not_true, Bool.true_or, Bool.or_true, Bool.or_false, Bool.and_true, Bool.true_and, Bool.and_self, decide_true, decide_false, not_true_eq_false, or_self, ZB, Z02, fo6, fo5, partsOf, fillA, repC, Z00, aAppend, srcOf, window, Z7, Zk, and_true, true_and, Int.natCast_nonneg, Int.toNat_natCast, snaps, List.append_nil, List.elem_cons, List.elem_nil, List.length_cons, List.length_nil, List.getElem?_cons_zero, List.getElem?_cons_succ, List.drop_zero, List.take_succ_cons, List.take_nil, List.set_cons_zero, List.set_cons_succ, Zp, seqN, bindN, regN, Zr, List.all_cons, List.all_nil, Nat.le_refl, Int.reduceLE, Int.reduceToNat, Nat.mul_one, List.not_mem_nil, beq_self_eq_true, Nat.lt_irrefl, Bool.false_eq_true, T_3, T_36, Z0P, Z0E, List.all_cons, List.all_nil, List.getD_cons_zero, List.getD_cons_succ, beq_self_eq_true, Z34, Z2g, Z2f, Z2Y, Z2W, Z2X, Z3K, Z2r, Z2w, Z2u, Z2v, Z2t, Z3w, Z1t, Z1q, Z1I, Z1S, Z1A, Z1N, Z3C, Z1Z, Z1V, Z1B, Z1F, Z1R, Z3O, Z1M, Z1w, Z1J, Z1K, Z1U, Z3S, Z1P, Z1H, Z1u, Z1s, Z20, Z3Q, Z1Q, Z16, Zbd, Z1v, Z1D, Z1z, Z1E, Z1W, Z1Y, Z1x, Z1G, Z1T, Z1r, Z17, ZaX, Zbk, Zb3, Zbl, Zbe, Z3L, Z3D, Z3U, Z3B, Z3z, Z3G, Z3A, Z3M, Z1C, Z1y, Z1O, Z3N, Z3f, Z30, g1, hat, hlen, hl1, htk, hno, c1, c2, b1, b2, b3, b4, b5, if_pos, Z45 (show i + 1 ≤ 1000000 by omega), ZD (show i < 1000000 by omega)]
       exact ⟨_, rfl, rfl⟩
     · simp (disch := omega) only [Z8, Zg, Bool.not_true, Bool.not_false, Zc, Za, Z2, Z1, Z3, Z0, Zl, Zd, Zx, Zi, Zo, Zm, stp, opBox, justO, just, Rd.bind, Rd.run, Rd.opt, upds, acells, zeroCells, tsz, elemT, rdCells, aLoad, aStore, opStore, fresh, Z5, aNum, Zh, aMin, aBin, aInt, putC, evO, ofV, ofV1, Nat.reduceAdd, Nat.reduceLT, Nat.reduceBEq, Nat.reduceEqDiff, Nat.reduceLeDiff, Int.reduceNeg, ↓reduceIte, reduceCtorEq, Zf, Nat.zero_add, Nat.add_zero, ne_eq, beq_iff_eq, List.nil_append, List.getElem?_toArray, ZE, ZH, ZO, ZP, Zz, ZL, Zt, Zn, ZC, Zv, stpT, Rd.foot, writing, Zq, Tr.empty, Zs, apartT, disj, List.isEmpty_nil, List.isEmpty_cons, List.map_nil, List.map_cons, Bool.not_false, Bool.not_true, Bool.true_or, Bool.or_true, Bool.or_false, Bool.and_true, Bool.true_and, Bool.and_self, decide_true, decide_false, not_true_eq_false, or_self, ZB, Z02, fo6, fo5, partsOf, fillA, repC, Z00, aAppend, srcOf, window, Z7, Zk, and_true, true_and, Int.natCast_nonneg, Int.toNat_natCast, snaps, List.append_nil, List.elem_cons, List.elem_nil, List.length_cons, List.length_nil, List.getElem?_cons_zero, List.getElem?_cons_succ, List.drop_zero, List.take_succ_cons, List.take_nil, List.set_cons_zero, List.set_cons_succ, Zp, seqN, bindN, regN, Zr, List.all_cons, List.all_nil, Nat.le_refl, Int.reduceLE, Int.reduceToNat, Nat.mul_one, List.not_mem_nil, beq_self_eq_true, Nat.lt_irrefl, Bool.false_eq_true, T_3, T_36, Z0P, Z0E, List.all_cons, List.all_nil, List.getD_cons_zero, List.getD_cons_succ, beq_self_eq_true, Z34, Z2g, Z2f, Z2Y, Z2W, Z2X, Z3K, Z2r, Z2w, Z2u, Z2v, Z2t, Z3w, Z1t, Z1q, Z1I, Z1S, Z1A, Z1N, Z3C, Z1Z, Z1V, Z1B, Z1F, Z1R, Z3O, Z1M, Z1w, Z1J, Z1K, Z1U, Z3S, Z1P, Z1H, Z1u, Z1s, Z20, Z3Q, Z1Q, Z16, Zbd, Z1v, Z1D, Z1z, Z1E, Z1W, Z1Y, Z1x, Z1G, Z1T, Z1r, Z17, ZaX, Zbk, Zb3, Zbl, Zbe, Z3L, Z3D, Z3U, Z3B, Z3z, Z3G, Z3A, Z3M, Z1C, Z1y, Z1O, Z3N, Z3f, Z30, g1, hat, hlen, hl1, htk, hno, c1, c2, b1, b2, b3, b4, b5, if_pos, Z45 (show i + 1 ≤ 1000000 by omega), ZD (show i < 1000000 by omega)]
       exact ⟨_, rfl, rfl⟩
def latestE (ls : List Ld) (es : List Pr) (cost : Int) : Int := if chk ls es ≠ 0 then chk ls es else if cost < 0 then 1 else 0
theorem ZVd {d : Nat} {ls : List Ld} {es : List Pr} {a b : AV} {cost : Int} (ha : SV lc ls a) (hb : SV bc es b) (h : latestE ls es cost = 0) (hc : cost ≤ 9223372036854775807) :
   ∃ g H', bodyA E (callA E fg 1000 (d + 3)) fg 1000 38 [.agg [a, b], .int .i64 cost] [] 0 = some (.tup [.ref g 0 ls.length ls.length ls.length 1 false, .int .i64 0], H') ∧ hget H' g = some ⟨.row, ics (latL cost ls)⟩ := by
 have sa := Z2s ha
 have sb := Z2s hb
 have hk : chk ls es = 0 := by
   unfold latestE at h
   split at h
   · rename_i h1; exact absurd h h1
   · rename_i h1; simpa using h1
 have c1 : ¬ cost < 0 := by
   unfold latestE at h
   rw [if_neg (by simpa using hk)] at h
   split at h
   · simp at h
   · assumption
 have hr := fun (site : Nat → Nat) seen hs => Z9U (d := d) (site := site) (seen := seen) ha hb hk hs
 obtain ⟨tr, ord, _, _⟩ := Z59 hk
 have hlen : (cls lc ls).length = ls.length * 5 := ZA ZX ls
 have hul : (ucs (sets ls.length es)).length = ls.length := by rw [Z0g, tr.b]
 generalize callA E fg 1000 (d + 3) = C at *
 generalize sets ls.length es = B at *
 have hne := tr.ne
 have hle := tr.le
 have hx : ls[0]? = some (ls.getD 0 default) := Z08 hne
 have hg := Z0lB cost (ls.getD 0 default)
 obtain ⟨s1, f1, f2⟩ := Z0ff (C := C) tr hc hx
 generalize latG cost (ls.getD 0 default) = g at *
 have hgo := fun i (h1 : 0 < i) (h2 : i < ls.length) => Z0rV (C := C) tr hc hg i h2 h1
 have hlast : ∃ H', (execA E C (fg 38) 0 62 [] 1000 Z6c) (laS ls cost ls.length g ls.length) = some (.exit 1, ([(27, .bool false), (26, .int .i64 ls.length), (25, .int .i64 ls.length), (24, .ref 13 0 ls.length ls.length (ls.length * 5) 5 false), (8, .ref g 0 ls.length ls.length ls.length 1 false), (1, .int .i64 cost)], H')) ∧ hget H' g = some ⟨.row, ics (latL cost ls)⟩ := by
   have e : ls.take ls.length = ls := List.take_length
   simp only [laS, e]
   simp (disch := omega) only [ZR, Z8, Zc, Za, Z2, Z1, Z3, Z0, Zo, stp, just, Rd.bind, Rd.run, Rd.opt, upds, aBin, aInt, Nat.reduceEqDiff, Nat.reduceLeDiff, ↓reduceIte, decide_false, Z7, List.elem_nil, seqN, bindN, regN, Int.lt_irrefl, Bool.false_eq_true, Z34, Z2g, Z2f, Z2Y, Z2W, Z2X, Z3f, Z30]
   refine ⟨_, rfl, ?_⟩
   rcases hg with rfl | rfl | rfl <;> rfl
 obtain ⟨H', l1, l2⟩ := hlast
 have hloop1 := Z2M (f := (execA E C (fg 38) 0 62 [] 1000 Z6c)) (hd := headA []) (laS ls cost ls.length g) (ls.length - 1) 999 1 s1 f2 (by omega) (fun i h1 h2 => hgo i (by omega) (by omega)) (by rw [show 1 + (ls.length - 1) = ls.length by omega]; exact l1) (by simp)
 have hloop : iterA (execA E C (fg 38) 0 62 [] 1000 Z6c) (headA []) 1000 ([(26, .int .i64 0), (25, .int .i64 ls.length), (24, .ref 13 0 ls.length ls.length (ls.length * 5) 5 false), (8, .nilsl), (1, .int .i64 cost)],
     [(2, ⟨.box, [a, b]⟩), (6, ⟨.box, [.ref 13 0 ls.length ls.length (ls.length * 5) 5 false, .ref 75 0 ls.length ls.length ls.length 1 false]⟩), (13, ⟨.row, cls lc ls⟩), (75, ⟨.row, ucs B⟩)]) = some (.exit 1, ([(27, .bool false), (26, .int .i64 ls.length), (25, .int .i64 ls.length), (24, .ref 13 0 ls.length ls.length (ls.length * 5) 5 false), (8, .ref g 0 ls.length ls.length ls.length 1 false), (1, .int .i64 cost)], H')) := by
   rw [show (1000 : Nat) = 999 + 1 from rfl, Z61]
   rw [show headA [] ([(26, .int .i64 0), (25, .int .i64 ls.length), (24, .ref 13 0 ls.length ls.length (ls.length * 5) 5 false), (8, .nilsl), (1, .int .i64 cost)],
     [(2, ⟨.box, [a, b]⟩), (6, ⟨.box, [.ref 13 0 ls.length ls.length (ls.length * 5) 5 false, .ref 75 0 ls.length ls.length ls.length 1 false]⟩), (13, ⟨.row, cls lc ls⟩), (75, ⟨.row, ucs B⟩)]) = la0 ls cost ls.length by
       rcases ha with ⟨_, rfl⟩ | ⟨e, rfl⟩ <;> rcases hb with ⟨_, rfl⟩ | ⟨e', rfl⟩ <;> rfl]
   rw [f1, seqN]
   exact hloop1
 refine ⟨g, H', ?_, l2⟩
 have hll : (ics (latL cost ls)).length = ls.length := by rw [Z0r]; simp [latL]
 simp (disch := omega) only [Z8, ZJ, Zg, ZF, Zc, Za, Z2, Z0G, Z1, Z3, Z0, Zl, Zd, Zx, Zi, Zw, Zo, Zm, stp, opBox, justO, just, Rd.bind, Rd.run, Rd.opt, upds, acells, zeroCells, tsz, rdCells, fieldOf, Ze, aLoad, aStore, opStore, Zy, resA, resL, fresh, aLen, Zh, aBin, aInt, putC, Nat.reduceAdd, Nat.reduceMul, Nat.reduceBEq, Nat.reduceEqDiff, Nat.reduceLeDiff, ↓reduceIte, reduceCtorEq, Zf, Nat.zero_add, Nat.add_zero, List.nil_append, List.getElem?_toArray, Bool.and_true, decide_true, decide_false, Z7, Zk, and_true, aCall, snaps, List.append_nil, Option.map_some, List.elem_cons, List.elem_nil, List.length_cons, List.length_nil, List.getElem?_cons_zero, List.getElem?_cons_succ, List.drop_zero, List.take_succ_cons, List.take_nil, List.set_cons_zero, List.set_cons_succ, Zp, seqN, bindN, regN, ZM, ZQ, Z5K, Nat.le_refl, Nat.mul_one, Nat.zero_mul, beq_self_eq_true, bne_self_eq_false, Bool.false_eq_true, T_25, Z0P, ZZ, beq_self_eq_true, Z0qW, Z0l7, Z0hV, Z0nx, Z0kb, Z0t3, Z0i2, Z0ki, Z0nq, Z0k4, Z0n2, Z0mh, Z0nK, Z0il, Z0lm, Z0rb, Z0j4, Z0kN, Z0k3, Z0hG, Z0qr, Z0lY, Z0l5, Z0hO, Z0km, Z0qE, Z0qX, Z0qm, Z0lv, Z0nI, Z0i4, Z0iL, Z0ov, Z0l6, Z0mg, Z0nP, Z0oe, Z0p8, Z0oN, Z0oC, Z0pa, Z0st, Z0rz, Z0s6, Z0pY, Z0ij, Z0hN, Z0oH, Z0lR, Z0jc, Z0l8, Z0jr, Z0mT, Z0pt, Z0oE, Z0qf, Z0oi, Z0eN, Z0el, Z0dy, Z0d9, Z0oG, Z0ok, Z0oR, Z0nY, Z0sP, Z0sQ, Z0rx, b_38, sa 196, sb 195, hr, hlen, c1, hloop]
end Go.AM.YtgfnbmfjbjopkaaDoor
end
noncomputable section
namespace Go.AM.YtgfnbmfjbjopkaaDoor
open Go Go.AM
variable {C : Callee} {B N : Nat} {E0 : AHeap} (φ : AFr) (H : AHeap) (s : St)
def ZrI := kBody Proofs.Tryd.f40
def Z06E := kL ZrI
def Zjf := kO Z06E
def ZWm := opN Zjf 0
def Z03a := opN Zjf 1
theorem Z06I : XG 40 109 Z06E Zjf [0] := Zb (by rfl) (by rfl) _
theorem ZtY : Zjf.toList = [ZWm, Z03a] := nf
theorem Zup : stepA E C B 109 Zjf ZWm (φ, H) = stp (some 2) φ H (opBox (B + 2) (acells (fget φ 0))) := nf
theorem ZuD : stepA E C B 109 Zjf Z03a (φ, H) = stp (some 4) φ H (opBox (B + 4) (zeroCells E.T 25)) := nf
def ZyO := kR ZrI
def Z06V := kL ZyO
def ZyG := kO Z06V
def Z04w := opN ZyG 0
theorem Z07Z : XG 40 109 Z06V ZyG [] := Zb (by rfl) (by rfl) _
theorem Zvs : ZyG.toList = [Z04w] := nf
theorem ZvO : stepA E C B 109 ZyG Z04w (φ, H) = stp (some 5) φ H (opBox (B + 5) (zeroCells E.T 25)) := nf
def ZzO := kR ZyO
def ZzM := kL ZzO
def Z06W := kL ZzM
def Z19 := kO Z06W
def Z00y := opN Z19 0
def ZYV := opN Z19 1
def ZZ0 := opN Z19 2
def Z04L := opN Z19 3
def ZXA := opN Z19 4
def ZZF := opN Z19 5
def Z03O := opN Z19 6
def Z03Y := opN Z19 7
def ZY8 := opN Z19 8
def Z00W := opN Z19 9
theorem Z06j : XG 40 109 Z06W Z19 [1, 14, 15, 16, 17, 18, 19, 20] := Zb (by rfl) (by rfl) _
theorem Zt8 : Z19.toList = [Z00y, ZYV, ZZ0, Z04L, ZXA, ZZF, Z03O, Z03Y, ZY8, Z00W] := nf
theorem Zvh : stepA E C B 109 Z19 Z00y (φ, H) = stp (some 14) φ H (just (Ze E.T 58 (fget φ 2) 1)) := nf
theorem Zvu : stepA E C B 109 Z19 ZYV (φ, H) = stp (some 15) φ H (just (Ze E.T 58 (fget φ 2) 0)) := nf
theorem Ztw : stepA E C B 109 Z19 ZZ0 (φ, H) = stp (some 16) φ H (just (aLoad E.T 5 (fget φ 15))) := nf
theorem Zv3 : stepA E C B 109 Z19 Z04L (φ, H) = stp (some 17) φ H (justO (aConv E.T 5 3 (fget φ 16))) := nf
theorem Zut : stepA E C B 109 Z19 ZXA (φ, H) = some (fput φ 18 (fget φ 1), H) := nf
theorem Ztp : stepA E C B 109 Z19 ZZF (φ, H) = stp (some 19) φ H (just (aBin E.T .rem 3 (fget φ 17) (fget φ 18))) := nf
theorem Zuk : stepA E C B 109 Z19 Z03O (φ, H) = stp (some 20) φ H (just (aBin E.T .add 3 (.int .i64 1) (fget φ 19))) := nf
theorem Ztl : stepA E C B 109 Z19 Z03Y (φ, H) = stp (some 21) φ H (just (aSlice E.T 54 (fget φ 14) none (some (fget φ 20)) none)) := nf
theorem Zvc : stepA E C B 109 Z19 ZY8 (φ, H) = stp (some 22) φ H (Zh E.T (B + 22) .len #[135] [(fget φ 21)]) := nf
theorem Zw9 : stepA E C B 109 Z19 Z00W (φ, H) = some (fput φ 23 (.int .i64 0), H) := nf
def Z06X := kR ZzM
def Z06K := kB Z06X
def Zjb := kB Z06K
def ZSg := kL Zjb
def ZzU := kO ZSg
def Z055 := opN ZzU 0
theorem ZIc : XG 40 109 ZSg ZzU [] := Zb (by rfl) (by rfl) _
theorem Zve : ZzU.toList = [Z055] := nf
theorem ZtE : stepA E C B 109 ZzU Z055 (φ, H) = stp (some 24) φ H (just (aBin E.T .lss 3 (fget φ 23) (fget φ 22))) := nf
def Zqb := kR Zjb
def Zsf := kL Zqb
def Z0ac := kT Zsf
theorem ZDd : execA E C (fg 40) B 109 E0 N Z0ac s = some (.normal, s) := ZV (by rfl) s
def Z093 := kE Zsf
theorem ZNm : execA E C (fg 40) B 109 E0 N Z093 s = some (.exit 0, s) := Z0I (by rfl) s
theorem ZQh : XC 40 109 Zsf 24 Z0ac Z093 := ZN (by rfl) _
def ZpC := kR Zqb
def ZQB := kL ZpC
def Zre := kB ZQB
def ZES := kL Zre
def Z8M := kO ZES
def ZWA := opN Z8M 0
def ZWS := opN Z8M 1
def ZZy := opN Z8M 2
def Z03S := opN Z8M 3
theorem Z0bG : XG 40 109 ZES Z8M [24, 25, 26] := Zb (by rfl) (by rfl) _
theorem ZYi : Z8M.toList = [ZWA, ZWS, ZZy, Z03S] := nf
theorem Z04u : stepA E C B 109 Z8M ZWA (φ, H) = stp (some 25) φ H (just (Z5 E.T 135 (fget φ 21) (fget φ 23))) := nf
theorem Z00M : stepA E C B 109 Z8M ZWS (φ, H) = stp (some 26) φ H (just (aLoad E.T 53 (fget φ 25))) := nf
theorem ZZi : stepA E C B 109 Z8M ZZy (φ, H) = stp (some 7) φ H (opBox (B + 7) (zeroCells E.T 53)) := nf
theorem ZYL : stepA E C B 109 Z8M Z03S (φ, H) = stp none φ H (opStore E.T 53 (fget φ 7) (fget φ 26)) := nf
def ZrR := kR Zre
def ZNB := kL ZrR
def Z0b := kO ZNB
def ZYX := opN Z0b 0
def ZZN := opN Z0b 1
def ZY2 := opN Z0b 2
def Z03n := opN Z0b 3
def ZX2 := opN Z0b 4
def ZVn := opN Z0b 5
def ZWY := opN Z0b 6
def Z01C := opN Z0b 7
def Z00V := opN Z0b 8
def Z01I := opN Z0b 9
def ZCl := opN Z0b 10
def ZHE := opN Z0b 11
def ZLB := opN Z0b 12
def ZR6 := opN Z0b 13
def ZKZ := opN Z0b 14
def ZBA := opN Z0b 15
def ZCO := opN Z0b 16
def ZGy := opN Z0b 17
def ZCV := opN Z0b 18
def ZRc := opN Z0b 19
theorem Z09M : XG 40 109 ZNB Z0b [27, 28, 29, 30, 31, 32, 33, 34, 35, 36, 37, 38, 39, 40, 41, 42, 43, 44] := Zb (by rfl) (by rfl) _
theorem Z053 : Z0b.toList = [ZYX, ZZN, ZY2, Z03n, ZX2, ZVn, ZWY, Z01C, Z00V, Z01I, ZCl, ZHE, ZLB, ZR6, ZKZ, ZBA, ZCO, ZGy, ZCV, ZRc] := nf
theorem Z04F : stepA E C B 109 Z0b ZYX (φ, H) = stp (some 27) φ H (just (Z5 E.T 53 (fget φ 7) (.int .i64 0))) := nf
theorem Z02Z : stepA E C B 109 Z0b ZZN (φ, H) = stp (some 28) φ H (just (aLoad E.T 5 (fget φ 27))) := nf
theorem ZZm : stepA E C B 109 Z0b ZY2 (φ, H) = stp (some 29) φ H (justO (aConv E.T 5 3 (fget φ 28))) := nf
theorem Z016 : stepA E C B 109 Z0b Z03n (φ, H) = stp (some 30) φ H (just (aBin E.T .rem 3 (fget φ 29) (.int .i64 9))) := nf
theorem ZZ1 : stepA E C B 109 Z0b ZX2 (φ, H) = stp (some 31) φ H (just (aBin E.T .add 3 (.int .i64 1) (fget φ 30))) := nf
theorem ZWp : stepA E C B 109 Z0b ZVn (φ, H) = stp (some 32) φ H (just (Z5 E.T 53 (fget φ 7) (.int .i64 2))) := nf
theorem Z01F : stepA E C B 109 Z0b ZWY (φ, H) = stp (some 33) φ H (just (aLoad E.T 5 (fget φ 32))) := nf
theorem Z04G : stepA E C B 109 Z0b Z01C (φ, H) = stp (some 34) φ H (justO (aConv E.T 5 3 (fget φ 33))) := nf
theorem ZVG : stepA E C B 109 Z0b Z00V (φ, H) = stp (some 35) φ H (just (aBin E.T .rem 3 (fget φ 34) (.int .i64 30))) := nf
theorem ZXm : stepA E C B 109 Z0b Z01I (φ, H) = stp (some 36) φ H (just (Z5 E.T 53 (fget φ 7) (.int .i64 3))) := nf
theorem ZCK : stepA E C B 109 Z0b ZCl (φ, H) = stp (some 37) φ H (just (aLoad E.T 5 (fget φ 36))) := nf
theorem ZLY : stepA E C B 109 Z0b ZHE (φ, H) = stp (some 38) φ H (justO (aConv E.T 5 3 (fget φ 37))) := nf
theorem ZOf : stepA E C B 109 Z0b ZLB (φ, H) = stp (some 39) φ H (just (aBin E.T .rem 3 (fget φ 38) (.int .i64 6))) := nf
theorem ZNr : stepA E C B 109 Z0b ZR6 (φ, H) = stp (some 40) φ H (just (Z5 E.T 53 (fget φ 7) (.int .i64 4))) := nf
theorem ZBd : stepA E C B 109 Z0b ZKZ (φ, H) = stp (some 41) φ H (just (aLoad E.T 5 (fget φ 40))) := nf
theorem ZKk : stepA E C B 109 Z0b ZBA (φ, H) = stp (some 42) φ H (justO (aConv E.T 5 3 (fget φ 41))) := nf
theorem ZED : stepA E C B 109 Z0b ZCO (φ, H) = stp (some 43) φ H (just (aBin E.T .rem 3 (fget φ 42) (.int .i64 8))) := nf
theorem ZMu : stepA E C B 109 Z0b ZGy (φ, H) = stp (some 44) φ H (justO (aBuild E.T 62 (evO E φ) [(0, Operand.tmp 31), (2, Operand.tmp 35), (3, Operand.tmp 39), (4, Operand.tmp 43)])) := nf
theorem ZIq : stepA E C B 109 Z0b ZCV (φ, H) = stp (some 8) φ H (opBox (B + 8) (zeroCells E.T 62)) := nf
theorem ZPw : stepA E C B 109 Z0b ZRc (φ, H) = stp none φ H (opStore E.T 62 (fget φ 8) (fget φ 44)) := nf
def ZnS := kR ZrR
def ZzZ := kL ZnS
def Z0v := kO ZzZ
def Z04n := opN Z0v 0
def Z031 := opN Z0v 1
def ZWj := opN Z0v 2
def ZWk := opN Z0v 3
def ZZq := opN Z0v 4
def ZVw := opN Z0v 5
def Z05B := opN Z0v 6
def Z05G := opN Z0v 7
def ZXk := opN Z0v 8
def ZX5 := opN Z0v 9
def ZNq := opN Z0v 10
def ZNb := opN Z0v 11
theorem Z08c : XD 40 109 ZzZ Z0v [7, 45, 46, 47, 48, 49, 50, 51, 52, 53, 54, 55] := Z0Z (by rfl) (by rfl) _
theorem Z02G : Z0v.toList = [Z04n, Z031, ZWj, ZWk, ZZq, ZVw, Z05B, Z05G, ZXk, ZX5, ZNq, ZNb] := nf
theorem Z0ef : statOk Z0v = true := by kernel_rfl
theorem ZOy : drawA E C B 109 Z0v s = if neat 109 s = true then drX Z0v (runT E C B 109 Z0v Z0v.toList 0 s) else none := Z0J Z0ef s
theorem ZTO (l : List (Nat × Tr)) : dynOk Z0v l = (!writing l || Zs [[], [0], [], [2], [2, 3], [], [5], [5, 6], [2, 3, 4, 5, 6, 7], [0, 1, 2, 3, 4, 5, 6, 7, 8], [0, 1, 2, 3, 4, 5, 6, 7, 8, 9], [0, 1, 2, 3, 4, 5, 6, 7, 8, 9, 10]] (Zq l)) := Z0t (by kernel_rfl) l
theorem ZY1 : stepT E C B 109 Z0v Z04n (φ, H) = stpT (some 45) φ H (just (Ze E.T 62 (fget φ 8) 0)) := Z9 rfl (Zj rfl rfl)
theorem Z01c : stepT E C B 109 Z0v Z031 (φ, H) = stpT (some 46) φ H (just (aLoad E.T 3 (fget φ 45))) := Z9 rfl (Zj rfl rfl)
theorem ZXl : stepT E C B 109 Z0v ZWj (φ, H) = stpT (some 47) φ H (just (Z5 E.T 53 (fget φ 7) (.int .i64 1))) := Z9 rfl (Zj rfl rfl)
theorem Z00m : stepT E C B 109 Z0v ZWk (φ, H) = stpT (some 48) φ H (just (aLoad E.T 5 (fget φ 47))) := Z9 rfl (Zj rfl rfl)
theorem Z04Y : stepT E C B 109 Z0v ZZq (φ, H) = stpT (some 49) φ H (justO (aConv E.T 5 3 (fget φ 48))) := Z9 rfl (Zj rfl rfl)
theorem Z00J : stepT E C B 109 Z0v ZVw (φ, H) = stpT (some 50) φ H (just (Ze E.T 62 (fget φ 8) 0)) := Z9 rfl (Zj rfl rfl)
theorem Z00B : stepT E C B 109 Z0v Z05B (φ, H) = stpT (some 51) φ H (just (aLoad E.T 3 (fget φ 50))) := Z9 rfl (Zj rfl rfl)
theorem Z03M : stepT E C B 109 Z0v Z05G (φ, H) = stpT (some 52) φ H (just (aBin E.T .sub 3 (.int .i64 10) (fget φ 51))) := Z9 rfl (Zj rfl rfl)
theorem Z00C : stepT E C B 109 Z0v ZXk (φ, H) = stpT (some 53) φ H (just (aBin E.T .rem 3 (fget φ 49) (fget φ 52))) := Z9 rfl (Zj rfl rfl)
theorem Z04m : stepT E C B 109 Z0v ZX5 (φ, H) = stpT (some 54) φ H (just (aBin E.T .add 3 (fget φ 46) (fget φ 53))) := Z9 rfl (Zj rfl rfl)
theorem ZNx : stepT E C B 109 Z0v ZNq (φ, H) = stpT (some 55) φ H (just (Ze E.T 62 (fget φ 8) 1)) := Z9 rfl (Zj rfl rfl)
theorem ZEB : stepT E C B 109 Z0v ZNb (φ, H) = stpT none φ H (opStore E.T 3 (fget φ 55) (fget φ 54)) := Z9 rfl (Zj rfl rfl)
def ZD9 := kR ZnS
def Z2N := kO ZD9
def ZYt := opN Z2N 0
def Z04l := opN Z2N 1
def Z03U := opN Z2N 2
def ZW5 := opN Z2N 3
def Z05M := opN Z2N 4
def Z05s := opN Z2N 5
def Z04D := opN Z2N 6
theorem Z0b1 : XG 40 109 ZD9 Z2N [8, 56, 57, 58, 59, 60, 61] := Zb (by rfl) (by rfl) _
theorem Z05n : Z2N.toList = [ZYt, Z04l, Z03U, ZW5, Z05M, Z05s, Z04D] := nf
theorem Z018 : stepA E C B 109 Z2N ZYt (φ, H) = stp (some 56) φ H (just (Ze E.T 25 (fget φ 5) 0)) := nf
theorem Z036 : stepA E C B 109 Z2N Z04l (φ, H) = stp (some 57) φ H (just (aLoad E.T 22 (fget φ 56))) := nf
theorem ZX9 : stepA E C B 109 Z2N Z03U (φ, H) = stp (some 58) φ H (just (aLoad E.T 62 (fget φ 8))) := nf
theorem Z03H : stepA E C B 109 Z2N ZW5 (φ, H) = stp (some 59) φ H (ZB E.T (B + 59) 22 1 (evO E φ) [(0, Operand.tmp 58)]) := nf
theorem ZWd : stepA E C B 109 Z2N Z05M (φ, H) = stp (some 60) φ H (Zh E.T (B + 60) .append #[22, 22] [(fget φ 57), (fget φ 59)]) := nf
theorem ZWP : stepA E C B 109 Z2N Z05s (φ, H) = stp (some 61) φ H (just (Ze E.T 25 (fget φ 5) 0)) := nf
theorem Z03q : stepA E C B 109 Z2N Z04D (φ, H) = stp none φ H (opStore E.T 22 (fget φ 61) (fget φ 60)) := nf
theorem Z08C : XQ 40 109 ZnS ZzZ ZD9 := Z4 (by rfl) _
theorem Z0c2 : XQ 40 109 ZrR ZNB ZnS := Z4 (by rfl) _
theorem Z09d : XQ 40 109 Zre ZES ZrR := Z4 (by rfl) _
theorem Z09N : execA E C (fg 40) B 109 E0 N ZQB s = blockX 1 (fun s => (forget s.1 [], s.2)) (execA E C (fg 40) B 109 E0 N Zre s) := ZK (by rfl) (by rfl) s
def ZI5 := kR ZpC
def Zi5 := kO ZI5
def ZZP := opN Zi5 0
def ZYS := opN Zi5 1
theorem Z0ci : XG 40 109 ZI5 Zi5 [62] := Zb (by rfl) (by rfl) _
theorem Z00Y : Zi5.toList = [ZZP, ZYS] := nf
theorem ZWF : stepA E C B 109 Zi5 ZZP (φ, H) = stp (some 62) φ H (just (aBin E.T .add 3 (fget φ 23) (.int .i64 1))) := nf
theorem Z04h : stepA E C B 109 Zi5 ZYS (φ, H) = some (fput φ 23 (fget φ 62), H) := nf
theorem Z0bd : XQ 40 109 ZpC ZQB ZI5 := Z4 (by rfl) _
theorem ZFA : XQ 40 109 Zqb Zsf ZpC := Z4 (by rfl) _
theorem Z06q : XQ 40 109 Zjb ZSg Zqb := Z4 (by rfl) _
theorem Z07K : execA E C (fg 40) B 109 E0 N Z06K s = iterA (execA E C (fg 40) B 109 E0 N Zjb) (headA E0) N s := Z0H (by rfl) s
theorem Z06L : execA E C (fg 40) B 109 E0 N Z06X s = blockX 0 (fun s => (forget s.1 [21, 22, 23, 24], s.2)) (execA E C (fg 40) B 109 E0 N Z06K s) := ZK (by rfl) (by rfl) s
theorem Z07y : XQ 40 109 ZzM Z06W Z06X := Z4 (by rfl) _
def Zqc := kR ZzO
def ZBM := kL Zqc
def Z8Y := kO ZBM
def Z00d := opN Z8Y 0
def Z00k := opN Z8Y 1
def Z02f := opN Z8Y 2
def Z05Q := opN Z8Y 3
theorem ZAT : XG 40 109 ZBM Z8Y [63, 64, 65] := Zb (by rfl) (by rfl) _
theorem Zvr : Z8Y.toList = [Z00d, Z00k, Z02f, Z05Q] := nf
theorem Ztj : stepA E C B 109 Z8Y Z00d (φ, H) = stp (some 63) φ H (just (Ze E.T 25 (fget φ 5) 0)) := nf
theorem Zul : stepA E C B 109 Z8Y Z00k (φ, H) = stp (some 64) φ H (just (aLoad E.T 22 (fget φ 63))) := nf
theorem ZvP : stepA E C B 109 Z8Y Z02f (φ, H) = stp (some 65) φ H (Zh E.T (B + 65) .len #[22] [(fget φ 64)]) := nf
theorem Zty : stepA E C B 109 Z8Y Z05Q (φ, H) = some (fput φ 9 (fget φ 65), H) := nf
def Zpq := kR Zqc
def ZMh := kL Zpq
def Zco := kO ZMh
def ZRp := opN Zco 0
def ZH0 := opN Zco 1
theorem ZBK : XG 40 109 ZMh Zco [66] := Zb (by rfl) (by rfl) _
theorem Zmz : Zco.toList = [ZRp, ZH0] := nf
theorem ZjL : stepA E C B 109 Zco ZRp (φ, H) = stp (some 66) φ H (.pure (.clo 111 [(fget φ 2)], [])) := nf
theorem ZjE : stepA E C B 109 Zco ZH0 (φ, H) = some (fput φ 10 (fget φ 66), H) := nf
def ZsQ := kR Zpq
def ZUl := kL ZsQ
def Zpw := kO ZUl
def ZRu := opN Zpw 0
theorem ZSB : XG 40 109 ZUl Zpw [] := Zb (by rfl) (by rfl) _
theorem Zld : Zpw.toList = [ZRu] := nf
theorem Zlg : stepA E C B 109 Zpw ZRu (φ, H) = some (fput φ 11 (.int .i64 0), H) := nf
def Zpg := kR ZsQ
def Zs2 := kL Zpg
def ZP1 := kL Zs2
def Zdj := kO ZP1
def ZQv := opN Zdj 0
def ZUb := opN Zdj 1
theorem ZRN : XG 40 109 ZP1 Zdj [9] := Zb (by rfl) (by rfl) _
theorem Zm0 : Zdj.toList = [ZQv, ZUb] := nf
theorem ZlW : stepA E C B 109 Zdj ZQv (φ, H) = some (fput φ 67 (fget φ 9), H) := nf
theorem ZmY : stepA E C B 109 Zdj ZUb (φ, H) = some (fput φ 68 (.int .i64 0), H) := nf
def ZCk := kR Zs2
def ZMx := kB ZCk
def Zae := kB ZMx
def ZDU := kL Zae
def Zow := kO ZDU
def ZD0 := opN Zow 0
theorem Zax : XG 40 109 ZDU Zow [] := Zb (by rfl) (by rfl) _
theorem Z5w : Zow.toList = [ZD0] := nf
theorem Z5v : stepA E C B 109 Zow ZD0 (φ, H) = stp (some 69) φ H (just (aBin E.T .lss 3 (fget φ 68) (fget φ 67))) := nf
def Zod := kR Zae
def Zpy := kL Zod
def Z0bI := kT Zpy
theorem Zah : execA E C (fg 40) B 109 E0 N Z0bI s = some (.normal, s) := ZV (by rfl) s
def Z0ch := kE Zpy
theorem Za9 : execA E C (fg 40) B 109 E0 N Z0ch s = some (.exit 2, s) := Z0I (by rfl) s
theorem Zan : XC 40 109 Zpy 69 Z0bI Z0ch := ZN (by rfl) _
def Znw := kR Zod
def ZH1 := kL Znw
def Zr2 := kB ZH1
def ZAp := kL Zr2
def ZcW := kO ZAp
def ZT4 := opN ZcW 0
def ZU2 := opN ZcW 1
theorem Zpv : XG 40 109 ZAp ZcW [69, 70] := Zb (by rfl) (by rfl) _
theorem Zf9 : ZcW.toList = [ZT4, ZU2] := nf
theorem ZeB : stepA E C B 109 ZcW ZT4 (φ, H) = some (fput φ 70 (fget φ 68), H) := nf
theorem Zfs : stepA E C B 109 ZcW ZU2 (φ, H) = some (fput φ 12 (fget φ 70), H) := nf
def ZsC := kR Zr2
def ZCy := kL ZsC
def ZcE := kO ZCy
def ZDz := opN ZcE 0
def ZSO := opN ZcE 1
theorem Zsk : XG 40 109 ZCy ZcE [] := Zb (by rfl) (by rfl) _
theorem ZdY : ZcE.toList = [ZDz, ZSO] := nf
theorem Zej : stepA E C B 109 ZcE ZDz (φ, H) = some (fput φ 71 (fget φ 12), H) := nf
theorem ZeV : stepA E C B 109 ZcE ZSO (φ, H) = some (fput φ 72 (.int .i64 0), H) := nf
def ZTk := kR ZsC
def ZPO := kB ZTk
def Zag := kB ZPO
def ZOr := kL Zag
def Zsb := kO ZOr
def ZOV := opN Zsb 0
theorem Z4j : XG 40 109 ZOr Zsb [] := Zb (by rfl) (by rfl) _
theorem Z2i : Zsb.toList = [ZOV] := nf
theorem Z2h : stepA E C B 109 Zsb ZOV (φ, H) = stp (some 73) φ H (just (aBin E.T .lss 3 (fget φ 72) (fget φ 71))) := nf
def Zqo := kR Zag
def ZnL := kL Zqo
def Z0ad := kT ZnL
theorem Z4w : execA E C (fg 40) B 109 E0 N Z0ad s = some (.normal, s) := ZV (by rfl) s
def Z08k := kE ZnL
theorem Z4K : execA E C (fg 40) B 109 E0 N Z08k s = some (.exit 4, s) := Z0I (by rfl) s
theorem Z4u : XC 40 109 ZnL 73 Z0ad Z08k := ZN (by rfl) _
def Zr8 := kR Zqo
def ZPf := kL Zr8
def ZsE := kB ZPf
def ZBO := kL ZsE
def Zcu := kO ZBO
def ZJO := opN Zcu 0
def ZHx := opN Zcu 1
theorem Z9g : XG 40 109 ZBO Zcu [73, 74] := Zb (by rfl) (by rfl) _
theorem Z4g : Zcu.toList = [ZJO, ZHx] := nf
theorem Z4d : stepA E C B 109 Zcu ZJO (φ, H) = some (fput φ 74 (fget φ 72), H) := nf
theorem Z4J : stepA E C B 109 Zcu ZHx (φ, H) = some (fput φ 13 (fget φ 74), H) := nf
def ZoX := kR ZsE
def Zov := kL ZoX
def ZKO := kL Zov
def Z2H := kO ZKO
def ZOj := opN Z2H 0
def ZLo := opN Z2H 1
def ZPK := opN Z2H 2
def ZDy := opN Z2H 3
def ZF9 := opN Z2H 4
def ZGS := opN Z2H 5
theorem Z9o : XG 40 109 ZKO Z2H [75, 76, 77, 78, 79] := Zb (by rfl) (by rfl) _
theorem Z4l : Z2H.toList = [ZOj, ZLo, ZPK, ZDy, ZF9, ZGS] := nf
theorem Z4e : stepA E C B 109 Z2H ZOj (φ, H) = stp (some 75) φ H (just (Ze E.T 58 (fget φ 2) 2)) := nf
theorem Z4r : stepA E C B 109 Z2H ZLo (φ, H) = stp (some 76) φ H (just (aLoad E.T 55 (fget φ 75))) := nf
theorem Z4M : stepA E C B 109 Z2H ZPK (φ, H) = some (fput φ 77 (fget φ 11), H) := nf
theorem Z4H : stepA E C B 109 Z2H ZDy (φ, H) = stp (some 78) φ H (just (aBin E.T .shr 55 (fget φ 76) (fget φ 77))) := nf
theorem Z4C : stepA E C B 109 Z2H ZF9 (φ, H) = stp (some 79) φ H (just (aBin E.T .and 55 (fget φ 78) (.int .u16 1))) := nf
theorem Z4m : stepA E C B 109 Z2H ZGS (φ, H) = stp (some 80) φ H (just (aBin E.T .eql 55 (fget φ 79) (.int .u16 1))) := nf
def ZoH := kR Zov
def Zrk := kT ZoH
def ZTU := kL Zrk
def Z29 := kO ZTU
def ZLC := opN Z29 0
def ZUg := opN Z29 1
def ZS0 := opN Z29 2
def ZSM := opN Z29 3
def ZRv := opN Z29 4
def ZNV := opN Z29 5
def ZRg := opN Z29 6
theorem Z9z : XG 40 109 ZTU Z29 [80, 81, 82, 83, 84, 85, 86] := Zb (by rfl) (by rfl) _
theorem Z4E : Z29.toList = [ZLC, ZUg, ZS0, ZSM, ZRv, ZNV, ZRg] := nf
theorem Z4s : stepA E C B 109 Z29 ZLC (φ, H) = some (fput φ 81 (fget φ 10), H) := nf
theorem Z4B : stepA E C B 109 Z29 ZUg (φ, H) = some (fput φ 82 (fget φ 13), H) := nf
theorem Z4p : stepA E C B 109 Z29 ZS0 (φ, H) = callV E C (B + 109 * 8) (some 83) (fun j => B + j * 109 + 83) φ H (fget φ 81) [(fget φ 82)] true := nf
theorem Z8b : stepA E C B 109 Z29 ZSM (φ, H) = some (fput φ 84 (fget φ 10), H) := nf
theorem Z8h : stepA E C B 109 Z29 ZRv (φ, H) = some (fput φ 85 (fget φ 12), H) := nf
theorem Z7E : stepA E C B 109 Z29 ZNV (φ, H) = callV E C (B + 109 * 8) (some 86) (fun j => B + j * 109 + 86) φ H (fget φ 84) [(fget φ 85)] true := nf
theorem Z7o : stepA E C B 109 Z29 ZRg (φ, H) = stp (some 87) φ H (just (aBin E.T .lss 3 (fget φ 83) (fget φ 86))) := nf
def Zrd := kR Zrk
def ZII := kT Zrd
def Z12 := kO ZII
def ZUi := opN Z12 0
def ZFC := opN Z12 1
def ZH4 := opN Z12 2
def ZDS := opN Z12 3
def ZRV := opN Z12 4
def ZTV := opN Z12 5
def ZBf := opN Z12 6
def ZCc := opN Z12 7
def ZOp := opN Z12 8
theorem ZbW : XG 40 109 ZII Z12 [13, 87, 88, 89, 90, 91, 92, 93, 94, 95] := Zb (by rfl) (by rfl) _
theorem Z8d : Z12.toList = [ZUi, ZFC, ZH4, ZDS, ZRV, ZTV, ZBf, ZCc, ZOp] := nf
theorem Z6G : stepA E C B 109 Z12 ZUi (φ, H) = stp (some 88) φ H (just (Ze E.T 25 (fget φ 5) 1)) := nf
theorem Z7h : stepA E C B 109 Z12 ZFC (φ, H) = stp (some 89) φ H (just (aLoad E.T 23 (fget φ 88))) := nf
theorem Z6v : stepA E C B 109 Z12 ZH4 (φ, H) = some (fput φ 90 (fget φ 13), H) := nf
theorem Z7W : stepA E C B 109 Z12 ZDS (φ, H) = some (fput φ 91 (fget φ 12), H) := nf
theorem Z6z : stepA E C B 109 Z12 ZRV (φ, H) = stp (some 92) φ H (justO (aBuild E.T 64 (evO E φ) [(0, Operand.tmp 90), (1, Operand.tmp 91)])) := nf
theorem Z7T : stepA E C B 109 Z12 ZTV (φ, H) = stp (some 93) φ H (ZB E.T (B + 93) 23 1 (evO E φ) [(0, Operand.tmp 92)]) := nf
theorem Z6M : stepA E C B 109 Z12 ZBf (φ, H) = stp (some 94) φ H (Zh E.T (B + 94) .append #[23, 23] [(fget φ 89), (fget φ 93)]) := nf
theorem Z8B : stepA E C B 109 Z12 ZCc (φ, H) = stp (some 95) φ H (just (Ze E.T 25 (fget φ 5) 1)) := nf
theorem Z6S : stepA E C B 109 Z12 ZOp (φ, H) = stp none φ H (opStore E.T 23 (fget φ 95) (fget φ 94)) := nf
def ZEq := kE Zrd
def Z0W := kO ZEq
def ZV4 := opN Z0W 0
def ZAZ := opN Z0W 1
def ZIL := opN Z0W 2
def ZI2 := opN Z0W 3
def ZLx := opN Z0W 4
def ZT8 := opN Z0W 5
def ZSm := opN Z0W 6
def ZRY := opN Z0W 7
def ZGF := opN Z0W 8
theorem ZdJ : XG 40 109 ZEq Z0W [13, 87, 96, 97, 98, 99, 100, 101, 102, 103] := Zb (by rfl) (by rfl) _
theorem Z8x : Z0W.toList = [ZV4, ZAZ, ZIL, ZI2, ZLx, ZT8, ZSm, ZRY, ZGF] := nf
theorem Z6D : stepA E C B 109 Z0W ZV4 (φ, H) = stp (some 96) φ H (just (Ze E.T 25 (fget φ 5) 1)) := nf
theorem Z7m : stepA E C B 109 Z0W ZAZ (φ, H) = stp (some 97) φ H (just (aLoad E.T 23 (fget φ 96))) := nf
theorem Z8r : stepA E C B 109 Z0W ZIL (φ, H) = some (fput φ 98 (fget φ 12), H) := nf
theorem Z6V : stepA E C B 109 Z0W ZI2 (φ, H) = some (fput φ 99 (fget φ 13), H) := nf
theorem Z84 : stepA E C B 109 Z0W ZLx (φ, H) = stp (some 100) φ H (justO (aBuild E.T 64 (evO E φ) [(0, Operand.tmp 98), (1, Operand.tmp 99)])) := nf
theorem Z6p : stepA E C B 109 Z0W ZT8 (φ, H) = stp (some 101) φ H (ZB E.T (B + 101) 23 1 (evO E φ) [(0, Operand.tmp 100)]) := nf
theorem Z6k : stepA E C B 109 Z0W ZSm (φ, H) = stp (some 102) φ H (Zh E.T (B + 102) .append #[23, 23] [(fget φ 97), (fget φ 101)]) := nf
theorem Z7a : stepA E C B 109 Z0W ZRY (φ, H) = stp (some 103) φ H (just (Ze E.T 25 (fget φ 5) 1)) := nf
theorem Z7Z : stepA E C B 109 Z0W ZGF (φ, H) = stp none φ H (opStore E.T 23 (fget φ 103) (fget φ 102)) := nf
theorem Zd8 : XC 40 109 Zrd 87 ZII ZEq := ZN (by rfl) _
theorem Z9n : XQ 40 109 Zrk ZTU Zrd := Z4 (by rfl) _
def Z09G := kE ZoH
theorem Z9B : execA E C (fg 40) B 109 E0 N Z09G s = some (.normal, s) := ZV (by rfl) s
theorem Z9d : XC 40 109 ZoH 80 Zrk Z09G := ZN (by rfl) _
theorem Z9w : XQ 40 109 Zov ZKO ZoH := Z4 (by rfl) _
def ZJk := kR ZoX
def Z9h := kO ZJk
def ZJg := opN Z9h 0
def ZFN := opN Z9h 1
def ZGB := opN Z9h 2
theorem Z9C : XG 40 109 ZJk Z9h [13, 80, 104, 105] := Zb (by rfl) (by rfl) _
theorem Z4y : Z9h.toList = [ZJg, ZFN, ZGB] := nf
theorem Z4c : stepA E C B 109 Z9h ZJg (φ, H) = some (fput φ 104 (fget φ 11), H) := nf
theorem Z4i : stepA E C B 109 Z9h ZFN (φ, H) = stp (some 105) φ H (just (aBin E.T .add 3 (fget φ 104) (.int .i64 1))) := nf
theorem Z4I : stepA E C B 109 Z9h ZGB (φ, H) = some (fput φ 11 (fget φ 105), H) := nf
theorem Z9p : XQ 40 109 ZoX Zov ZJk := Z4 (by rfl) _
theorem Z99 : XQ 40 109 ZsE ZBO ZoX := Z4 (by rfl) _
theorem Z97 : execA E C (fg 40) B 109 E0 N ZPf s = blockX 5 (fun s => (forget s.1 [], s.2)) (execA E C (fg 40) B 109 E0 N ZsE s) := ZK (by rfl) (by rfl) s
def ZRk := kR Zr8
def Zcd := kO ZRk
def ZHh := opN Zcd 0
def ZHT := opN Zcd 1
theorem Z9i : XG 40 109 ZRk Zcd [106] := Zb (by rfl) (by rfl) _
theorem Z4A : Zcd.toList = [ZHh, ZHT] := nf
theorem Z4a : stepA E C B 109 Zcd ZHh (φ, H) = stp (some 106) φ H (just (aBin E.T .add 3 (fget φ 72) (.int .i64 1))) := nf
theorem Z4n : stepA E C B 109 Zcd ZHT (φ, H) = some (fput φ 72 (fget φ 106), H) := nf
theorem Z9x : XQ 40 109 Zr8 ZPf ZRk := Z4 (by rfl) _
theorem Z4b : XQ 40 109 Zqo ZnL Zr8 := Z4 (by rfl) _
theorem Z49 : XQ 40 109 Zag ZOr Zqo := Z4 (by rfl) _
theorem Zqq : execA E C (fg 40) B 109 E0 N ZPO s = iterA (execA E C (fg 40) B 109 E0 N Zag) (headA E0) N s := Z0H (by rfl) s
theorem Zoh : execA E C (fg 40) B 109 E0 N ZTk s = blockX 4 (fun s => (forget s.1 [12, 71, 72, 73], s.2)) (execA E C (fg 40) B 109 E0 N ZPO s) := ZK (by rfl) (by rfl) s
theorem ZsD : XQ 40 109 ZsC ZCy ZTk := Z4 (by rfl) _
theorem Znt : XQ 40 109 Zr2 ZAp ZsC := Z4 (by rfl) _
theorem ZnD : execA E C (fg 40) B 109 E0 N ZH1 s = blockX 3 (fun s => (forget s.1 [], s.2)) (execA E C (fg 40) B 109 E0 N Zr2 s) := ZK (by rfl) (by rfl) s
def ZIO := kR Znw
def Zd5 := kO ZIO
def ZO2 := opN Zd5 0
def ZH8 := opN Zd5 1
theorem ZnU : XG 40 109 ZIO Zd5 [107] := Zb (by rfl) (by rfl) _
theorem Zfk : Zd5.toList = [ZO2, ZH8] := nf
theorem Zfa : stepA E C B 109 Zd5 ZO2 (φ, H) = stp (some 107) φ H (just (aBin E.T .add 3 (fget φ 68) (.int .i64 1))) := nf
theorem Zex : stepA E C B 109 Zd5 ZH8 (φ, H) = some (fput φ 68 (fget φ 107), H) := nf
theorem ZpE : XQ 40 109 Znw ZH1 ZIO := Z4 (by rfl) _
theorem ZaR : XQ 40 109 Zod Zpy Znw := Z4 (by rfl) _
theorem Zak : XQ 40 109 Zae ZDU Zod := Z4 (by rfl) _
theorem ZB0 : execA E C (fg 40) B 109 E0 N ZMx s = iterA (execA E C (fg 40) B 109 E0 N Zae) (headA E0) N s := Z0H (by rfl) s
theorem ZQe : execA E C (fg 40) B 109 E0 N ZCk s = blockX 2 (fun s => (forget s.1 [2, 10, 11, 67, 68, 69], s.2)) (execA E C (fg 40) B 109 E0 N ZMx s) := ZK (by rfl) (by rfl) s
theorem ZGI : XQ 40 109 Zs2 ZP1 ZCk := Z4 (by rfl) _
def ZqD := kR Zpg
def ZM3 := kL ZqD
def ZcC := kO ZM3
def ZBr := opN ZcC 0
def ZMT := opN ZcC 1
theorem ZJ4 : XG 40 109 ZM3 ZcC [5, 108] := Zb (by rfl) (by rfl) _
theorem ZjF : ZcC.toList = [ZBr, ZMT] := nf
theorem Zju : stepA E C B 109 ZcC ZBr (φ, H) = stp (some 108) φ H (just (aLoad E.T 25 (fget φ 5))) := nf
theorem ZjM : stepA E C B 109 ZcC ZMT (φ, H) = stp none φ H (opStore E.T 25 (fget φ 4) (fget φ 108)) := nf
def Z08g := kR ZqD
theorem ZP2 : execA E C (fg 40) B 109 E0 N Z08g s = some (.ret, s) := Z06 (by rfl) s
theorem ZMq : XQ 40 109 ZqD ZM3 Z08g := Z4 (by rfl) _
theorem ZM1 : XQ 40 109 Zpg Zs2 ZqD := Z4 (by rfl) _
theorem ZNJ : XQ 40 109 ZsQ ZUl Zpg := Z4 (by rfl) _
theorem ZJm : XQ 40 109 Zpq ZMh ZsQ := Z4 (by rfl) _
theorem ZFD : XQ 40 109 Zqc ZBM Zpq := Z4 (by rfl) _
theorem Z06n : XQ 40 109 ZzO ZzM Zqc := Z4 (by rfl) _
theorem Z05Y : XQ 40 109 ZyO Z06V ZzO := Z4 (by rfl) _
theorem Z06r : XQ 40 109 ZrI Z06E ZyO := Z4 (by rfl) _
theorem Z0r2 : fInfo E 40 = some ⟨109, #[.cell 4 25], ZrI⟩ := nf
theorem b_40 (args : List AV) : bodyA E C fg N 40 args H B = bodyX E [.cell 4 25] (execA E C (fg 40) B 109 H N ZrI (Zw args 0 [], H)) := Z0a Z0r2 args H
def ZfQ := kBody Proofs.Tryd.f111
def ZTY := kL ZfQ
def ZoM := kO ZTY
def ZN1 := opN ZoM 0
theorem Z0of : XG 111 12 ZTY ZoM [3] := Zb (by rfl) (by rfl) _
theorem Z0gi : ZoM.toList = [ZN1] := nf
theorem Z0eg : stepA E C B 12 ZoM ZN1 (φ, H) = some (fput φ 3 (.int .i64 0), H) := nf
def ZpJ := kR ZfQ
def ZNO := kL ZpJ
def Z13 := kO ZNO
def ZAa := opN Z13 0
def ZCN := opN Z13 1
def ZQI := opN Z13 2
def ZRb := opN Z13 3
def ZOM := opN Z13 4
def ZMo := opN Z13 5
def ZNK := opN Z13 6
def ZEh := opN Z13 7
def ZJH := opN Z13 8
theorem Z0ow : XG 111 12 ZNO Z13 [0, 1, 4, 5, 6, 7, 8, 9, 10, 11] := Zb (by rfl) (by rfl) _
theorem Z0fr : Z13.toList = [ZAa, ZCN, ZQI, ZRb, ZOM, ZMo, ZNK, ZEh, ZJH] := nf
theorem Z0gO : stepA E C B 12 Z13 ZAa (φ, H) = some (fput φ 4 (fget φ 0), H) := nf
theorem Z0h7 : stepA E C B 12 Z13 ZCN (φ, H) = stp (some 5) φ H (just (Ze E.T 58 (fget φ 1) 3)) := nf
theorem Z0eD : stepA E C B 12 Z13 ZQI (φ, H) = stp (some 6) φ H (just (Z5 E.T 56 (fget φ 5) (fget φ 4))) := nf
theorem Z0cX : stepA E C B 12 Z13 ZRb (φ, H) = stp (some 7) φ H (just (aLoad E.T 5 (fget φ 6))) := nf
theorem Z0fL : stepA E C B 12 Z13 ZOM (φ, H) = stp (some 8) φ H (justO (aConv E.T 5 3 (fget φ 7))) := nf
theorem Z0er : stepA E C B 12 Z13 ZMo (φ, H) = stp (some 9) φ H (just (aBin E.T .mul 3 (fget φ 8) (.int .i64 8))) := nf
theorem Z0d2 : stepA E C B 12 Z13 ZNK (φ, H) = some (fput φ 10 (fget φ 0), H) := nf
theorem Z0dP : stepA E C B 12 Z13 ZEh (φ, H) = stp (some 11) φ H (just (aBin E.T .add 3 (fget φ 9) (fget φ 10))) := nf
theorem Z0gH : stepA E C B 12 Z13 ZJH (φ, H) = some (fput φ 3 (fget φ 11), H) := nf
def Z0cW := kR ZpJ
theorem Z0pk : execA E C (fg 111) B 12 E0 N Z0cW s = some (.ret, s) := Z06 (by rfl) s
theorem Z0oL : XQ 111 12 ZpJ ZNO Z0cW := Z4 (by rfl) _
theorem Z0qj : XQ 111 12 ZfQ ZTY ZpJ := Z4 (by rfl) _
theorem Za3 : fInfo E 111 = some ⟨12, #[.tmp 3], ZfQ⟩ := nf
theorem Z0s9 (args : List AV) : bodyA E C fg N 111 args H B = bodyX E [.tmp 3] (execA E C (fg 111) B 12 H N ZfQ (Zw args 0 [], H)) := Z0a Za3 args H
end Go.AM.YtgfnbmfjbjopkaaDoor
end
noncomputable section
namespace Go.AM
noncomputable section
variable {k : Nat} {c : List AV} {T : AHeap}
theorem Z7J (hc : refsL c = []) : ∀ (n : Nat) (todo seen : List Nat), mark ((k, ⟨.box, c⟩) :: T) n todo seen = mark ((k, ⟨.box, []⟩) :: T) n todo seen
 | 0, _, _ => rfl
 | n + 1, [], _ => rfl
 | n + 1, i :: todo, seen => by
   simp only [mark, Zd]
   by_cases hs : seen.contains i = true
   · rw [if_pos hs, if_pos hs]; exact Z7J hc n todo seen
   · rw [if_neg hs, if_neg hs]
     by_cases e : k = i
     · rw [if_pos e, if_pos e]
       simp only [hc]
       exact Z7J hc n _ _
     · rw [if_neg e, if_neg e]
       cases hget T i with
       | none => exact Z7J hc n _ _
       | some b =>
         obtain ⟨st, cs⟩ := b
         cases st <;> exact Z7J hc n _ _
theorem Zk4 (S : AHeap) : ∀ l : List Nat, allHeld ((k, ⟨.box, c⟩) :: S) l = allHeld ((k, ⟨.box, []⟩) :: S) l
 | [] => rfl
 | i :: l => by
   simp only [allHeld, Zd, Zk4 S l]
   by_cases e : k = i
   · rw [if_pos e, if_pos e]; rfl
   · rw [if_neg e, if_neg e]
theorem Zq0 (S : AHeap) : ∀ K : AHeap, closedH ((k, ⟨.box, c⟩) :: S) K = closedH ((k, ⟨.box, []⟩) :: S) K
 | [] => rfl
 | (i, ⟨st, cs⟩) :: K => by
   cases st <;> simp only [closedH, Zk4, Zq0 S K]
theorem Z07 (hc : refsL c = []) {φ : AFr} {T' : AHeap} (hT : hget T k = none) (h : headA [] (φ, (k, ⟨.box, []⟩) :: T) = (φ, (k, ⟨.box, []⟩) :: T')) : headA [] (φ, (k, ⟨.box, c⟩) :: T) = (φ, (k, ⟨.box, c⟩) :: T') := by
 simp only [headA, Z7J hc] at h ⊢
 generalize mark ((k, ⟨.box, []⟩) :: T) 1000 (refsF φ) [] = keep at *
 simp only [keepB] at h ⊢
 have hno : ∀ b, (k, b) ∉ T := by
   intro b hb
   have := ZEy hb
   rw [hT] at this
   simp at this
 have hsub : ∀ (S : AHeap) (p : Nat × Blk), p ∈ keepB [] keep S → p ∈ S := by
   intro S
   induction S with
   | nil => intro p hp; exact hp
   | cons q S ih =>
     intro p hp
     obtain ⟨i, b⟩ := q
     simp only [keepB] at hp
     cases hcnd : (keep.elem i || (hget [] i).isSome) with
     | true =>
       rw [hcnd, cond_true] at hp
       rcases List.mem_cons.1 hp with e | hp
       · simp [e]
       · exact List.mem_cons_of_mem _ (ih p hp)
     | false =>
       rw [hcnd, cond_false] at hp
       exact List.mem_cons_of_mem _ (ih p hp)
 have hclosed : ∀ S, closedB φ ((k, ⟨.box, c⟩) :: S) = closedB φ ((k, ⟨.box, []⟩) :: S) := by
   intro S
   simp only [closedB, Zk4, closedH, hc, Zq0, refsL, allHeld]
 cases hcnd : (keep.elem k || (hget [] k).isSome) with
 | true =>
   rw [hcnd] at h
   simp only [cond_true, gcIf, hclosed] at h ⊢
   cases hcl : closedB φ ((k, ⟨.box, []⟩) :: keepB [] keep T) with
   | true =>
     rw [hcl] at h
     simp only [Prod.mk.injEq, List.cons.injEq, true_and] at h ⊢
     exact h
   | false =>
     rw [hcl] at h
     simp only [Prod.mk.injEq, List.cons.injEq, true_and] at h ⊢
     exact h
 | false =>
   rw [hcnd] at h
   simp only [cond_false, gcIf] at h ⊢
   cases hcl : closedB φ (keepB [] keep T) with
   | true =>
     rw [hcl] at h
     simp only [Prod.mk.injEq, true_and] at h
     exfalso
     exact hno ⟨.box, []⟩ (hsub T _ (by rw [h]; simp))
   | false =>
     rw [hcl] at h
     simp only [Prod.mk.injEq, List.cons.injEq, true_and] at h ⊢
     exact h
end
theorem ZY : ∀ (l : List AV), (∀ a ∈ l, ∃ k z, a = AV.int k z) → refsL l = []
 | [], _ => rfl
 | a :: l, h => by
   obtain ⟨k, z, rfl⟩ := h a (by simp)
   simp only [refsL, refsOf, List.nil_append]
   exact ZY l fun b hb => h b (by simp [hb])
end Go.AM
end
noncomputable section
namespace Go.AM.YtgfnbmfjbjopkaaDoor
open Go Go.AM Go.AM.Mule
structure Q5 where
 a : Int
 b : Int
 c : Int
 d : Int
 e : Int
deriving Inhabited
def q5c (q : Q5) : List AV := [.int .u8 q.a, .int .u8 q.b, .int .u8 q.c, .int .u8 q.d, .int .u8 q.e]
theorem ZfU (q : Q5) : (q5c q).length = 5 := rfl
structure Q5Ok (q : Q5) : Prop where
 a : 0 ≤ q.a ∧ q.a ≤ 255
 b : 0 ≤ q.b ∧ q.b ≤ 255
 c : 0 ≤ q.c ∧ q.c ≤ 255
 d : 0 ≤ q.d ∧ q.d ≤ 255
 e : 0 ≤ q.e ∧ q.e ≤ 255
structure Dro where
 many : Int
 xs : List Q5
 pairs : Nat
 al : List Int
def u8s (l : List Int) : List AV := l.map (AV.int .u8)
def dcs (D : Dro) : List AV := .int .u8 D.many :: (cls q5c D.xs ++ (.int .u16 (D.pairs : Int) :: u8s D.al))
structure DOk (D : Dro) : Prop where
 many : 0 ≤ D.many ∧ D.many ≤ 255
 xl : D.xs.length = 6
 xs : ∀ q ∈ D.xs, Q5Ok q
 pairs : D.pairs < 65536
 ll : D.al.length = 6
 al : ∀ z ∈ D.al, 0 ≤ z ∧ z ≤ 255
theorem Z9R {D : Dro} (h : DOk D) : (dcs D).length = 38 := by
 simp [dcs, ZA ZfU, h.xl, u8s, h.ll]
theorem Z0qU {D : Dro} {i : Nat} {q : Q5} (hx : D.xs[i]? = some q) : ((dcs D).drop (1 + i * 5)).take 5 = q5c q := by
 have hi := (List.getElem?_eq_some_iff.1 hx).1
 have hl := ZA ZfU D.xs
 rw [dcs, show 1 + i * 5 = i * 5 + 1 by omega, List.drop_succ_cons, List.drop_append_of_le_length (by rw [hl]; omega), List.take_append_of_le_length (by rw [List.length_drop, hl]; omega)]
 exact Z1l ZfU hx
theorem Z0sg {D : Dro} (h : DOk D) : (dcs D)[31]? = some (.int .u16 (D.pairs : Int)) := by
 have hl := ZA ZfU D.xs
 rw [h.xl] at hl
 rw [dcs, List.getElem?_cons_succ, List.getElem?_append_right (by omega), hl]; rfl
theorem Z0rY {D : Dro} (h : DOk D) {i : Nat} {z : Int} (hz : D.al[i]? = some z) : (dcs D)[32 + i]? = some (.int .u8 z) := by
 have hl := ZA ZfU D.xs
 rw [h.xl] at hl
 rw [dcs, show 32 + i = (31 + i) + 1 by omega, List.getElem?_cons_succ, List.getElem?_append_right (by omega), hl, show 31 + i - 6 * 5 = i + 1 by omega, List.getElem?_cons_succ]
 simp [u8s, hz]
theorem Z0F {D : Dro} : ∀ a ∈ dcs D, ∃ k z, a = AV.int k z := by
 intro a ha
 simp only [dcs, List.mem_cons, List.mem_append] at ha
 rcases ha with rfl | ha | rfl | ha
 · exact ⟨_, _, rfl⟩
 · simp only [cls, List.mem_flatMap] at ha
   obtain ⟨q, _, ha⟩ := ha
   simp only [q5c, List.mem_cons, List.not_mem_nil, or_false] at ha
   rcases ha with rfl | rfl | rfl | rfl | rfl <;> exact ⟨_, _, rfl⟩
 · exact ⟨_, _, rfl⟩
 · simp only [u8s, List.mem_map] at ha
   obtain ⟨z, _, rfl⟩ := ha
   exact ⟨_, _, rfl⟩
theorem ZeN {D : Dro} (h : DOk D) {d : Nat} (hd : 40 ≤ d) : snaps d (dcs D) = .pure (dcs D, []) := Zs4 _ _ Z0F (by rw [Z9R h]; omega)
def mdl (q : Q5) : Ld := { lo := 1 + q.a % 9, hi := 1 + q.a % 9 + q.b % (10 - (1 + q.a % 9)), due := q.c % 30, rate := q.d % 6, base := q.e % 8 }
def nOf (D : Dro) (m : Int) : Nat := 1 + (D.many % m).toNat
theorem ZyS {D : Dro} (_ : DOk D) {m : Int} (hm : m = 5 ∨ m = 6) : 1 ≤ nOf D m ∧ (nOf D m : Int) ≤ m := by
 unfold nOf
 rcases hm with rfl | rfl <;> omega
theorem Z083 {q : Q5} (h : Q5Ok q) : LdOk (mdl q) ∧ ldE (mdl q) = 0 := by
 obtain ⟨⟨a1, a2⟩, ⟨b1, b2⟩, ⟨c1, c2⟩, ⟨d1, d2⟩, ⟨e1, e2⟩⟩ := h
 have hm : 0 < 10 - (1 + q.a % 9) := by omega
 have h1 := Int.emod_nonneg q.b (show (10 - (1 + q.a % 9)) ≠ 0 by omega)
 have h2 := Int.emod_lt_of_pos q.b hm
 have hok : LdOk (mdl q) := by refine ⟨?_, ?_, ?_, ?_, ?_⟩ <;> simp only [mdl] <;> omega
 refine ⟨hok, ?_⟩
 unfold ldE
 rw [if_pos (Z08r.2 hok), if_neg (by simp only [mdl]; omega)]
def mdL (D : Dro) (n : Nat) : List Ld := (D.xs.take n).map mdl
theorem Z7F {D : Dro} (h : DOk D) {n : Nat} (hn : n ≤ 6) : (mdL D n).length = n := by simp [mdL, h.xl]; omega
abbrev m1S (D : Dro) (n i : Nat) : St :=
 ([(23, .int .i64 i), (22, .int .i64 n), (21, .ref 2 1 n 6 38 5 true), (5, .ptr 5 0 2), (4, .ptr 4 0 2), (2, .ptr 2 0 38)],
   (2, ⟨.box, dcs D⟩) :: (4, ⟨.box, [.nilsl, .nilsl]⟩) :: (5, ⟨.box, [oV 60 5 i, .nilsl]⟩) :: oH 60 (cls lc (mdL D i)))
theorem Z08V {n : Nat} (h : n ≤ 1000000) : roomOk E.T 62 n = true := by
 simp only [roomOk, T_62, decide_eq_true_eq]; exact ⟨by decide, rfl, by omega⟩
theorem Z0rk {C : Callee} {D : Dro} (h : DOk D) {n : Nat} (hn : n ≤ 6) (i : Nat) (hi : i < n) :
   ∃ s', (execA E C (fg 40) 0 109 [] 1000 Zjb) (m1S D n i) = some (.normal, s') ∧ headA [] s' = m1S D n (i + 1) := by
 have hx : D.xs[i]? = some (D.xs[i]'(by rw [h.xl]; omega)) := List.getElem?_eq_getElem _
 have hq := h.xs _ (List.mem_of_getElem? hx)
 have hat := Z0qU hx
 have hsucc : mdL D (i + 1) = mdL D i ++ [mdl (D.xs[i]'(by rw [h.xl]; omega))] := by
   unfold mdL
   rw [List.take_add_one, hx, Option.toList_some, List.map_append]
   rfl
 have hml := Z7F h (show i ≤ 6 by omega)
 have hsn := Zfl (f := lc) (mdL D i) (mdl (D.xs[i]'(by rw [h.xl]; omega)))
 have htl := ZA ZX (mdL D i)
 have htk := Z7n ZX (mdL D i)
 rw [hml] at htl htk
 have hlen := Z9R h
 generalize (D.xs[i]'(by rw [h.xl]; omega)) = q at *
 obtain ⟨⟨a1, a2⟩, ⟨b1, b2⟩, ⟨c1, c2⟩, ⟨d1, d2⟩, ⟨e1, e2⟩⟩ := hq
 have hm : 0 < 10 - (1 + q.a % 9) := by omega
 have hb1 := Int.emod_nonneg q.b (show (10 - (1 + q.a % 9)) ≠ 0 by omega)
 have hb2 := Int.emod_lt_of_pos q.b hm
 have r1 : q.a.tmod 9 = q.a % 9 := Int.tmod_eq_emod_of_nonneg a1
 have r2 : q.c.tmod 30 = q.c % 30 := Int.tmod_eq_emod_of_nonneg c1
 have r3 : q.d.tmod 6 = q.d % 6 := Int.tmod_eq_emod_of_nonneg d1
 have r4 : q.e.tmod 8 = q.e % 8 := Int.tmod_eq_emod_of_nonneg e1
 have r5 : q.b.tmod (10 - (1 + q.a % 9)) = q.b % (10 - (1 + q.a % 9)) := Int.tmod_eq_emod_of_nonneg b1
 have z5 : ¬ (10 - (1 + q.a % 9) = 0) := by omega
 have w1 : wrp .i64 (1 + q.a % 9) = 1 + q.a % 9 := Z0i (by omega)
 have w2 : wrp .i64 (10 - (1 + q.a % 9)) = 10 - (1 + q.a % 9) := Z0i (by omega)
 have w3 : wrp .i64 (1 + q.a % 9 + q.b % (10 - (1 + q.a % 9))) = 1 + q.a % 9 + q.b % (10 - (1 + q.a % 9)) := Z0i (by omega)
 have wa : wrp .i64 q.a = q.a := Z0i (by omega)
 have wb : wrp .i64 q.b = q.b := Z0i (by omega)
 have wc : wrp .i64 q.c = q.c := Z0i (by omega)
 have wd : wrp .i64 q.d = q.d := Z0i (by omega)
 have we : wrp .i64 q.e = q.e := Z0i (by omega)
 have g1 : (i : Int) < n := by omega
 have nm : ¬ (i + 1 ≤ i) := by omega
 have eL : lc (mdl q) = [.int .i64 (1 + q.a % 9), .int .i64 (1 + q.a % 9 + q.b % (10 - (1 + q.a % 9))), .int .i64 (q.c % 30), .int .i64 (q.d % 6), .int .i64 (q.e % 8)] := rfl
 simp only [q5c] at hat
 have ho : 1 + i * 5 + 5 ≤ 38 := by omega
 simp only [m1S]
 rw [hsucc, ← hsn, eL]
 cases i with
 | zero =>
   rw [Nat.zero_mul, Nat.add_zero] at hat
   simp only [mdL, List.take_zero, List.map_nil, ZhK, List.nil_append, oH, oV]
   simp (disch := omega) only [Z8, Zg, Bool.not_true, Bool.not_false, Zc, Za, Z2, Z1, Z3, Z0, Zl, Zd, Zx, Zi, Zo, Zm, stp, opBox, justO, just, Rd.bind, Rd.run, Rd.opt, upds, acells, zeroCells, tsz, elemT, rdCells, fieldOf, Ze, aLoad, aStore, opStore, fresh, Z5, aNum, Zh, aBin, aInt, putC, evO, Nat.reduceAdd, Nat.reduceMul, Nat.reduceLT, Nat.reduceGT, Nat.reduceBEq, Nat.reduceEqDiff, Nat.reduceLeDiff, ↓reduceIte, reduceCtorEq, Zf, decide_eq_true_eq, Nat.zero_add, Nat.add_zero, ne_eq, List.nil_append, List.getElem?_toArray, ZE, ZH, ZO, ZP, Zz, ZL, Zt, Zn, ZC, Zv, stpT, Rd.foot, writing, Zq, Tr.empty, Zs, apartT, disj, List.isEmpty_nil, List.isEmpty_cons, List.map_nil, List.map_cons, Bool.not_false, Bool.not_true, Bool.true_or, Bool.or_true, Bool.or_false, Bool.and_true, Bool.true_and, Bool.and_self, decide_true, not_true_eq_false, or_self, ZB, Z02, fo6, fo5, partsOf, fillA, repC, Z00, aAppend, srcOf, window, Z7, Zk, and_true, true_and, snaps, List.append_nil, Option.map_some, List.elem_cons, List.elem_nil, List.length_cons, List.length_nil, List.getElem?_cons_zero, List.getElem?_cons_succ, List.drop_zero, List.take_succ_cons, List.take_nil, List.set_cons_zero, List.set_cons_succ, Zp, seqN, bindN, regN, Zr, ZM, aConv, aBuild, placeF, List.all_cons, List.all_nil, Nat.le_refl, Int.reduceEq, Int.reduceLE, Int.reduceToNat, Nat.mul_one, Nat.zero_mul, List.not_mem_nil, beq_self_eq_true, Nat.lt_irrefl, Bool.false_eq_true, T_3, T_22, T_25, T_62, T_5, T_53, Zqj, List.all_cons, List.all_nil, List.getD_cons_zero, List.getD_cons_succ, beq_self_eq_true, ZIc, Zve, ZtE, ZDd, ZNm, ZQh, Z0bG, ZYi, Z04u, Z00M, ZZi, ZYL, Z09M, Z053, Z04F, Z02Z, ZZm, Z016, ZZ1, ZWp, Z01F, Z04G, ZVG, ZXm, ZCK, ZLY, ZOf, ZNr, ZBd, ZKk, ZED, ZMu, ZIq, ZPw, Z08c, Z02G, ZOy, ZTO, ZY1, Z01c, ZXl, Z00m, Z04Y, Z00J, Z00B, Z03M, Z00C, Z04m, ZNx, ZEB, Z0b1, Z05n, Z018, Z036, ZX9, Z03H, ZWd, ZWP, Z03q, Z08C, Z0c2, Z09d, Z09N, Z0ci, Z00Y, ZWF, Z04h, Z0bd, ZFA, Z06q, hat, hlen, r1, r2, r3, r4, r5, z5, w1, w2, w3, wa, wb, wc, wd, we, if_pos, Z08V (show 1 ≤ 1000000 by omega), cl0]
   exact ⟨_, rfl, Z07 (ZY _ Z0F) rfl rfl⟩
 | succ i =>
   have hoH : oH 60 (cls lc (mdL D (i + 1))) = [(60, ⟨.row, cls lc (mdL D (i + 1))⟩)] := Zzk 60 (by rw [htl]; omega)
   have hoH2 : ∀ y, oH 60 (cls lc (mdL D (i + 1)) ++ y) = [(60, ⟨.row, cls lc (mdL D (i + 1)) ++ y⟩)] := fun y => Zzk 60 (by rw [List.length_append, htl]; omega)
   simp only [hoH, hoH2, oV]
   generalize cls lc (mdL D (i + 1)) = cc at *
   simp (disch := omega) only [Z8, Zg, Bool.not_true, Bool.not_false, Zc, Za, Z2, Z1, Z3, Z0, Zl, Zd, Zi, Zo, Zm, stp, opBox, justO, just, Rd.bind, Rd.run, Rd.opt, upds, acells, zeroCells, tsz, elemT, rdCells, fieldOf, Ze, aLoad, aStore, opStore, fresh, Z5, aNum, Zh, aBin, aInt, putC, evO, Nat.reduceAdd, Nat.reduceMul, Nat.reduceLT, Nat.reduceGT, Nat.reduceBEq, Nat.reduceEqDiff, Nat.reduceLeDiff, ↓reduceIte, reduceCtorEq, Zf, Nat.zero_add, Nat.add_zero, ne_eq, List.nil_append, List.getElem?_toArray, ZE, ZH, ZO, ZP, Zz, ZL, Zt, Zn, ZC, Zv, stpT, Rd.foot, writing, Zq, Tr.empty, Zs, apartT, disj, List.isEmpty_nil, List.isEmpty_cons, List.map_nil, List.map_cons, Bool.not_false, Bool.not_true, Bool.true_or, Bool.or_true, Bool.or_false, Bool.and_true, Bool.true_and, Bool.and_self, decide_true, not_true_eq_false, or_self, ZB, Z02, fo6, fo5, partsOf, fillA, repC, Z00, aAppend, srcOf, window, Z7, Zk, and_true, true_and, Int.natCast_nonneg, Int.toNat_natCast, snaps, List.append_nil, Option.map_some, List.elem_cons, List.elem_nil, List.length_cons, List.length_nil, List.getElem?_cons_zero, List.getElem?_cons_succ, List.drop_zero, List.take_succ_cons, List.take_nil, List.set_cons_zero, List.set_cons_succ, Zp, seqN, bindN, regN, Zr, ZM, aConv, aBuild, placeF, List.all_cons, List.all_nil, Nat.le_refl, Int.reduceEq, Int.reduceLE, Int.reduceToNat, Nat.mul_one, Nat.zero_mul, List.not_mem_nil, beq_self_eq_true, Nat.lt_irrefl, Bool.false_eq_true, T_3, T_22, T_25, T_62, T_5, T_53, Zqj, List.all_cons, List.all_nil, List.getD_cons_zero, List.getD_cons_succ, beq_self_eq_true, ZIc, Zve, ZtE, ZDd, ZNm, ZQh, Z0bG, ZYi, Z04u, Z00M, ZZi, ZYL, Z09M, Z053, Z04F, Z02Z, ZZm, Z016, ZZ1, ZWp, Z01F, Z04G, ZVG, ZXm, ZCK, ZLY, ZOf, ZNr, ZBd, ZKk, ZED, ZMu, ZIq, ZPw, Z08c, Z02G, ZOy, ZTO, ZY1, Z01c, ZXl, Z00m, Z04Y, Z00J, Z00B, Z03M, Z00C, Z04m, ZNx, ZEB, Z0b1, Z05n, Z018, Z036, ZX9, Z03H, ZWd, ZWP, Z03q, Z08C, Z0c2, Z09d, Z09N, Z0ci, Z00Y, ZWF, Z04h, Z0bd, ZFA, Z06q, g1, hat, hlen, htl, htk, nm, ho, r1, r2, r3, r4, r5, z5, w1, w2, w3, wa, wb, wc, wd, we, if_pos, Z08V (show i + 1 + 1 ≤ 1000000 by omega), ZD (show i + 1 < 1000000 by omega)]
   exact ⟨_, rfl, Z07 (ZY _ Z0F) rfl rfl⟩
end Go.AM.YtgfnbmfjbjopkaaDoor
end
end
