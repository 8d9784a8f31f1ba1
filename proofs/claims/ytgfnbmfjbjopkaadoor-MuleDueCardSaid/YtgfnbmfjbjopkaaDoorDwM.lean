/- A part of the proof of muleDue_card: DuN. Own work of this project; texts printed by own programs among it. -/
import Derived.KernelRfl
import Derived.Test.YtgfnbmfjbjopkaaDoorDwL
set_option maxRecDepth 1000000
set_option maxHeartbeats 16000000
noncomputable section
noncomputable section
namespace Go.AM.YtgfnbmfjbjopkaaDoor
open Go Go.AM Go.AM.Mule
theorem Z0qp (d : Nat) : (List.range 64).all (fun s => match callA E fg 1000 (d + 2) 109 [.int .u64 s] [] 0 with
   | some (.int .i64 (.ofNat n), _) => Nat.beq n (lst s).length
   | _ => false) = true := by kernel_rfl
theorem Z0pz {d s : Nat} (h : s < 64) : ∃ H, callA E fg 1000 (d + 2) 109 [.int .u64 s] [] 0 = some (.int .i64 ((lst s).length : Nat), H) := by
 have := List.all_eq_true.1 (Z0qp d) s (List.mem_range.2 h)
 revert this
 generalize callA E fg 1000 (d + 2) 109 [.int .u64 s] [] 0 = r
 intro this
 split at this
 · rw [← Nat.eq_of_beq_eq_true this]; exact ⟨_, rfl⟩
 · simp at this
theorem Z0iQ {d s : Nat} {site : Nat → Nat} {seen : List Nat} (h : s < 64) : aBack site true seen (thaw (callA E fg 1000 (d + 2)) 109 [.int .u64 (s : Int)] [] 0) = .pure (.int .i64 ((lst s).length : Nat), []) := Z0J (Z0pz h)
theorem Z0Dn {C : Callee} {ls : List Ld} {B : List Nat} {n : Nat} {e1 e2 : Bool} {i s : Nat} (h : TrOk ls B n) (hi : i < n) (hs : s < 64) :
   rsOf (bodyA E C fg 1000 108 [.int .i64 (i : Int), .iptr (trA ls B n e1 e2) 0, .iptr [.int .u64 (s : Int)] 0] [] 0) = some (.bool (B.getD i 0 &&& s != 0)) := by
 have hat := Z5t (Z2p h.b hi)
 have hl := Z05 B
 rw [h.b] at hl
 have hb := b_lt h (i := i)
 have ha := ZLR (a := B.getD i 0) (b := s) (by omega) (by omega)
 have hn := ZUK (B.getD i 0 &&& s)
 generalize B.getD i 0 = b at *
 simp (disch := omega) only [Bool.not_true, Bool.not_false, Zp, Zc, Za, Z4, Z2, Z3, Z0, Zm, Zj, just, Rd.bind, Rd.run, Rd.opt, upds, tsz, rdCells, fieldOf, Zb, aLoad, resA, resL, Z6, aNum, aBin, aInt, Nat.reduceAdd, Nat.reduceLT, Nat.reduceBEq, Nat.reduceEqDiff, Nat.reduceLeDiff, ↓reduceIte, reduceCtorEq, Nat.zero_add, ZS, ZR, ZX, ZW, ZM, Z02, ZD, ZA, ZP, stpT, Rd.foot, writing, Zr, Tr.empty, Zu, List.isEmpty_nil, List.map_nil, Bool.not_false, Bool.not_true, Bool.or_true, Bool.or_false, Bool.and_self, decide_true, Z5, and_true, true_and, Int.natCast_nonneg, Int.ofNat_lt, Int.toNat_natCast, Option.map_some, List.elem_cons, List.elem_nil, List.getElem?_cons_zero, List.getElem?_cons_succ, seqN, bindN, regN, Nat.le_refl, Nat.mul_one, beq_self_eq_true, Bool.false_eq_true, Z2h, ZO, Z1c, beq_self_eq_true, Z0Ej, Z0nF, Z0nO, Z0BB, Z0nb, Z0jm, Z0kO, Z0lo, Z0mg, Z0oN, Z0p6, Z0pT, Z0oq, Z0ls, Z0oe, Z0qA, Z0Cr, Z0Ex, Z0Dj, Z0G0, hat, hl, ha, hn, if_pos]
theorem Z0CT {d : Nat} {ls : List Ld} {B : List Nat} {n : Nat} {e1 e2 : Bool} {s : Nat} {l : List Nat} (h : TrOk ls B n) (hl : ∀ i ∈ l, i < n) (hs : s < 64) :
   Prd (callA E fg 1000 (d + 1)) (.clo 108 [.iptr (trA ls B n e1 e2) 0, .iptr [.int .u64 (s : Int)] 0]) l (fun i => B.getD i 0 &&& s != 0) := by
 refine ⟨fun _ => rfl, fun site i hi => ?_, rfl⟩
 have := Z5p (site := site) (seen := []) (Z0O (Z0Dn (C := callA E fg 1000 d) (e1 := e1) (e2 := e2) h (hl i hi) hs))
 simp only [opCallV, Z0kz, aCall, List.cons_append, List.nil_append, List.append_nil, snaps, snap, Rd.bind]
 exact this
def restS (n s : Nat) : Nat := (2 ^ n - 1) &&& (63 - s)
def svB (ls : List Ld) (B : List Nat) (n : Nat) (snow : Int) (s : Nat) : Bool := !((lst (restS n s)).any fun i => B.getD i 0 &&& s != 0) && decide (daysS ls s ≤ snow)
def svN (ls : List Ld) (B : List Nat) (n : Nat) (snow : Int) : Nat → Nat
 | 0 => 0
 | k + 1 => if svB ls B n snow k = true then max (svN ls B n snow k) (lst k).length else svN ls B n snow k
structure SvC (C : Callee) (ls : List Ld) (B : List Nat) (n : Nat) : Prop where
 all : ∀ (site : Nat → Nat) seen e1 e2, aBack site true seen (thaw C 95 [.agg (trA ls B n e1 e2)] [] 0) = .pure (.int .u64 ((2 ^ n - 1 : Nat) : Int), [])
 days : ∀ (site : Nat → Nat) seen e1 e2 (s : Nat), s < 2 ^ n → aBack site true seen (thaw C 100 [.agg (trA ls B n e1 e2), .int .u64 (s : Int)] [] 0) = .pure (.int .i64 (daysS ls s), [])
 li : LiC C
 ones : ∀ (site : Nat → Nat) seen (s : Nat), s < 64 → aBack site true seen (thaw C 109 [.int .u64 (s : Int)] [] 0) = .pure (.int .i64 ((lst s).length : Nat), [])
 cf : ∀ (site : Nat → Nat) seen (s : Nat) (l : List Nat) a, s < 64 → (∀ i ∈ l, i < n) → LV l a → l.length ≤ 6 → aBack site true seen (thaw C 56 [a, .clo 108 [.iptr (trA ls B n false false) 0, .iptr [.int .u64 (s : Int)] 0]] [] 0) = .pure (.bool (l.any fun i => B.getD i 0 &&& s != 0), [])
theorem svC {ls : List Ld} {B : List Nat} {n : Nat} (h : TrOk ls B n) (d : Nat) : SvC (callA E fg 1000 (d + 5)) ls B n :=
 ⟨fun _ _ _ _ => Z8n h.le, fun _ _ _ _ _ a => Zhq h a, liC _, fun _ _ _ a => Z0iQ a, fun site seen s l a hs hl ha h6 => Z0w3 (d := d + 3) (site := site) (seen := seen) (Z0CT (d := d + 2) (e1 := false) (e2 := false) h hl hs) (fun n => rfl) ha (by omega)⟩
abbrev svS (ls : List Ld) (B : List Nat) (n : Nat) (snow : Int) (s : Nat) (out : Nat) : St :=
 ([(30, .int .u64 (s : Int)), (29, .int .u64 ((2 ^ n : Nat) : Int)), (8, .int .i64 (out : Int)), (6, .ptr 6 0 2), (1, .int .i64 snow)],
   [(6, ⟨.box, [.ref 13 0 n n (n * 5) 5 false, .ref 68 0 n n n 1 false]⟩), (13, ⟨.row, cls lc ls⟩), (68, ⟨.row, ucs B⟩)])
theorem Z0Fe {C : Callee} {ls : List Ld} {B : List Nat} {n : Nat} {snow : Int} (hC : SvC C ls B n) (h : TrOk ls B n) {s out : Nat} (hs : s < 2 ^ n) :
   ∃ s', (execA E C (fg 36) 0 55 [] 1000 ZcN) (svS ls B n snow s out) = some (.normal, s') ∧ headA [] s' = svS ls B n snow (s + 1) (if svB ls B n snow s = true then max out (lst s).length else out) := by
 have h64 := lt64 h.le hs
 have hN : 2 ^ n ≤ 64 := Nat.pow_le_pow_right (by omega) h.le
 have hlen : (cls lc ls).length = n * 5 := by rw [Zv ZJ, h.l]
 have hul : (ucs B).length = n := by rw [Z05, h.b]
 have t1 : List.take (n * 5) (cls lc ls) = cls lc ls := List.take_of_length_le (by omega)
 have t2 : List.take n (ucs B) = ucs B := List.take_of_length_le (by omega)
 have hall := fun site seen => hC.all site seen false false
 have hdays := fun site seen => hC.days site seen false false s hs
 have hones := fun site seen => hC.ones site seen s h64
 have han := Z9K (s := 2 ^ n - 1) (t := s) (by omega) h64
 rw [show (2 ^ n - 1) &&& (63 - s) = restS n s from rfl] at han
 have hr64 : restS n s < 64 := Nat.lt_of_le_of_lt Nat.and_le_left (by omega)
 have hrn : restS n s < 2 ^ n := Nat.lt_of_le_of_lt Nat.and_le_left (by omega)
 have ws : wrp .u64 ((s : Int) + 1) = ((s + 1 : Nat) : Int) := wrpU (n := s + 1) (by omega)
 have g1 : (s : Int) < ((2 ^ n : Nat) : Int) := by omega
 have hcf := fun site seen a (ha : LV (lst (restS n s)) a) => hC.cf site seen s (lst (restS n s)) a h64 (Z4S h.le hrn) ha (Z2m _)
 have hmx : (if ((lst s).length : Int) > (out : Int) then ((lst s).length : Int) else (out : Int)) = ((max out (lst s).length : Nat) : Int) := by split <;> omega
 have hmx2 : (if out < (lst s).length then ((lst s).length : Int) else (out : Int)) = ((max out (lst s).length : Nat) : Int) := by split <;> omega
 have htk := Zh4 (lst (restS n s))
 have hil := Zn (lst (restS n s))
 unfold svB
 simp only [svS]
 generalize hN1 : 2 ^ n - 1 = N1 at *
 generalize 2 ^ n = N at *
 generalize hany : ((lst (restS n s)).any fun i => B.getD i 0 &&& s != 0) = bb at *
 by_cases hz : restS n s = 0
 · have hr := hC.li.nil
   have hcf0 := fun site seen => hcf site seen .nilsl (.inl ⟨(Ziz _ hr64).2 hz, rfl⟩)
   rw [hz] at han
   have z0 : ((0 : Nat) : Int) = 0 := rfl
   rw [z0] at han
   clear hcf
   cases bb with
   | true =>
     simp only [Bool.not_true, Bool.false_and, Bool.false_eq_true, if_false]
     simp (disch := omega) only [Z9, Zh, ↓gd, ZN, Bool.not_true, Bool.not_false, Zc, Za, Z4, Z2, Z3, Z0, Zk, Zd, Zi, Zo, Zj, stp, opPick, opBox, justO, just, Rd.bind, Rd.run, Rd.opt, upds, acells, zeroCells, tsz, rdCells, aLoad, aStore, opStore, fresh, aBin, aInt, putC, Nat.reduceAdd, Nat.reduceBEq, Nat.reduceEqDiff, Nat.reduceLeDiff, ↓reduceIte, Ze, Nat.zero_add, List.nil_append, ZS, ZR, ZX, ZW, ZM, Z02, ZD, ZA, ZP, ZL, stpT, Rd.foot, writing, Zr, Tr.empty, Zu, apartT, disj, List.isEmpty_nil, List.isEmpty_cons, List.map_nil, Bool.not_false, Bool.not_true, Bool.true_or, Bool.or_true, Bool.or_false, Bool.and_true, Bool.true_and, Bool.and_self, decide_true, aUn, Z5, Zl, and_true, aCall, snaps, List.append_nil, List.elem_cons, List.elem_nil, List.length_cons, List.length_nil, List.getElem?_cons_zero, List.drop_zero, List.take_succ_cons, List.take_nil, List.set_cons_zero, Zs, seqN, bindN, regN, Zw, ZU, ZH, Z0l, ZE, Z2c, List.all_cons, List.all_nil, List.cons_append, Nat.le_refl, Nat.mul_one, List.not_mem_nil, beq_self_eq_true, Bool.false_eq_true, ZO, Z1c, List.all_cons, List.all_nil, List.getD_cons_zero, List.getD_cons_succ, beq_self_eq_true, ZbU, Z71, Z92, ZbN, ZbA, Zba, Zeo, ZaY, Zau, Zay, Zb1, ZdD, Z83, Z4Q, Z4T, Z7A, Z91, Z7Y, Z7V, Z6G, Z89, Z6S, Z6i, Z7v, Zdk, Z7d, Z6y, Z5V, Z65, Z6B, Z6v, Z7Q, Z7J, Z5X, Zd7, Z7N, Z7W, Z8I, Z8R, Zev, Zd0, ZdT, Zen, Zdn, ZdX, Zet, Z6w, Z7C, Z5W, Zei, Zbv, ZbC, g1, hlen, hul, t1, t2, hall, han, hr, hcf0, ws]
     exact ⟨_, rfl, rfl⟩
   | false =>
     simp only [Bool.not_false, Bool.true_and, decide_eq_true_eq]
     by_cases hd : daysS ls s ≤ snow
     · rw [if_pos hd]
       simp (disch := omega) only [Z9, Zh, ↓gd, ZN, Bool.not_true, Bool.not_false, Zc, Za, Z4, Z2, Z3, Z0, Zk, Zd, Zi, Zo, Zj, stp, opPick, opBox, justO, just, Rd.bind, Rd.run, Rd.opt, upds, acells, zeroCells, tsz, rdCells, aLoad, aStore, opStore, fresh, Zf, aMax, aBin, aInt, putC, Nat.reduceAdd, Nat.reduceBEq, Nat.reduceEqDiff, Nat.reduceLeDiff, ↓reduceIte, Ze, Nat.zero_add, List.nil_append, ZS, ZR, ZX, ZW, ZM, Z02, ZD, ZA, ZP, ZL, stpT, Rd.foot, writing, Zr, Tr.empty, Zu, apartT, disj, List.isEmpty_nil, List.isEmpty_cons, List.map_nil, Bool.not_false, Bool.not_true, Bool.true_or, Bool.or_true, Bool.or_false, Bool.and_true, Bool.true_and, Bool.and_self, decide_true, aUn, Z5, Zl, and_true, Int.ofNat_lt, aCall, snaps, List.append_nil, List.elem_cons, List.elem_nil, List.length_cons, List.length_nil, List.getElem?_cons_zero, List.drop_zero, List.take_succ_cons, List.take_nil, List.set_cons_zero, Zs, seqN, bindN, regN, Zw, ZU, ZH, Z0l, ZE, Z2c, List.all_cons, List.all_nil, List.cons_append, Nat.le_refl, Nat.mul_one, List.not_mem_nil, beq_self_eq_true, Bool.false_eq_true, ZO, Z1c, List.all_cons, List.all_nil, List.getD_cons_zero, List.getD_cons_succ, beq_self_eq_true, ZbU, Z71, Z92, ZbN, ZbA, Zba, Zeo, ZaY, Zau, Zay, Zb1, ZdD, Z83, Z4Q, Z4T, Z7A, Z91, Z7Y, Z7V, Z6G, Z89, Z6S, Z6i, Z7v, Zdk, Z7d, Z6y, Z5V, Z65, Z6B, Z6v, Z7Q, Z7J, Z5X, Zd7, Z7N, Z7W, Z8I, Z8R, ZQA, ZTE, Zev, Zd0, ZdT, Zen, Zdn, ZdX, Zet, Z6w, Z7C, Z5W, Zei, Zbv, ZbC, g1, hlen, hul, t1, t2, hall, han, hr, hcf0, hdays, hd, hones, hmx2, ws]
       exact ⟨_, rfl, rfl⟩
     · rw [if_neg hd]
       simp (disch := omega) only [Z9, Zh, ↓gd, ZN, Bool.not_true, Bool.not_false, Zc, Za, Z4, Z2, Z3, Z0, Zk, Zd, Zi, Zo, Zj, stp, opPick, opBox, justO, just, Rd.bind, Rd.run, Rd.opt, upds, acells, zeroCells, tsz, rdCells, aLoad, aStore, opStore, fresh, aBin, aInt, putC, Nat.reduceAdd, Nat.reduceBEq, Nat.reduceEqDiff, Nat.reduceLeDiff, ↓reduceIte, Ze, Nat.zero_add, List.nil_append, ZS, ZR, ZX, ZW, ZM, Z02, ZD, ZA, ZP, ZL, stpT, Rd.foot, writing, Zr, Tr.empty, Zu, apartT, disj, List.isEmpty_nil, List.isEmpty_cons, List.map_nil, Bool.not_false, Bool.not_true, Bool.true_or, Bool.or_true, Bool.or_false, Bool.and_true, Bool.true_and, Bool.and_self, decide_true, decide_false, aUn, Z5, Zl, and_true, aCall, snaps, List.append_nil, List.elem_cons, List.elem_nil, List.length_cons, List.length_nil, List.getElem?_cons_zero, List.drop_zero, List.take_succ_cons, List.take_nil, List.set_cons_zero, Zs, seqN, bindN, regN, Zw, ZU, ZH, Z0l, ZE, Z2c, List.all_cons, List.all_nil, List.cons_append, Nat.le_refl, Nat.mul_one, List.not_mem_nil, beq_self_eq_true, Bool.false_eq_true, ZO, Z1c, List.all_cons, List.all_nil, List.getD_cons_zero, List.getD_cons_succ, beq_self_eq_true, ZbU, Z71, Z92, ZbN, ZbA, Zba, Zeo, ZaY, Zau, Zay, Zb1, ZdD, Z83, Z4Q, Z4T, Z7A, Z91, Z7Y, Z7V, Z6G, Z89, Z6S, Z6i, Z7v, Zdk, Z7d, Z6y, Z5V, Z65, Z6B, Z6v, Z7Q, Z7J, Z5X, Zd7, Z7N, Z7W, Z8I, Z8R, Zev, Zd0, ZdT, Zen, Zdn, ZdX, Zet, Z6w, Z7C, Z5W, Zei, Zbv, ZbC, g1, hlen, hul, t1, t2, hall, han, hr, hcf0, hdays, hd, ws]
       exact ⟨_, rfl, rfl⟩
 · have hr := fun site seen => hC.li.ref site seen _ hr64 hz
   have hcf0 := fun site seen ex => hcf site seen (.imm (ins (lst (restS n s))) (lst (restS n s)).length ex) (.inr ⟨ex, rfl⟩)
   clear hcf
   clear hany
   generalize lst (restS n s) = l at *
   cases bb with
   | true =>
     simp only [Bool.not_true, Bool.false_and, Bool.false_eq_true, if_false]
     simp (disch := omega) only [Z9, Zh, ↓gd, ZN, Bool.not_true, Bool.not_false, Zc, Za, Z4, Z2, Z3, Z0, Zk, Zd, Zi, Zo, Zj, stp, opPick, opBox, justO, just, Rd.bind, Rd.run, Rd.opt, upds, acells, zeroCells, tsz, rdCells, aLoad, aStore, opStore, fresh, aBin, aInt, putC, Nat.reduceAdd, Nat.reduceBEq, Nat.reduceEqDiff, Nat.reduceLeDiff, ↓reduceIte, Ze, Nat.zero_add, List.nil_append, ZS, ZR, ZX, ZW, ZM, Z02, ZD, ZA, ZP, ZL, stpT, Rd.foot, writing, Zr, Tr.empty, Zu, apartT, disj, List.isEmpty_nil, List.isEmpty_cons, List.map_nil, List.map_cons, Bool.not_false, Bool.not_true, Bool.true_or, Bool.or_true, Bool.or_false, Bool.and_true, Bool.true_and, Bool.and_self, decide_true, aUn, Z5, Zl, and_true, aCall, snaps, List.append_nil, List.elem_cons, List.elem_nil, List.length_cons, List.length_nil, List.getElem?_cons_zero, List.drop_zero, List.take_succ_cons, List.take_nil, List.set_cons_zero, Zs, seqN, bindN, regN, Zw, ZH, Z0l, ZE, Z2c, List.all_cons, List.all_nil, Z0Z, ZaG, List.cons_append, Nat.le_refl, Nat.mul_one, Nat.zero_mul, List.not_mem_nil, beq_self_eq_true, Bool.false_eq_true, ZO, Z1c, List.all_cons, List.all_nil, List.getD_cons_zero, List.getD_cons_succ, beq_self_eq_true, ZbU, Z71, Z92, ZbN, ZbA, Zba, Zeo, ZaY, Zau, Zay, Zb1, ZdD, Z83, Z4Q, Z4T, Z7A, Z91, Z7Y, Z7V, Z6G, Z89, Z6S, Z6i, Z7v, Zdk, Z7d, Z6y, Z5V, Z65, Z6B, Z6v, Z7Q, Z7J, Z5X, Zd7, Z7N, Z7W, Z8I, Z8R, Zev, Zd0, ZdT, Zen, Zdn, ZdX, Zet, Z6w, Z7C, Z5W, Zei, Zbv, ZbC, g1, hlen, hul, t1, t2, hall, han, hr, hil, htk, hcf0, ws]
     exact ⟨_, rfl, rfl⟩
   | false =>
     simp only [Bool.not_false, Bool.true_and, decide_eq_true_eq]
     by_cases hd : daysS ls s ≤ snow
     · rw [if_pos hd]
       simp (disch := omega) only [Z9, Zh, ↓gd, ZN, Bool.not_true, Bool.not_false, Zc, Za, Z4, Z2, Z3, Z0, Zk, Zd, Zi, Zo, Zj, stp, opPick, opBox, justO, just, Rd.bind, Rd.run, Rd.opt, upds, acells, zeroCells, tsz, rdCells, aLoad, aStore, opStore, fresh, Zf, aMax, aBin, aInt, putC, Nat.reduceAdd, Nat.reduceBEq, Nat.reduceEqDiff, Nat.reduceLeDiff, ↓reduceIte, Ze, Nat.zero_add, List.nil_append, ZS, ZR, ZX, ZW, ZM, Z02, ZD, ZA, ZP, ZL, stpT, Rd.foot, writing, Zr, Tr.empty, Zu, apartT, disj, List.isEmpty_nil, List.isEmpty_cons, List.map_nil, List.map_cons, Bool.not_false, Bool.not_true, Bool.true_or, Bool.or_true, Bool.or_false, Bool.and_true, Bool.true_and, Bool.and_self, decide_true, aUn, Z5, Zl, and_true, Int.ofNat_lt, aCall, snaps, List.append_nil, List.elem_cons, List.elem_nil, List.length_cons, List.length_nil, List.getElem?_cons_zero, List.drop_zero, List.take_succ_cons, List.take_nil, List.set_cons_zero, Zs, seqN, bindN, regN, Zw, ZH, Z0l, ZE, Z2c, List.all_cons, List.all_nil, Z0Z, ZaG, List.cons_append, Nat.le_refl, Nat.mul_one, Nat.zero_mul, List.not_mem_nil, beq_self_eq_true, Bool.false_eq_true, ZO, Z1c, List.all_cons, List.all_nil, List.getD_cons_zero, List.getD_cons_succ, beq_self_eq_true, ZbU, Z71, Z92, ZbN, ZbA, Zba, Zeo, ZaY, Zau, Zay, Zb1, ZdD, Z83, Z4Q, Z4T, Z7A, Z91, Z7Y, Z7V, Z6G, Z89, Z6S, Z6i, Z7v, Zdk, Z7d, Z6y, Z5V, Z65, Z6B, Z6v, Z7Q, Z7J, Z5X, Zd7, Z7N, Z7W, Z8I, Z8R, ZQA, ZTE, Zev, Zd0, ZdT, Zen, Zdn, ZdX, Zet, Z6w, Z7C, Z5W, Zei, Zbv, ZbC, g1, hlen, hul, t1, t2, hall, han, hr, hil, htk, hcf0, hdays, hd, hones, hmx2, ws]
       exact ⟨_, rfl, rfl⟩
     · rw [if_neg hd]
       simp (disch := omega) only [Z9, Zh, ↓gd, ZN, Bool.not_true, Bool.not_false, Zc, Za, Z4, Z2, Z3, Z0, Zk, Zd, Zi, Zo, Zj, stp, opPick, opBox, justO, just, Rd.bind, Rd.run, Rd.opt, upds, acells, zeroCells, tsz, rdCells, aLoad, aStore, opStore, fresh, aBin, aInt, putC, Nat.reduceAdd, Nat.reduceBEq, Nat.reduceEqDiff, Nat.reduceLeDiff, ↓reduceIte, Ze, Nat.zero_add, List.nil_append, ZS, ZR, ZX, ZW, ZM, Z02, ZD, ZA, ZP, ZL, stpT, Rd.foot, writing, Zr, Tr.empty, Zu, apartT, disj, List.isEmpty_nil, List.isEmpty_cons, List.map_nil, List.map_cons, Bool.not_false, Bool.not_true, Bool.true_or, Bool.or_true, Bool.or_false, Bool.and_true, Bool.true_and, Bool.and_self, decide_true, decide_false, aUn, Z5, Zl, and_true, aCall, snaps, List.append_nil, List.elem_cons, List.elem_nil, List.length_cons, List.length_nil, List.getElem?_cons_zero, List.drop_zero, List.take_succ_cons, List.take_nil, List.set_cons_zero, Zs, seqN, bindN, regN, Zw, ZH, Z0l, ZE, Z2c, List.all_cons, List.all_nil, Z0Z, ZaG, List.cons_append, Nat.le_refl, Nat.mul_one, Nat.zero_mul, List.not_mem_nil, beq_self_eq_true, Bool.false_eq_true, ZO, Z1c, List.all_cons, List.all_nil, List.getD_cons_zero, List.getD_cons_succ, beq_self_eq_true, ZbU, Z71, Z92, ZbN, ZbA, Zba, Zeo, ZaY, Zau, Zay, Zb1, ZdD, Z83, Z4Q, Z4T, Z7A, Z91, Z7Y, Z7V, Z6G, Z89, Z6S, Z6i, Z7v, Zdk, Z7d, Z6y, Z5V, Z65, Z6B, Z6v, Z7Q, Z7J, Z5X, Zd7, Z7N, Z7W, Z8I, Z8R, Zev, Zd0, ZdT, Zen, Zdn, ZdX, Zet, Z6w, Z7C, Z5W, Zei, Zbv, ZbC, g1, hlen, hul, t1, t2, hall, han, hr, hil, htk, hcf0, hdays, hd, ws]
       exact ⟨_, rfl, rfl⟩
def savedE (ls : List Ld) (es : List Pr) (snow : Int) : Int := if chk ls es ≠ 0 then chk ls es else if snow < 0 ∨ 54 < snow then 1 else 0
theorem Z0eL {d : Nat} {ls : List Ld} {es : List Pr} {a b : AV} {snow : Int} (ha : SV lc ls a) (hb : SV bc es b) (h : savedE ls es snow = 0) :
   rsOf (bodyA E (callA E fg 1000 (d + 5)) fg 1000 36 [.agg [a, b], .int .i64 snow] [] 0) = some (.tup [.int .i64 (svN ls (sets ls.length es) ls.length snow (2 ^ ls.length) : Nat), .int .i64 0]) := by
 have sa := Z10 ha
 have sb := Z10 hb
 have hk : chk ls es = 0 := by
   unfold savedE at h
   split at h
   · rename_i h1; exact absurd h h1
   · rename_i h1; simpa using h1
 have hsn : ¬ snow < 0 ∧ ¬ snow > 54 := by
   unfold savedE at h
   rw [if_neg (by simpa using hk)] at h
   split at h
   · simp at h
   · rename_i h1; omega
 obtain ⟨g3, g4⟩ := hsn
 have hr := fun (site : Nat → Nat) seen hs => Z8E (d := d + 2) (site := site) (seen := seen) ha hb hk hs
 obtain ⟨tr, ord, _, _⟩ := Z1x hk
 have hC := svC tr d
 have hlen : (cls lc ls).length = ls.length * 5 := Zv ZJ ls
 have hul : (ucs (sets ls.length es)).length = ls.length := by rw [Z05, tr.b]
 have t1 : List.take (ls.length * 5) (cls lc ls) = cls lc ls := Z3s ZJ ls
 have t2 : List.take ls.length (ucs (sets ls.length es)) = ucs (sets ls.length es) := List.take_of_length_le (by omega)
 have hN : 2 ^ ls.length ≤ 64 := Nat.pow_le_pow_right (by omega) tr.le
 have hN1 := Nat.two_pow_pos ls.length
 generalize callA E fg 1000 (d + 5) = C at *
 generalize sets ls.length es = B at *
 have hall := fun site seen => hC.all site seen false false
 have w1 : wrp .u64 (((2 ^ ls.length - 1 : Nat) : Int) + 1) = ((2 ^ ls.length : Nat) : Int) := by
   have := wrpU (n := 2 ^ ls.length) (by omega)
   rw [← this]; congr 1; omega
 have hloop := Z0K (f := (execA E C (fg 36) 0 55 [] 1000 ZcN)) (hd := headA []) (fun k => svS ls B ls.length snow k (svN ls B ls.length snow k)) (2 ^ ls.length) 1000 0
   ([(30, .int .u64 0), (29, .int .u64 ((2 ^ ls.length : Nat) : Int)), (8, .int .i64 0), (6, .ptr 6 0 2), (1, .int .i64 snow)],
     [(2, ⟨.box, [a, b]⟩), (6, ⟨.box, [.ref 13 0 ls.length ls.length (ls.length * 5) 5 false, .ref 68 0 ls.length ls.length ls.length 1 false]⟩), (13, ⟨.row, cls lc ls⟩), (68, ⟨.row, ucs B⟩)])
   (by rcases ha with ⟨_, rfl⟩ | ⟨e, rfl⟩ <;> rcases hb with ⟨_, rfl⟩ | ⟨e', rfl⟩ <;> rfl) (by omega) (fun k _ hk => by
     have := Z0Fe (snow := snow) (out := svN ls B ls.length snow k) hC tr (show k < 2 ^ ls.length by omega)
     exact this)
   (e := .exit 1) (se := ([(31, .bool false), (30, .int .u64 ((2 ^ ls.length : Nat) : Int)), (29, .int .u64 ((2 ^ ls.length : Nat) : Int)), (8, .int .i64 (svN ls B ls.length snow (2 ^ ls.length) : Nat)), (6, .ptr 6 0 2), (1, .int .i64 snow)],
     [(6, ⟨.box, [.ref 13 0 ls.length ls.length (ls.length * 5) 5 false, .ref 68 0 ls.length ls.length ls.length 1 false]⟩), (13, ⟨.row, cls lc ls⟩), (68, ⟨.row, ucs B⟩)]))
   (by
     rw [Nat.zero_add]
     simp only [svS]
     generalize svN ls B ls.length snow (2 ^ ls.length) = v at *
     generalize 2 ^ ls.length = N at *
     simp (disch := omega) only [ZG, Z9, Zc, Za, Z4, Z2, Z3, Z0, Zo, stp, just, Rd.bind, Rd.run, Rd.opt, upds, aBin, aInt, Nat.reduceEqDiff, Nat.reduceLeDiff, ↓reduceIte, decide_false, Z5, List.elem_nil, seqN, bindN, regN, Int.lt_irrefl, Bool.false_eq_true, ZbU, Z71, Z92, ZbN, ZbA, Zba, Zbv, ZbC]) (by simp)
 generalize svN ls B ls.length snow (2 ^ ls.length) = v at *
 generalize 2 ^ ls.length - 1 = N1 at *
 generalize 2 ^ ls.length = N at *
 simp (disch := omega) only [Z9, Zz, Zh, ↓gd, ZN, Zp, Zc, Za, Z4, Z0e, Z2, Z3, Z0, Zk, Zd, Zq, Zi, Zm, Zo, Zj, stp, opPick, opBox, justO, just, Rd.bind, Rd.run, Rd.opt, upds, acells, zeroCells, tsz, rdCells, aLoad, aStore, opStore, Zx, resA, resL, fresh, aBin, aInt, putC, Nat.reduceAdd, Nat.reduceMul, Nat.reduceBEq, Nat.reduceEqDiff, Nat.reduceLeDiff, ↓reduceIte, reduceCtorEq, Ze, Nat.zero_add, List.nil_append, Bool.and_true, decide_true, decide_false, Z5, Zl, and_true, aCall, snaps, List.append_nil, Option.map_some, List.elem_cons, List.elem_nil, List.length_cons, List.length_nil, List.getElem?_cons_zero, List.getElem?_cons_succ, List.drop_zero, List.take_succ_cons, List.take_nil, List.set_cons_zero, List.set_cons_succ, Zs, seqN, bindN, regN, ZH, ZE, Z1V, List.cons_append, Nat.le_refl, Nat.mul_one, Nat.zero_mul, beq_self_eq_true, bne_self_eq_false, Bool.false_eq_true, T_25, ZO, beq_self_eq_true, Z0Gi, Z0AB, Z0yZ, Z0xG, Z0At, Z0FM, Z0zE, Z0tF, Z0um, Z0su, Z0xb, Z0tc, Z0sP, Z0xE, Z0AV, Z0Fk, Z0uP, Z0xo, Z0wa, Z0wU, Z0Bh, Z0uU, Z0tj, Z0xx, Z0uN, Z0Da, Z0G8, Z0Bq, Z0tQ, Z0xK, Z0y8, Z0zc, Z0vh, Z0tC, Z0x3, Z0yB, Z0BY, Z0wf, Z0xn, Z0uO, Z0CO, Z0DV, Z0Ei, Z0DS, Z0BH, Z0FZ, Z0Ia, Z0GD, Z0EO, Z0Ay, Z0sr, Z0Bs, Z0yU, Z0zI, Z0uD, Z0xr, Z0sN, Z0E7, Z0EA, Z0CG, Z0Be, Z0ou, Z0lc, Z0r2, Z0lx, Z0CH, Z0Cj, Z0Et, Z0D9, Z0GR, Z0Gv, Z0FN, b_36, sa 196, sb 195, hr, hlen, hul, t1, t2, g3, g4, hall, w1, hloop]
end Go.AM.YtgfnbmfjbjopkaaDoor
end
noncomputable section
namespace Go.AM.YtgfnbmfjbjopkaaDoor
open Go Go.AM
variable {C : Callee} {B N : Nat} {E0 : AHeap} (φ : AFr) (H : AHeap) (s : St)
def ZrM := kBody Proofs.Tryd.f40
def Z0cM := kL ZrM
def ZkU := kO Z0cM
def Z03d := opN ZkU 0
def Z052 := opN ZkU 1
theorem Z0eC : XG 40 109 Z0cM ZkU [0] := Z7 (by rfl) (by rfl) _
theorem ZwD : ZkU.toList = [Z03d, Z052] := nf
theorem ZuZ : stepA E C B 109 ZkU Z03d (φ, H) = stp (some 2) φ H (opBox (B + 2) (acells (fget φ 0))) := nf
theorem ZsG : stepA E C B 109 ZkU Z052 (φ, H) = stp (some 4) φ H (opBox (B + 4) (zeroCells E.T 25)) := nf
def ZAu := kR ZrM
def Z0cY := kL ZAu
def ZAJ := kO Z0cY
def Z043 := opN ZAJ 0
theorem Z0eg : XG 40 109 Z0cY ZAJ [] := Z7 (by rfl) (by rfl) _
theorem ZuL : ZAJ.toList = [Z043] := nf
theorem Zw3 : stepA E C B 109 ZAJ Z043 (φ, H) = stp (some 5) φ H (opBox (B + 5) (zeroCells E.T 25)) := nf
def ZCd := kR ZAu
def ZBo := kL ZCd
def Z0d8 := kL ZBo
def Z1i := kO Z0d8
def Z01K := opN Z1i 0
def Z020 := opN Z1i 1
def Z01j := opN Z1i 2
def Z08W := opN Z1i 3
def Z02n := opN Z1i 4
def ZZe := opN Z1i 5
def Z03j := opN Z1i 6
def Z08v := opN Z1i 7
def Z08I := opN Z1i 8
def Z02P := opN Z1i 9
theorem Z0dQ : XG 40 109 Z0d8 Z1i [1, 14, 15, 16, 17, 18, 19, 20] := Z7 (by rfl) (by rfl) _
theorem Zti : Z1i.toList = [Z01K, Z020, Z01j, Z08W, Z02n, ZZe, Z03j, Z08v, Z08I, Z02P] := nf
theorem Zw0 : stepA E C B 109 Z1i Z01K (φ, H) = stp (some 14) φ H (just (Zb E.T 58 (fget φ 2) 1)) := nf
theorem Zwf : stepA E C B 109 Z1i Z020 (φ, H) = stp (some 15) φ H (just (Zb E.T 58 (fget φ 2) 0)) := nf
theorem Zvb : stepA E C B 109 Z1i Z01j (φ, H) = stp (some 16) φ H (just (aLoad E.T 5 (fget φ 15))) := nf
theorem ZtJ : stepA E C B 109 Z1i Z08W (φ, H) = stp (some 17) φ H (justO (aConv E.T 5 3 (fget φ 16))) := nf
theorem Zt0 : stepA E C B 109 Z1i Z02n (φ, H) = some (fput φ 18 (fget φ 1), H) := nf
theorem ZuW : stepA E C B 109 Z1i ZZe (φ, H) = stp (some 19) φ H (just (aBin E.T .rem 3 (fget φ 17) (fget φ 18))) := nf
theorem ZuN : stepA E C B 109 Z1i Z03j (φ, H) = stp (some 20) φ H (just (aBin E.T .add 3 (.int .i64 1) (fget φ 19))) := nf
theorem ZsI : stepA E C B 109 Z1i Z08v (φ, H) = stp (some 21) φ H (just (aSlice E.T 54 (fget φ 14) none (some (fget φ 20)) none)) := nf
theorem ZuS : stepA E C B 109 Z1i Z08I (φ, H) = stp (some 22) φ H (Zf E.T (B + 22) .len #[135] [(fget φ 21)]) := nf
theorem Ztr : stepA E C B 109 Z1i Z02P (φ, H) = some (fput φ 23 (.int .i64 0), H) := nf
def Z0ef := kR ZBo
def Z0e8 := kB Z0ef
def Zka := kB Z0e8
def ZF2 := kL Zka
def ZBT := kO ZF2
def Z05P := opN ZBT 0
theorem ZPs : XG 40 109 ZF2 ZBT [] := Z7 (by rfl) (by rfl) _
theorem Zwd : ZBT.toList = [Z05P] := nf
theorem ZtQ : stepA E C B 109 ZBT Z05P (φ, H) = stp (some 24) φ H (just (aBin E.T .lss 3 (fget φ 23) (fget φ 22))) := nf
def Zrj := kR Zka
def Zpx := kL Zrj
def Z0j2 := kT Zpx
theorem ZJJ : execA E C (fg 40) B 109 E0 N Z0j2 s = some (.normal, s) := ZQ (by rfl) s
def Z0i2 := kE Zpx
theorem ZQp : execA E C (fg 40) B 109 E0 N Z0i2 s = some (.exit 0, s) := Z0i (by rfl) s
theorem ZJC : XC 40 109 Zpx 24 Z0j2 Z0i2 := ZF (by rfl) _
def Zrq := kR Zrj
def ZSV := kL Zrq
def Zqs := kB ZSV
def ZWz := kL Zqs
def Z97 := kO ZWz
def Z0cy := opN Z97 0
def Z03I := opN Z97 1
def Z08O := opN Z97 2
def Z00s := opN Z97 3
theorem Z0l3 : XG 40 109 ZWz Z97 [24, 25, 26] := Z7 (by rfl) (by rfl) _
theorem Z030 : Z97.toList = [Z0cy, Z03I, Z08O, Z00s] := nf
theorem Z01Q : stepA E C B 109 Z97 Z0cy (φ, H) = stp (some 25) φ H (just (Z6 E.T 135 (fget φ 21) (fget φ 23))) := nf
theorem Z07L : stepA E C B 109 Z97 Z03I (φ, H) = stp (some 26) φ H (just (aLoad E.T 53 (fget φ 25))) := nf
theorem Z08o : stepA E C B 109 Z97 Z08O (φ, H) = stp (some 7) φ H (opBox (B + 7) (zeroCells E.T 53)) := nf
theorem Z02S : stepA E C B 109 Z97 Z00s (φ, H) = stp none φ H (opStore E.T 53 (fget φ 7) (fget φ 26)) := nf
def ZqE := kR Zqs
def ZXA := kL ZqE
def Z0b := kO ZXA
def Z0bv := opN Z0b 0
def Z04h := opN Z0b 1
def ZZx := opN Z0b 2
def Z01C := opN Z0b 3
def Z039 := opN Z0b 4
def Z08B := opN Z0b 5
def Z04F := opN Z0b 6
def Z000 := opN Z0b 7
def Z05E := opN Z0b 8
def Z05h := opN Z0b 9
def ZRl := opN Z0b 10
def ZJn := opN Z0b 11
def ZIt := opN Z0b 12
def ZWO := opN Z0b 13
def ZSI := opN Z0b 14
def ZH4 := opN Z0b 15
def ZJj := opN Z0b 16
def ZVA := opN Z0b 17
def ZJ3 := opN Z0b 18
def ZHt := opN Z0b 19
theorem Z0fR : XG 40 109 ZXA Z0b [27, 28, 29, 30, 31, 32, 33, 34, 35, 36, 37, 38, 39, 40, 41, 42, 43, 44] := Z7 (by rfl) (by rfl) _
theorem Z05R : Z0b.toList = [Z0bv, Z04h, ZZx, Z01C, Z039, Z08B, Z04F, Z000, Z05E, Z05h, ZRl, ZJn, ZIt, ZWO, ZSI, ZH4, ZJj, ZVA, ZJ3, ZHt] := nf
theorem Z079 : stepA E C B 109 Z0b Z0bv (φ, H) = stp (some 27) φ H (just (Z6 E.T 53 (fget φ 7) (.int .i64 0))) := nf
theorem ZZO : stepA E C B 109 Z0b Z04h (φ, H) = stp (some 28) φ H (just (aLoad E.T 5 (fget φ 27))) := nf
theorem Z04c : stepA E C B 109 Z0b ZZx (φ, H) = stp (some 29) φ H (justO (aConv E.T 5 3 (fget φ 28))) := nf
theorem Z00I : stepA E C B 109 Z0b Z01C (φ, H) = stp (some 30) φ H (just (aBin E.T .rem 3 (fget φ 29) (.int .i64 9))) := nf
theorem Z09B : stepA E C B 109 Z0b Z039 (φ, H) = stp (some 31) φ H (just (aBin E.T .add 3 (.int .i64 1) (fget φ 30))) := nf
theorem Z09i : stepA E C B 109 Z0b Z08B (φ, H) = stp (some 32) φ H (just (Z6 E.T 53 (fget φ 7) (.int .i64 2))) := nf
theorem Z025 : stepA E C B 109 Z0b Z04F (φ, H) = stp (some 33) φ H (just (aLoad E.T 5 (fget φ 32))) := nf
theorem Z00Y : stepA E C B 109 Z0b Z000 (φ, H) = stp (some 34) φ H (justO (aConv E.T 5 3 (fget φ 33))) := nf
theorem ZZH : stepA E C B 109 Z0b Z05E (φ, H) = stp (some 35) φ H (just (aBin E.T .rem 3 (fget φ 34) (.int .i64 30))) := nf
theorem Z017 : stepA E C B 109 Z0b Z05h (φ, H) = stp (some 36) φ H (just (Z6 E.T 53 (fget φ 7) (.int .i64 3))) := nf
theorem ZQt : stepA E C B 109 Z0b ZRl (φ, H) = stp (some 37) φ H (just (aLoad E.T 5 (fget φ 36))) := nf
theorem ZDN : stepA E C B 109 Z0b ZJn (φ, H) = stp (some 38) φ H (justO (aConv E.T 5 3 (fget φ 37))) := nf
theorem ZFf : stepA E C B 109 Z0b ZIt (φ, H) = stp (some 39) φ H (just (aBin E.T .rem 3 (fget φ 38) (.int .i64 6))) := nf
theorem ZO9 : stepA E C B 109 Z0b ZWO (φ, H) = stp (some 40) φ H (just (Z6 E.T 53 (fget φ 7) (.int .i64 4))) := nf
theorem ZOY : stepA E C B 109 Z0b ZSI (φ, H) = stp (some 41) φ H (just (aLoad E.T 5 (fget φ 40))) := nf
theorem ZSB : stepA E C B 109 Z0b ZH4 (φ, H) = stp (some 42) φ H (justO (aConv E.T 5 3 (fget φ 41))) := nf
theorem ZPf : stepA E C B 109 Z0b ZJj (φ, H) = stp (some 43) φ H (just (aBin E.T .rem 3 (fget φ 42) (.int .i64 8))) := nf
theorem ZMj : stepA E C B 109 Z0b ZVA (φ, H) = stp (some 44) φ H (justO (aBuild E.T 62 (evO E φ) [(0, Operand.tmp 31), (2, Operand.tmp 35), (3, Operand.tmp 39), (4, Operand.tmp 43)])) := nf
theorem ZWy : stepA E C B 109 Z0b ZJ3 (φ, H) = stp (some 8) φ H (opBox (B + 8) (zeroCells E.T 62)) := nf
theorem ZIH : stepA E C B 109 Z0b ZHt (φ, H) = stp none φ H (opStore E.T 62 (fget φ 8) (fget φ 44)) := nf
def Zpu := kR ZqE
def ZRZ := kL Zpu
def Z0C := kO ZRZ
def Z05M := opN Z0C 0
def Z084 := opN Z0C 1
def Z00B := opN Z0C 2
def Z09q := opN Z0C 3
def Z09x := opN Z0C 4
def Z00P := opN Z0C 5
def Z01E := opN Z0C 6
def Z07J := opN Z0C 7
def Z06L := opN Z0C 8
def Z05D := opN Z0C 9
def ZNA := opN Z0C 10
def ZIc := opN Z0C 11
theorem Z0k7 : XD 40 109 ZRZ Z0C [7, 45, 46, 47, 48, 49, 50, 51, 52, 53, 54, 55] := Z0L (by rfl) (by rfl) _
theorem Z02L : Z0C.toList = [Z05M, Z084, Z00B, Z09q, Z09x, Z00P, Z01E, Z07J, Z06L, Z05D, ZNA, ZIc] := nf
theorem Z0no : statOk Z0C = true := by kernel_rfl
theorem ZFn : drawA E C B 109 Z0C s = if neat 109 s = true then drX Z0C (runT E C B 109 Z0C Z0C.toList 0 s) else none := Z0w Z0no s
theorem ZEZ (l : List (Nat × Tr)) : dynOk Z0C l = (!writing l || Zu [[], [0], [], [2], [2, 3], [], [5], [5, 6], [2, 3, 4, 5, 6, 7], [0, 1, 2, 3, 4, 5, 6, 7, 8], [0, 1, 2, 3, 4, 5, 6, 7, 8, 9], [0, 1, 2, 3, 4, 5, 6, 7, 8, 9, 10]] (Zr l)) := Z0g (by kernel_rfl) l
theorem Z0bF : stepT E C B 109 Z0C Z05M (φ, H) = stpT (some 45) φ H (just (Zb E.T 62 (fget φ 8) 0)) := Z8 rfl (Zg rfl rfl)
theorem Z0bG : stepT E C B 109 Z0C Z084 (φ, H) = stpT (some 46) φ H (just (aLoad E.T 3 (fget φ 45))) := Z8 rfl (Zg rfl rfl)
theorem Z02o : stepT E C B 109 Z0C Z00B (φ, H) = stpT (some 47) φ H (just (Z6 E.T 53 (fget φ 7) (.int .i64 1))) := Z8 rfl (Zg rfl rfl)
theorem Z02W : stepT E C B 109 Z0C Z09q (φ, H) = stpT (some 48) φ H (just (aLoad E.T 5 (fget φ 47))) := Z8 rfl (Zg rfl rfl)
theorem Z06W : stepT E C B 109 Z0C Z09x (φ, H) = stpT (some 49) φ H (justO (aConv E.T 5 3 (fget φ 48))) := Z8 rfl (Zg rfl rfl)
theorem Z05X : stepT E C B 109 Z0C Z00P (φ, H) = stpT (some 50) φ H (just (Zb E.T 62 (fget φ 8) 0)) := Z8 rfl (Zg rfl rfl)
theorem Z06N : stepT E C B 109 Z0C Z01E (φ, H) = stpT (some 51) φ H (just (aLoad E.T 3 (fget φ 50))) := Z8 rfl (Zg rfl rfl)
theorem Z03r : stepT E C B 109 Z0C Z07J (φ, H) = stpT (some 52) φ H (just (aBin E.T .sub 3 (.int .i64 10) (fget φ 51))) := Z8 rfl (Zg rfl rfl)
theorem Z0bK : stepT E C B 109 Z0C Z06L (φ, H) = stpT (some 53) φ H (just (aBin E.T .rem 3 (fget φ 49) (fget φ 52))) := Z8 rfl (Zg rfl rfl)
theorem Z02A : stepT E C B 109 Z0C Z05D (φ, H) = stpT (some 54) φ H (just (aBin E.T .add 3 (fget φ 46) (fget φ 53))) := Z8 rfl (Zg rfl rfl)
theorem ZDX : stepT E C B 109 Z0C ZNA (φ, H) = stpT (some 55) φ H (just (Zb E.T 62 (fget φ 8) 1)) := Z8 rfl (Zg rfl rfl)
theorem ZEc : stepT E C B 109 Z0C ZIc (φ, H) = stpT none φ H (opStore E.T 3 (fget φ 55) (fget φ 54)) := Z8 rfl (Zg rfl rfl)
def ZHr := kR Zpu
def Z2f := kO ZHr
def Z02k := opN Z2f 0
def Z07g := opN Z2f 1
def Z09c := opN Z2f 2
def ZYO := opN Z2f 3
def Z06r := opN Z2f 4
def ZYw := opN Z2f 5
def Z09X := opN Z2f 6
theorem Z0ha : XG 40 109 ZHr Z2f [8, 56, 57, 58, 59, 60, 61] := Z7 (by rfl) (by rfl) _
theorem Z04f : Z2f.toList = [Z02k, Z07g, Z09c, ZYO, Z06r, ZYw, Z09X] := nf
theorem Z00Q : stepA E C B 109 Z2f Z02k (φ, H) = stp (some 56) φ H (just (Zb E.T 25 (fget φ 5) 0)) := nf
theorem Z02i : stepA E C B 109 Z2f Z07g (φ, H) = stp (some 57) φ H (just (aLoad E.T 22 (fget φ 56))) := nf
theorem Z08A : stepA E C B 109 Z2f Z09c (φ, H) = stp (some 58) φ H (just (aLoad E.T 62 (fget φ 8))) := nf
theorem Z00j : stepA E C B 109 Z2f ZYO (φ, H) = stp (some 59) φ H (ZZ E.T (B + 59) 22 1 (evO E φ) [(0, Operand.tmp 58)]) := nf
theorem Z01N : stepA E C B 109 Z2f Z06r (φ, H) = stp (some 60) φ H (Zf E.T (B + 60) .append #[22, 22] [(fget φ 57), (fget φ 59)]) := nf
theorem Z02h : stepA E C B 109 Z2f ZYw (φ, H) = stp (some 61) φ H (just (Zb E.T 25 (fget φ 5) 0)) := nf
theorem Z04I : stepA E C B 109 Z2f Z09X (φ, H) = stp none φ H (opStore E.T 22 (fget φ 61) (fget φ 60)) := nf
theorem Z0jK : XQ 40 109 Zpu ZRZ ZHr := Z1 (by rfl) _
theorem Z0h0 : XQ 40 109 ZqE ZXA Zpu := Z1 (by rfl) _
theorem Z0ir : XQ 40 109 Zqs ZWz ZqE := Z1 (by rfl) _
theorem Z0hg : execA E C (fg 40) B 109 E0 N ZSV s = blockX 1 (fun s => (forget s.1 [], s.2)) (execA E C (fg 40) B 109 E0 N Zqs s) := Zy (by rfl) (by rfl) s
def ZRW := kR Zrq
def Zlk := kO ZRW
def Z05a := opN Zlk 0
def Z06m := opN Zlk 1
theorem Z0ke : XG 40 109 ZRW Zlk [62] := Z7 (by rfl) (by rfl) _
theorem Z0aU : Zlk.toList = [Z05a, Z06m] := nf
theorem Z042 : stepA E C B 109 Zlk Z05a (φ, H) = stp (some 62) φ H (just (aBin E.T .add 3 (fget φ 23) (.int .i64 1))) := nf
theorem Z0b5 : stepA E C B 109 Zlk Z06m (φ, H) = some (fput φ 23 (fget φ 62), H) := nf
theorem Z0jt : XQ 40 109 Zrq ZSV ZRW := Z1 (by rfl) _
theorem ZUf : XQ 40 109 Zrj Zpx Zrq := Z1 (by rfl) _
theorem Z0dl : XQ 40 109 Zka ZF2 Zrj := Z1 (by rfl) _
theorem Z0eo : execA E C (fg 40) B 109 E0 N Z0e8 s = iterA (execA E C (fg 40) B 109 E0 N Zka) (headA E0) N s := Z0h (by rfl) s
theorem Z0f1 : execA E C (fg 40) B 109 E0 N Z0ef s = blockX 0 (fun s => (forget s.1 [21, 22, 23, 24], s.2)) (execA E C (fg 40) B 109 E0 N Z0e8 s) := Zy (by rfl) (by rfl) s
theorem Z0eR : XQ 40 109 ZBo Z0d8 Z0ef := Z1 (by rfl) _
def ZpI := kR ZCd
def ZFY := kL ZpI
def Z9d := kO ZFY
def Z04T := opN Z9d 0
def ZYm := opN Z9d 1
def Z01X := opN Z9d 2
def ZZL := opN Z9d 3
theorem ZNP : XG 40 109 ZFY Z9d [63, 64, 65] := Z7 (by rfl) (by rfl) _
theorem ZsK : Z9d.toList = [Z04T, ZYm, Z01X, ZZL] := nf
theorem Zuh : stepA E C B 109 Z9d Z04T (φ, H) = stp (some 63) φ H (just (Zb E.T 25 (fget φ 5) 0)) := nf
theorem Zub : stepA E C B 109 Z9d ZYm (φ, H) = stp (some 64) φ H (just (aLoad E.T 22 (fget φ 63))) := nf
theorem Zve : stepA E C B 109 Z9d Z01X (φ, H) = stp (some 65) φ H (Zf E.T (B + 65) .len #[22] [(fget φ 64)]) := nf
theorem Zu3 : stepA E C B 109 Z9d ZZL (φ, H) = some (fput φ 9 (fget φ 65), H) := nf
def Zsv := kR ZpI
def ZDS := kL Zsv
def Zds := kO ZDS
def ZLi := opN Zds 0
def ZQB := opN Zds 1
theorem ZRp : XG 40 109 ZDS Zds [66] := Z7 (by rfl) (by rfl) _
theorem ZlZ : Zds.toList = [ZLi, ZQB] := nf
theorem ZmQ : stepA E C B 109 Zds ZLi (φ, H) = stp (some 66) φ H (.pure (.clo 111 [(fget φ 2)], [])) := nf
theorem ZmH : stepA E C B 109 Zds ZQB (φ, H) = some (fput φ 10 (fget φ 66), H) := nf
def Zq4 := kR Zsv
def ZFU := kL Zq4
def ZnA := kO ZFU
def ZSd := opN ZnA 0
theorem ZUc : XG 40 109 ZFU ZnA [] := Z7 (by rfl) (by rfl) _
theorem Zm9 : ZnA.toList = [ZSd] := nf
theorem Zmi : stepA E C B 109 ZnA ZSd (φ, H) = some (fput φ 11 (.int .i64 0), H) := nf
def ZnZ := kR Zq4
def ZrH := kL ZnZ
def ZLA := kL ZrH
def Zdl := kO ZLA
def ZMZ := opN Zdl 0
def ZNE := opN Zdl 1
theorem ZRj : XG 40 109 ZLA Zdl [9] := Z7 (by rfl) (by rfl) _
theorem ZmK : Zdl.toList = [ZMZ, ZNE] := nf
theorem ZlR : stepA E C B 109 Zdl ZMZ (φ, H) = some (fput φ 67 (fget φ 9), H) := nf
theorem Zm6 : stepA E C B 109 Zdl ZNE (φ, H) = some (fput φ 68 (.int .i64 0), H) := nf
def ZMN := kR ZrH
def ZJ8 := kB ZMN
def Zbi := kB ZJ8
def ZLM := kL Zbi
def Zoz := kO ZLM
def ZXg := opN Zoz 0
theorem ZbK : XG 40 109 ZLM Zoz [] := Z7 (by rfl) (by rfl) _
theorem Z4J : Zoz.toList = [ZXg] := nf
theorem Z4H : stepA E C B 109 Zoz ZXg (φ, H) = stp (some 69) φ H (just (aBin E.T .lss 3 (fget φ 68) (fget φ 67))) := nf
def ZmX := kR Zbi
def Zrt := kL ZmX
def Z0fC := kT Zrt
theorem Zbo : execA E C (fg 40) B 109 E0 N Z0fC s = some (.normal, s) := ZQ (by rfl) s
def Z0hy := kE Zrt
theorem ZbD : execA E C (fg 40) B 109 E0 N Z0hy s = some (.exit 2, s) := Z0i (by rfl) s
theorem ZbH : XC 40 109 Zrt 69 Z0fC Z0hy := ZF (by rfl) _
def ZsA := kR ZmX
def ZIk := kL ZsA
def Zqe := kB ZIk
def ZTN := kL Zqe
def ZcX := kO ZTN
def ZEr := opN ZcX 0
def ZKO := opN ZcX 1
theorem Zqw : XG 40 109 ZTN ZcX [69, 70] := Z7 (by rfl) (by rfl) _
theorem ZfO : ZcX.toList = [ZEr, ZKO] := nf
theorem Zf5 : stepA E C B 109 ZcX ZEr (φ, H) = some (fput φ 70 (fget φ 68), H) := nf
theorem Zfw : stepA E C B 109 ZcX ZKO (φ, H) = some (fput φ 12 (fget φ 70), H) := nf
def Zpw := kR Zqe
def ZS0 := kL Zpw
def Ze0 := kO ZS0
def ZWH := opN Ze0 0
def ZWv := opN Ze0 1
theorem Zro : XG 40 109 ZS0 Ze0 [] := Z7 (by rfl) (by rfl) _
theorem Zfm : Ze0.toList = [ZWH, ZWv] := nf
theorem Zfx : stepA E C B 109 Ze0 ZWH (φ, H) = some (fput φ 71 (fget φ 12), H) := nf
theorem Zg1 : stepA E C B 109 Ze0 ZWv (φ, H) = some (fput φ 72 (.int .i64 0), H) := nf
def ZNR := kR Zpw
def ZXd := kB ZNR
def ZbO := kB ZXd
def ZWW := kL ZbO
def Zpa := kO ZWW
def ZJP := opN Zpa 0
theorem Z3x : XG 40 109 ZWW Zpa [] := Z7 (by rfl) (by rfl) _
theorem Z1L : Zpa.toList = [ZJP] := nf
theorem Z1M : stepA E C B 109 Zpa ZJP (φ, H) = stp (some 73) φ H (just (aBin E.T .lss 3 (fget φ 72) (fget φ 71))) := nf
def Zqr := kR ZbO
def Zrd := kL Zqr
def Z0ii := kT Zrd
theorem Z3B : execA E C (fg 40) B 109 E0 N Z0ii s = some (.normal, s) := ZQ (by rfl) s
def Z0jX := kE Zrd
theorem Z3P : execA E C (fg 40) B 109 E0 N Z0jX s = some (.exit 4, s) := Z0i (by rfl) s
theorem Z3F : XC 40 109 Zrd 73 Z0ii Z0jX := ZF (by rfl) _
def Zsq := kR Zqr
def ZNQ := kL Zsq
def ZoS := kB ZNQ
def ZLP := kL ZoS
def Zdp := kO ZLP
def ZQJ := opN Zdp 0
def ZD9 := opN Zdp 1
theorem Z9G : XG 40 109 ZLP Zdp [73, 74] := Z7 (by rfl) (by rfl) _
theorem Z3E : Zdp.toList = [ZQJ, ZD9] := nf
theorem Z3q : stepA E C B 109 Zdp ZQJ (φ, H) = some (fput φ 74 (fget φ 72), H) := nf
theorem Z3Q : stepA E C B 109 Zdp ZD9 (φ, H) = some (fput φ 13 (fget φ 74), H) := nf
def ZnM := kR ZoS
def ZoU := kL ZnM
def ZVk := kL ZoU
def Z22 := kO ZVk
def ZIY := opN Z22 0
def ZGU := opN Z22 1
def ZPa := opN Z22 2
def ZDJ := opN Z22 3
def ZWI := opN Z22 4
def ZDo := opN Z22 5
theorem Za9 : XG 40 109 ZVk Z22 [75, 76, 77, 78, 79] := Z7 (by rfl) (by rfl) _
theorem Z3W : Z22.toList = [ZIY, ZGU, ZPa, ZDJ, ZWI, ZDo] := nf
theorem Z3H : stepA E C B 109 Z22 ZIY (φ, H) = stp (some 75) φ H (just (Zb E.T 58 (fget φ 2) 2)) := nf
theorem Z3G : stepA E C B 109 Z22 ZGU (φ, H) = stp (some 76) φ H (just (aLoad E.T 55 (fget φ 75))) := nf
theorem Z3k : stepA E C B 109 Z22 ZPa (φ, H) = some (fput φ 77 (fget φ 11), H) := nf
theorem Z3M : stepA E C B 109 Z22 ZDJ (φ, H) = stp (some 78) φ H (just (aBin E.T .shr 55 (fget φ 76) (fget φ 77))) := nf
theorem Z3w : stepA E C B 109 Z22 ZWI (φ, H) = stp (some 79) φ H (just (aBin E.T .and 55 (fget φ 78) (.int .u16 1))) := nf
theorem Z3R : stepA E C B 109 Z22 ZDo (φ, H) = stp (some 80) φ H (just (aBin E.T .eql 55 (fget φ 79) (.int .u16 1))) := nf
def Zqj := kR ZoU
def Zrs := kT Zqj
def ZQ0 := kL Zrs
def Z1B := kO ZQ0
def ZWs := opN Z1B 0
def ZLI := opN Z1B 1
def ZG4 := opN Z1B 2
def ZFi := opN Z1B 3
def ZHc := opN Z1B 4
def ZV5 := opN Z1B 5
def ZEU := opN Z1B 6
theorem Z9v : XG 40 109 ZQ0 Z1B [80, 81, 82, 83, 84, 85, 86] := Z7 (by rfl) (by rfl) _
theorem Z3T : Z1B.toList = [ZWs, ZLI, ZG4, ZFi, ZHc, ZV5, ZEU] := nf
theorem Z3K : stepA E C B 109 Z1B ZWs (φ, H) = some (fput φ 81 (fget φ 10), H) := nf
theorem Z3o : stepA E C B 109 Z1B ZLI (φ, H) = some (fput φ 82 (fget φ 13), H) := nf
theorem Z3y : stepA E C B 109 Z1B ZG4 (φ, H) = callV E C (B + 109 * 8) (some 83) (fun j => B + j * 109 + 83) φ H (fget φ 81) [(fget φ 82)] true := nf
theorem Z94 : stepA E C B 109 Z1B ZFi (φ, H) = some (fput φ 84 (fget φ 10), H) := nf
theorem Z72 : stepA E C B 109 Z1B ZHc (φ, H) = some (fput φ 85 (fget φ 12), H) := nf
theorem Z90 : stepA E C B 109 Z1B ZV5 (φ, H) = callV E C (B + 109 * 8) (some 86) (fun j => B + j * 109 + 86) φ H (fget φ 84) [(fget φ 85)] true := nf
theorem Z69 : stepA E C B 109 Z1B ZEU (φ, H) = stp (some 87) φ H (just (aBin E.T .lss 3 (fget φ 83) (fget φ 86))) := nf
def ZrL := kR Zrs
def ZIO := kT ZrL
def Z18 := kO ZIO
def ZOW := opN Z18 0
def ZJd := opN Z18 1
def ZEP := opN Z18 2
def ZOj := opN Z18 3
def ZKi := opN Z18 4
def ZN4 := opN Z18 5
def ZHH := opN Z18 6
def ZQV := opN Z18 7
def ZM1 := opN Z18 8
theorem ZcV : XG 40 109 ZIO Z18 [13, 87, 88, 89, 90, 91, 92, 93, 94, 95] := Z7 (by rfl) (by rfl) _
theorem Z7H : Z18.toList = [ZOW, ZJd, ZEP, ZOj, ZKi, ZN4, ZHH, ZQV, ZM1] := nf
theorem Z8a : stepA E C B 109 Z18 ZOW (φ, H) = stp (some 88) φ H (just (Zb E.T 25 (fget φ 5) 1)) := nf
theorem Z6a : stepA E C B 109 Z18 ZJd (φ, H) = stp (some 89) φ H (just (aLoad E.T 23 (fget φ 88))) := nf
theorem Z5K : stepA E C B 109 Z18 ZEP (φ, H) = some (fput φ 90 (fget φ 13), H) := nf
theorem Z7j : stepA E C B 109 Z18 ZOj (φ, H) = some (fput φ 91 (fget φ 12), H) := nf
theorem Z6f : stepA E C B 109 Z18 ZKi (φ, H) = stp (some 92) φ H (justO (aBuild E.T 64 (evO E φ) [(0, Operand.tmp 90), (1, Operand.tmp 91)])) := nf
theorem Z7X : stepA E C B 109 Z18 ZN4 (φ, H) = stp (some 93) φ H (ZZ E.T (B + 93) 23 1 (evO E φ) [(0, Operand.tmp 92)]) := nf
theorem Z6u : stepA E C B 109 Z18 ZHH (φ, H) = stp (some 94) φ H (Zf E.T (B + 94) .append #[23, 23] [(fget φ 89), (fget φ 93)]) := nf
theorem Z5B : stepA E C B 109 Z18 ZQV (φ, H) = stp (some 95) φ H (just (Zb E.T 25 (fget φ 5) 1)) := nf
theorem Z5O : stepA E C B 109 Z18 ZM1 (φ, H) = stp none φ H (opStore E.T 23 (fget φ 95) (fget φ 94)) := nf
def ZLp := kE ZrL
def Z14 := kO ZLp
def ZOn := opN Z14 0
def ZJi := opN Z14 1
def ZDc := opN Z14 2
def ZL7 := opN Z14 3
def ZIP := opN Z14 4
def ZIm := opN Z14 5
def ZXu := opN Z14 6
def ZQ5 := opN Z14 7
def ZP5 := opN Z14 8
theorem ZdP : XG 40 109 ZLp Z14 [13, 87, 96, 97, 98, 99, 100, 101, 102, 103] := Z7 (by rfl) (by rfl) _
theorem Z7w : Z14.toList = [ZOn, ZJi, ZDc, ZL7, ZIP, ZIm, ZXu, ZQ5, ZP5] := nf
theorem Z6I : stepA E C B 109 Z14 ZOn (φ, H) = stp (some 96) φ H (just (Zb E.T 25 (fget φ 5) 1)) := nf
theorem Z8H : stepA E C B 109 Z14 ZJi (φ, H) = stp (some 97) φ H (just (aLoad E.T 23 (fget φ 96))) := nf
theorem Z8t : stepA E C B 109 Z14 ZDc (φ, H) = some (fput φ 98 (fget φ 12), H) := nf
theorem Z6V : stepA E C B 109 Z14 ZL7 (φ, H) = some (fput φ 99 (fget φ 13), H) := nf
theorem Z85 : stepA E C B 109 Z14 ZIP (φ, H) = stp (some 100) φ H (justO (aBuild E.T 64 (evO E φ) [(0, Operand.tmp 98), (1, Operand.tmp 99)])) := nf
theorem Z7h : stepA E C B 109 Z14 ZIm (φ, H) = stp (some 101) φ H (ZZ E.T (B + 101) 23 1 (evO E φ) [(0, Operand.tmp 100)]) := nf
theorem Z6k : stepA E C B 109 Z14 ZXu (φ, H) = stp (some 102) φ H (Zf E.T (B + 102) .append #[23, 23] [(fget φ 97), (fget φ 101)]) := nf
theorem Z7i : stepA E C B 109 Z14 ZQ5 (φ, H) = stp (some 103) φ H (just (Zb E.T 25 (fget φ 5) 1)) := nf
theorem Z7B : stepA E C B 109 Z14 ZP5 (φ, H) = stp none φ H (opStore E.T 23 (fget φ 103) (fget φ 102)) := nf
theorem Zdo : XC 40 109 ZrL 87 ZIO ZLp := ZF (by rfl) _
theorem Za0 : XQ 40 109 Zrs ZQ0 ZrL := Z1 (by rfl) _
def Z0kN := kE Zqj
theorem Z9r : execA E C (fg 40) B 109 E0 N Z0kN s = some (.normal, s) := ZQ (by rfl) s
theorem Z9F : XC 40 109 Zqj 80 Zrs Z0kN := ZF (by rfl) _
theorem Zah : XQ 40 109 ZoU ZVk Zqj := Z1 (by rfl) _
def ZHW := kR ZnM
def Zae := kO ZHW
def ZQj := opN Zae 0
def ZTB := opN Zae 1
def ZI9 := opN Zae 2
theorem Z9R : XG 40 109 ZHW Zae [13, 80, 104, 105] := Z7 (by rfl) (by rfl) _
theorem Z3u : Zae.toList = [ZQj, ZTB, ZI9] := nf
theorem Z3V : stepA E C B 109 Zae ZQj (φ, H) = some (fput φ 104 (fget φ 11), H) := nf
theorem Z3t : stepA E C B 109 Zae ZTB (φ, H) = stp (some 105) φ H (just (aBin E.T .add 3 (fget φ 104) (.int .i64 1))) := nf
theorem Z3n : stepA E C B 109 Zae ZI9 (φ, H) = some (fput φ 11 (fget φ 105), H) := nf
theorem Z9V : XQ 40 109 ZnM ZoU ZHW := Z1 (by rfl) _
theorem Z9L : XQ 40 109 ZoS ZLP ZnM := Z1 (by rfl) _
theorem Za8 : execA E C (fg 40) B 109 E0 N ZNQ s = blockX 5 (fun s => (forget s.1 [], s.2)) (execA E C (fg 40) B 109 E0 N ZoS s) := Zy (by rfl) (by rfl) s
def ZUw := kR Zsq
def Zex := kO ZUw
def ZR2 := opN Zex 0
def ZQC := opN Zex 1
theorem Z9I : XG 40 109 ZUw Zex [106] := Z7 (by rfl) (by rfl) _
theorem Z3r : Zex.toList = [ZR2, ZQC] := nf
theorem Z3Y : stepA E C B 109 Zex ZR2 (φ, H) = stp (some 106) φ H (just (aBin E.T .add 3 (fget φ 72) (.int .i64 1))) := nf
theorem Z3l : stepA E C B 109 Zex ZQC (φ, H) = some (fput φ 72 (fget φ 106), H) := nf
theorem Zag : XQ 40 109 Zsq ZNQ ZUw := Z1 (by rfl) _
theorem Z3N : XQ 40 109 Zqr Zrd Zsq := Z1 (by rfl) _
theorem Z3v : XQ 40 109 ZbO ZWW Zqr := Z1 (by rfl) _
theorem ZoH : execA E C (fg 40) B 109 E0 N ZXd s = iterA (execA E C (fg 40) B 109 E0 N ZbO) (headA E0) N s := Z0h (by rfl) s
theorem Zsd : execA E C (fg 40) B 109 E0 N ZNR s = blockX 4 (fun s => (forget s.1 [12, 71, 72, 73], s.2)) (execA E C (fg 40) B 109 E0 N ZXd s) := Zy (by rfl) (by rfl) s
theorem ZqD : XQ 40 109 Zpw ZS0 ZNR := Z1 (by rfl) _
theorem ZpQ : XQ 40 109 Zqe ZTN Zpw := Z1 (by rfl) _
theorem ZqY : execA E C (fg 40) B 109 E0 N ZIk s = blockX 3 (fun s => (forget s.1 [], s.2)) (execA E C (fg 40) B 109 E0 N Zqe s) := Zy (by rfl) (by rfl) s
def ZV0 := kR ZsA
def ZdN := kO ZV0
def ZDm := opN ZdN 0
def ZEF := opN ZdN 1
theorem ZmV : XG 40 109 ZV0 ZdN [107] := Z7 (by rfl) (by rfl) _
theorem ZfF : ZdN.toList = [ZDm, ZEF] := nf
theorem ZfQ : stepA E C B 109 ZdN ZDm (φ, H) = stp (some 107) φ H (just (aBin E.T .add 3 (fget φ 68) (.int .i64 1))) := nf
theorem ZfC : stepA E C B 109 ZdN ZEF (φ, H) = some (fput φ 68 (fget φ 107), H) := nf
theorem ZoE : XQ 40 109 ZsA ZIk ZV0 := Z1 (by rfl) _
theorem Zbq : XQ 40 109 ZmX Zrt ZsA := Z1 (by rfl) _
theorem ZbV : XQ 40 109 Zbi ZLM ZmX := Z1 (by rfl) _
theorem ZWl : execA E C (fg 40) B 109 E0 N ZJ8 s = iterA (execA E C (fg 40) B 109 E0 N Zbi) (headA E0) N s := Z0h (by rfl) s
theorem ZCR : execA E C (fg 40) B 109 E0 N ZMN s = blockX 2 (fun s => (forget s.1 [2, 10, 11, 67, 68, 69], s.2)) (execA E C (fg 40) B 109 E0 N ZJ8 s) := Zy (by rfl) (by rfl) s
theorem ZUk : XQ 40 109 ZrH ZLA ZMN := Z1 (by rfl) _
def Zrb := kR ZnZ
def ZIT := kL Zrb
def Ze3 := kO ZIT
def ZMd := opN Ze3 0
def ZLY := opN Ze3 1
theorem ZCD : XG 40 109 ZIT Ze3 [5, 108] := Z7 (by rfl) (by rfl) _
theorem ZmN : Ze3.toList = [ZMd, ZLY] := nf
theorem Zma : stepA E C B 109 Ze3 ZMd (φ, H) = stp (some 108) φ H (just (aLoad E.T 25 (fget φ 5))) := nf
theorem ZmL : stepA E C B 109 Ze3 ZLY (φ, H) = stp none φ H (opStore E.T 25 (fget φ 4) (fget φ 108)) := nf
def Z0iB := kR Zrb
theorem ZFh : execA E C (fg 40) B 109 E0 N Z0iB s = some (.ret, s) := Z00 (by rfl) s
theorem ZEI : XQ 40 109 Zrb ZIT Z0iB := Z1 (by rfl) _
theorem ZKt : XQ 40 109 ZnZ ZrH Zrb := Z1 (by rfl) _
theorem ZED : XQ 40 109 Zq4 ZFU ZnZ := Z1 (by rfl) _
theorem ZFe : XQ 40 109 Zsv ZDS Zq4 := Z1 (by rfl) _
theorem ZD7 : XQ 40 109 ZpI ZFY Zsv := Z1 (by rfl) _
theorem Z0dm : XQ 40 109 ZCd ZBo ZpI := Z1 (by rfl) _
theorem Z0e4 : XQ 40 109 ZAu Z0cY ZCd := Z1 (by rfl) _
theorem Z0dK : XQ 40 109 ZrM Z0cM ZAu := Z1 (by rfl) _
theorem Z0Fd : fInfo E 40 = some ⟨109, #[.cell 4 25], ZrM⟩ := nf
theorem b_40 (args : List AV) : bodyA E C fg N 40 args H B = bodyX E [.cell 4 25] (execA E C (fg 40) B 109 H N ZrM (Zm args 0 [], H)) := ZV Z0Fd args H
def Zhh := kBody Proofs.Tryd.f111
def ZP9 := kL Zhh
def Zqc := kO ZP9
def ZJu := opN Zqc 0
theorem Z0BV : XG 111 12 ZP9 Zqc [3] := Z7 (by rfl) (by rfl) _
theorem Z0px : Zqc.toList = [ZJu] := nf
theorem Z0q0 : stepA E C B 12 Zqc ZJu (φ, H) = some (fput φ 3 (.int .i64 0), H) := nf
def Zoo := kR Zhh
def ZNK := kL Zoo
def Z15 := kO ZNK
def ZT5 := opN Z15 0
def ZSU := opN Z15 1
def ZRI := opN Z15 2
def ZV2 := opN Z15 3
def ZE6 := opN Z15 4
def ZDT := opN Z15 5
def ZD3 := opN Z15 6
def ZKE := opN Z15 7
def ZD1 := opN Z15 8
theorem Z0D5 : XG 111 12 ZNK Z15 [0, 1, 4, 5, 6, 7, 8, 9, 10, 11] := Z7 (by rfl) (by rfl) _
theorem Z0qS : Z15.toList = [ZT5, ZSU, ZRI, ZV2, ZE6, ZDT, ZD3, ZKE, ZD1] := nf
theorem Z0nP : stepA E C B 12 Z15 ZT5 (φ, H) = some (fput φ 4 (fget φ 0), H) := nf
theorem Z0oR : stepA E C B 12 Z15 ZSU (φ, H) = stp (some 5) φ H (just (Zb E.T 58 (fget φ 1) 3)) := nf
theorem Z0pM : stepA E C B 12 Z15 ZRI (φ, H) = stp (some 6) φ H (just (Z6 E.T 56 (fget φ 5) (fget φ 4))) := nf
theorem Z0qG : stepA E C B 12 Z15 ZV2 (φ, H) = stp (some 7) φ H (just (aLoad E.T 5 (fget φ 6))) := nf
theorem Z0mU : stepA E C B 12 Z15 ZE6 (φ, H) = stp (some 8) φ H (justO (aConv E.T 5 3 (fget φ 7))) := nf
theorem Z0mF : stepA E C B 12 Z15 ZDT (φ, H) = stp (some 9) φ H (just (aBin E.T .mul 3 (fget φ 8) (.int .i64 8))) := nf
theorem Z0q4 : stepA E C B 12 Z15 ZD3 (φ, H) = some (fput φ 10 (fget φ 0), H) := nf
theorem Z0ov : stepA E C B 12 Z15 ZKE (φ, H) = stp (some 11) φ H (just (aBin E.T .add 3 (fget φ 9) (fget φ 10))) := nf
theorem Z0qa : stepA E C B 12 Z15 ZD1 (φ, H) = some (fput φ 3 (fget φ 11), H) := nf
def Z0jp := kR Zoo
theorem Z0Bo : execA E C (fg 111) B 12 E0 N Z0jp s = some (.ret, s) := Z00 (by rfl) s
theorem Z0CR : XQ 111 12 Zoo ZNK Z0jp := Z1 (by rfl) _
theorem Z0Eo : XQ 111 12 Zhh ZP9 Zoo := Z1 (by rfl) _
theorem Zbm : fInfo E 111 = some ⟨12, #[.tmp 3], Zhh⟩ := nf
theorem Z0H9 (args : List AV) : bodyA E C fg N 111 args H B = bodyX E [.tmp 3] (execA E C (fg 111) B 12 H N Zhh (Zm args 0 [], H)) := ZV Zbm args H
def ZpY := kBody Proofs.Tryd.f44
def Z0eu := kL ZpY
def Zkg := kO Z0eu
def Z08q := opN Zkg 0
def Z03a := opN Zkg 1
theorem Z0rz : XG 44 21 Z0eu Zkg [0, 4] := Z7 (by rfl) (by rfl) _
theorem Z00n : Zkg.toList = [Z08q, Z03a] := nf
theorem Z0cx : stepA E C B 21 Zkg Z08q (φ, H) = stp (some 2) φ H (opBox (B + 2) (acells (fget φ 0))) := nf
theorem Z07c : stepA E C B 21 Zkg Z03a (φ, H) = some (fput φ 4 (.int .i64 0), H) := nf
def ZAE := kR ZpY
def ZAv := kL ZAE
def Z0e2 := kL ZAv
def Z9c := kO Z0e2
def Z02H := opN Z9c 0
def Z00A := opN Z9c 1
def Z0cz := opN Z9c 2
def Z0cg := opN Z9c 3
theorem Z0rF : XG 44 21 Z0e2 Z9c [5, 6, 7] := Z7 (by rfl) (by rfl) _
theorem Z03b : Z9c.toList = [Z02H, Z00A, Z0cz, Z0cg] := nf
theorem ZZc : stepA E C B 21 Z9c Z02H (φ, H) = some (fput φ 5 (fget φ 1), H) := nf
theorem Z07d : stepA E C B 21 Z9c Z00A (φ, H) = stp (some 6) φ H (just (Zb E.T 62 (fget φ 2) 2)) := nf
theorem ZZ1 : stepA E C B 21 Z9c Z0cz (φ, H) = stp (some 7) φ H (just (aLoad E.T 3 (fget φ 6))) := nf
theorem Z0aq : stepA E C B 21 Z9c Z0cg (φ, H) = stp (some 8) φ H (just (aBin E.T .leq 3 (fget φ 5) (fget φ 7))) := nf
def ZCa := kR ZAv
def ZAW := kT ZCa
def Z0eH := kL ZAW
def Zc8 := kO Z0eH
def Z02B := opN Zc8 0
def Z051 := opN Zc8 1
def Z0aB := opN Zc8 2
theorem Z0ru : XG 44 21 Z0eH Zc8 [1, 2, 8, 9, 10] := Z7 (by rfl) (by rfl) _
theorem ZZm : Zc8.toList = [Z02B, Z051, Z0aB] := nf
theorem Z03m : stepA E C B 21 Zc8 Z02B (φ, H) = stp (some 9) φ H (just (Zb E.T 62 (fget φ 2) 4)) := nf
theorem Z07y : stepA E C B 21 Zc8 Z051 (φ, H) = stp (some 10) φ H (just (aLoad E.T 3 (fget φ 9))) := nf
theorem Z091 : stepA E C B 21 Zc8 Z0aB (φ, H) = some (fput φ 4 (fget φ 10), H) := nf
def Z0rW := kR ZAW
theorem Z0rQ : execA E C (fg 44) B 21 E0 N Z0rW s = some (.ret, s) := Z00 (by rfl) s
theorem Z0rU : XQ 44 21 ZAW Z0eH Z0rW := Z1 (by rfl) _
def Z0rK := kE ZCa
theorem Z0rT : execA E C (fg 44) B 21 E0 N Z0rK s = some (.normal, s) := ZQ (by rfl) s
theorem Z0rO : XC 44 21 ZCa 8 ZAW Z0rK := ZF (by rfl) _
theorem Z0rx : XQ 44 21 ZAv Z0e2 ZCa := Z1 (by rfl) _
def Zny := kR ZAE
def ZJR := kL Zny
def Z1d := kO ZJR
def Z06w := opN Z1d 0
def Z0aZ := opN Z1d 1
def Z0bk := opN Z1d 2
def Z0ag := opN Z1d 3
def Z08G := opN Z1d 4
def Z06E := opN Z1d 5
def Z00l := opN Z1d 6
def Z02N := opN Z1d 7
def Z00W := opN Z1d 8
def Z02O := opN Z1d 9
def ZE8 := opN Z1d 10
theorem Z0Cz : XG 44 21 ZJR Z1d [1, 2, 8, 11, 12, 13, 14, 15, 16, 17, 18, 19, 20] := Z7 (by rfl) (by rfl) _
theorem Z0sO : Z1d.toList = [Z06w, Z0aZ, Z0bk, Z0ag, Z08G, Z06E, Z00l, Z02N, Z00W, Z02O, ZE8] := nf
theorem Z0u2 : stepA E C B 21 Z1d Z06w (φ, H) = stp (some 11) φ H (just (Zb E.T 62 (fget φ 2) 4)) := nf
theorem Z0tn : stepA E C B 21 Z1d Z0aZ (φ, H) = stp (some 12) φ H (just (aLoad E.T 3 (fget φ 11))) := nf
theorem Z0ue : stepA E C B 21 Z1d Z0bk (φ, H) = stp (some 13) φ H (just (Zb E.T 62 (fget φ 2) 3)) := nf
theorem Z0AU : stepA E C B 21 Z1d Z0ag (φ, H) = stp (some 14) φ H (just (aLoad E.T 3 (fget φ 13))) := nf
theorem Z0Ak : stepA E C B 21 Z1d Z08G (φ, H) = some (fput φ 15 (fget φ 1), H) := nf
theorem Z0yi : stepA E C B 21 Z1d Z06E (φ, H) = stp (some 16) φ H (just (Zb E.T 62 (fget φ 2) 2)) := nf
theorem Z0zH : stepA E C B 21 Z1d Z00l (φ, H) = stp (some 17) φ H (just (aLoad E.T 3 (fget φ 16))) := nf
theorem Z0tW : stepA E C B 21 Z1d Z02N (φ, H) = stp (some 18) φ H (just (aBin E.T .sub 3 (fget φ 15) (fget φ 17))) := nf
theorem Z0uw : stepA E C B 21 Z1d Z00W (φ, H) = stp (some 19) φ H (just (aBin E.T .mul 3 (fget φ 14) (fget φ 18))) := nf
theorem Z0vT : stepA E C B 21 Z1d Z02O (φ, H) = stp (some 20) φ H (just (aBin E.T .add 3 (fget φ 12) (fget φ 19))) := nf
theorem Z0mN : stepA E C B 21 Z1d ZE8 (φ, H) = some (fput φ 4 (fget φ 20), H) := nf
def Z0hk := kR Zny
theorem Z0C5 : execA E C (fg 44) B 21 E0 N Z0hk s = some (.ret, s) := Z00 (by rfl) s
theorem Z0Dc : XQ 44 21 Zny ZJR Z0hk := Z1 (by rfl) _
theorem Z0s6 : XQ 44 21 ZAE ZAv Zny := Z1 (by rfl) _
theorem Z0rp : XQ 44 21 ZpY Z0eu ZAE := Z1 (by rfl) _
theorem Z0GS : fInfo E 44 = some ⟨21, #[.tmp 4], ZpY⟩ := nf
theorem b_44 (args : List AV) : bodyA E C fg N 44 args H B = bodyX E [.tmp 4] (execA E C (fg 44) B 21 H N ZpY (Zm args 0 [], H)) := ZV Z0GS args H
def Zp2 := kBody Proofs.Tryd.f53
def Z0cR := kL Zp2
def Zjm := kO Z0cR
def ZYG := opN Zjm 0
def Z03E := opN Zjm 1
theorem Z0HS : XG 53 20 Z0cR Zjm [0, 2] := Z7 (by rfl) (by rfl) _
theorem Z0x8 : Zjm.toList = [ZYG, Z03E] := nf
theorem Z0y2 : stepA E C B 20 Zjm ZYG (φ, H) = stp (some 1) φ H (opBox (B + 1) (acells (fget φ 0))) := nf
theorem Z0tb : stepA E C B 20 Zjm Z03E (φ, H) = some (fput φ 2 (.nilsl), H) := nf
def ZBq := kR Zp2
def Z0cI := kL ZBq
def ZBR := kO Z0cI
def Z03n := opN ZBR 0
theorem Z0HR : XG 53 20 Z0cI ZBR [] := Z7 (by rfl) (by rfl) _
theorem Z0uH : ZBR.toList = [Z03n] := nf
theorem Z0xZ : stepA E C B 20 ZBR Z03n (φ, H) = some (fput φ 3 (.nilsl), H) := nf
def ZAy := kR ZBq
def ZAG := kL ZAy
def Z0f3 := kL ZAG
def Z9q := kO Z0f3
def ZZP := opN Z9q 0
def ZXN := opN Z9q 1
def Z0cf := opN Z9q 2
def Z0ac := opN Z9q 3
theorem Z0Fx : XG 53 20 Z0f3 Z9q [1, 6] := Z7 (by rfl) (by rfl) _
theorem Z0yw : Z9q.toList = [ZZP, ZXN, Z0cf, Z0ac] := nf
theorem Z0yQ : stepA E C B 20 Z9q ZZP (φ, H) = stp (some 6) φ H (just (Zb E.T 25 (fget φ 1) 0)) := nf
theorem Z0zt : stepA E C B 20 Z9q ZXN (φ, H) = stp (some 7) φ H (just (aLoad E.T 22 (fget φ 6))) := nf
theorem Z0yz : stepA E C B 20 Z9q Z0cf (φ, H) = stp (some 8) φ H (Zf E.T (B + 8) .len #[22] [(fget φ 7)]) := nf
theorem Z0zy : stepA E C B 20 Z9q Z0ac (φ, H) = some (fput φ 9 (.int .i64 0), H) := nf
def Z0dO := kR ZAG
def Z0cU := kB Z0dO
def ZiL := kB Z0cU
def ZEy := kL ZiL
def ZAR := kO ZEy
def Z0bV := opN ZAR 0
theorem ZID : XG 53 20 ZEy ZAR [] := Z7 (by rfl) (by rfl) _
theorem ZvH : ZAR.toList = [Z0bV] := nf
theorem ZtE : stepA E C B 20 ZAR Z0bV (φ, H) = stp (some 10) φ H (just (aBin E.T .lss 3 (fget φ 9) (fget φ 8))) := nf
def Zsw := kR ZiL
def Znl := kL Zsw
def Z0kw := kT Znl
theorem ZLE : execA E C (fg 53) B 20 E0 N Z0kw s = some (.normal, s) := ZQ (by rfl) s
def Z0ix := kE Znl
theorem ZQa : execA E C (fg 53) B 20 E0 N Z0ix s = some (.exit 0, s) := Z0i (by rfl) s
theorem ZMa : XC 53 20 Znl 10 Z0kw Z0ix := ZF (by rfl) _
def Zq0 := kR Zsw
def ZPV := kL Zq0
def Zno := kB ZPV
def ZPn := kL Zno
def Z9e := kO ZPn
def Z01G := opN Z9e 0
def Z05w := opN Z9e 1
def Z04v := opN Z9e 2
def Z00i := opN Z9e 3
theorem Z0gr : XG 53 20 ZPn Z9e [10, 11, 12] := Z7 (by rfl) (by rfl) _
theorem Z09o : Z9e.toList = [Z01G, Z05w, Z04v, Z00i] := nf
theorem ZZs : stepA E C B 20 Z9e Z01G (φ, H) = stp (some 11) φ H (just (Z6 E.T 22 (fget φ 7) (fget φ 9))) := nf
theorem Z00o : stepA E C B 20 Z9e Z05w (φ, H) = stp (some 12) φ H (just (aLoad E.T 62 (fget φ 11))) := nf
theorem ZYf : stepA E C B 20 Z9e Z04v (φ, H) = stp (some 5) φ H (opBox (B + 5) (zeroCells E.T 62)) := nf
theorem Z014 : stepA E C B 20 Z9e Z00i (φ, H) = stp none φ H (opStore E.T 62 (fget φ 5) (fget φ 12)) := nf
def ZHx := kR Zno
def Z3g := kO ZHx
def Z00C := opN Z3g 0
def Z0c6 := opN Z3g 1
def Z09K := opN Z3g 2
def Z0bu := opN Z3g 3
def Z04G := opN Z3g 4
def Z03l := opN Z3g 5
theorem Z0g3 : XG 53 20 ZHx Z3g [5, 13, 14, 15, 16, 17] := Z7 (by rfl) (by rfl) _
theorem Z06J : Z3g.toList = [Z00C, Z0c6, Z09K, Z0bu, Z04G, Z03l] := nf
theorem Z03B : stepA E C B 20 Z3g Z00C (φ, H) = some (fput φ 13 (fget φ 3), H) := nf
theorem Z09v : stepA E C B 20 Z3g Z0c6 (φ, H) = stp (some 14) φ H (just (Zb E.T 62 (fget φ 5) 1)) := nf
theorem Z080 : stepA E C B 20 Z3g Z09K (φ, H) = stp (some 15) φ H (just (aLoad E.T 3 (fget φ 14))) := nf
theorem ZXP : stepA E C B 20 Z3g Z0bu (φ, H) = stp (some 16) φ H (ZZ E.T (B + 16) 36 1 (evO E φ) [(0, Operand.tmp 15)]) := nf
theorem Z08m : stepA E C B 20 Z3g Z04G (φ, H) = stp (some 17) φ H (Zf E.T (B + 17) .append #[36, 36] [(fget φ 13), (fget φ 16)]) := nf
theorem Z01M : stepA E C B 20 Z3g Z03l (φ, H) = some (fput φ 3 (fget φ 17), H) := nf
theorem Z0kK : XQ 53 20 Zno ZPn ZHx := Z1 (by rfl) _
theorem Z0ig : execA E C (fg 53) B 20 E0 N ZPV s = blockX 1 (fun s => (forget s.1 [], s.2)) (execA E C (fg 53) B 20 E0 N Zno s) := Zy (by rfl) (by rfl) s
def ZJ7 := kR Zq0
def ZiV := kO ZJ7
def Z0aK := opN ZiV 0
def Z0ai := opN ZiV 1
theorem Z0k3 : XG 53 20 ZJ7 ZiV [18] := Z7 (by rfl) (by rfl) _
theorem Z09n : ZiV.toList = [Z0aK, Z0ai] := nf
theorem Z0aW : stepA E C B 20 ZiV Z0aK (φ, H) = stp (some 18) φ H (just (aBin E.T .add 3 (fget φ 9) (.int .i64 1))) := nf
theorem Z0c7 : stepA E C B 20 ZiV Z0ai (φ, H) = some (fput φ 9 (fget φ 18), H) := nf
theorem Z0gg : XQ 53 20 Zq0 ZPV ZJ7 := Z1 (by rfl) _
theorem ZXf : XQ 53 20 Zsw Znl Zq0 := Z1 (by rfl) _
theorem Z0f2 : XQ 53 20 ZiL ZEy Zsw := Z1 (by rfl) _
theorem Z0I3 : execA E C (fg 53) B 20 E0 N Z0cU s = iterA (execA E C (fg 53) B 20 E0 N ZiL) (headA E0) N s := Z0h (by rfl) s
theorem Z0H1 : execA E C (fg 53) B 20 E0 N Z0dO s = blockX 0 (fun s => (forget s.1 [7, 8, 9, 10], s.2)) (execA E C (fg 53) B 20 E0 N Z0cU s) := Zy (by rfl) (by rfl) s
theorem Z0I7 : XQ 53 20 ZAG Z0f3 Z0dO := Z1 (by rfl) _
def ZrQ := kR ZAy
def ZIZ := kL ZrQ
def ZjV := kO ZIZ
def Z06l := opN ZjV 0
def Z03e := opN ZjV 1
theorem Z0DZ : XG 53 20 ZIZ ZjV [3, 19] := Z7 (by rfl) (by rfl) _
theorem Z0tX : ZjV.toList = [Z06l, Z03e] := nf
theorem Z0v9 : stepA E C B 20 ZjV Z06l (φ, H) = some (fput φ 19 (fget φ 3), H) := nf
theorem Z0sx : stepA E C B 20 ZjV Z03e (φ, H) = some (fput φ 2 (fget φ 19), H) := nf
def Z0gX := kR ZrQ
theorem Z0Dy : execA E C (fg 53) B 20 E0 N Z0gX s = some (.ret, s) := Z00 (by rfl) s
theorem Z0CL : XQ 53 20 ZrQ ZIZ Z0gX := Z1 (by rfl) _
theorem Z0Gt : XQ 53 20 ZAy ZAG ZrQ := Z1 (by rfl) _
theorem Z0GL : XQ 53 20 ZBq Z0cI ZAy := Z1 (by rfl) _
theorem Z0H0 : XQ 53 20 Zp2 Z0cR ZBq := Z1 (by rfl) _
theorem Z0FD : fInfo E 53 = some ⟨20, #[.tmp 2], Zp2⟩ := nf
theorem b_53 (args : List AV) : bodyA E C fg N 53 args H B = bodyX E [.tmp 2] (execA E C (fg 53) B 20 H N Zp2 (Zm args 0 [], H)) := ZV Z0FD args H
def Zqh := kBody Proofs.Tryd.f51
def Z0dy := kL Zqh
def ZB1 := kO Z0dy
def Z0bs := opN ZB1 0
theorem Z0HN : XG 51 30 Z0dy ZB1 [4] := Z7 (by rfl) (by rfl) _
theorem Z0B1 : ZB1.toList = [Z0bs] := nf
theorem Z0sv : stepA E C B 30 ZB1 Z0bs (φ, H) = some (fput φ 4 (.nilsl), H) := nf
def ZB6 := kR Zqh
def Z0di := kL ZB6
def Z9g := kO Z0di
def Z04y := opN Z9g 0
def Z006 := opN Z9g 1
def Z096 := opN Z9g 2
def Z01W := opN Z9g 3
theorem Z0I2 : XG 51 30 Z0di Z9g [9, 10, 11] := Z7 (by rfl) (by rfl) _
theorem Z0xg : Z9g.toList = [Z04y, Z006, Z096, Z01W] := nf
theorem Z0ww : stepA E C B 30 Z9g Z04y (φ, H) = some (fput φ 9 (fget φ 0), H) := nf
theorem Z0tx : stepA E C B 30 Z9g Z006 (φ, H) = stp (some 10) φ H (Zf E.T (B + 10) .len #[36] [(fget φ 9)]) := nf
theorem Z0xS : stepA E C B 30 Z9g Z096 (φ, H) = stp (some 11) φ H (aMake E.T (B + 11) 36 (fget φ 10) (fget φ 10)) := nf
theorem Z0w0 : stepA E C B 30 Z9g Z01W (φ, H) = some (fput φ 5 (fget φ 11), H) := nf
def ZBL := kR ZB6
def Z0dC := kL ZBL
def ZAw := kO Z0dC
def Z07j := opN ZAw 0
theorem Z0Gh : XG 51 30 Z0dC ZAw [] := Z7 (by rfl) (by rfl) _
theorem Z0uC : ZAw.toList = [Z07j] := nf
theorem Z0ty : stepA E C B 30 ZAw Z07j (φ, H) = some (fput φ 6 (.int .i64 0), H) := nf
def ZBX := kR ZBL
def ZBF := kL ZBX
def Z0d1 := kL ZBF
def Zcp := kO Z0d1
def ZYI := opN Zcp 0
def ZZ5 := opN Zcp 1
def Z00H := opN Zcp 2
theorem Z0HL : XG 51 30 Z0d1 Zcp [0] := Z7 (by rfl) (by rfl) _
theorem Z0uu : Zcp.toList = [ZYI, ZZ5, Z00H] := nf
theorem Z0xu : stepA E C B 30 Zcp ZYI (φ, H) = some (fput φ 12 (fget φ 0), H) := nf
theorem Z0zU : stepA E C B 30 Zcp ZZ5 (φ, H) = stp (some 13) φ H (Zf E.T (B + 13) .len #[36] [(fget φ 12)]) := nf
theorem Z0zq : stepA E C B 30 Zcp Z00H (φ, H) = some (fput φ 14 (.int .i64 0), H) := nf
def Z0eW := kR ZBF
def ZEA := kB Z0eW
def Zdb := kB ZEA
def ZTq := kL Zdb
def ZAS := kO ZTq
def Z083 := opN ZAS 0
theorem Z0kd : XG 51 30 ZTq ZAS [] := Z7 (by rfl) (by rfl) _
theorem ZY0 : ZAS.toList = [Z083] := nf
theorem Z064 : stepA E C B 30 ZAS Z083 (φ, H) = stp (some 15) φ H (just (aBin E.T .lss 3 (fget φ 14) (fget φ 13))) := nf
def Znz := kR Zdb
def Zq9 := kL Znz
def Z0ie := kT Zq9
theorem Z0gU : execA E C (fg 51) B 30 E0 N Z0ie s = some (.normal, s) := ZQ (by rfl) s
def Z0ja := kE Zq9
theorem Z0ht : execA E C (fg 51) B 30 E0 N Z0ja s = some (.exit 0, s) := Z0i (by rfl) s
theorem Z0jJ : XC 51 30 Zq9 15 Z0ie Z0ja := ZF (by rfl) _
def ZpS := kR Znz
def ZOw := kL ZpS
def Zn9 := kB ZOw
def ZON := kL Zn9
def Zcy := kO ZON
def Z0bt := opN Zcy 0
def Z0ab := opN Zcy 1
def Z08C := opN Zcy 2
theorem Z0Cn : XG 51 30 ZON Zcy [15, 16, 17] := Z7 (by rfl) (by rfl) _
theorem Z0AO : Zcy.toList = [Z0bt, Z0ab, Z08C] := nf
theorem Z0u3 : stepA E C B 30 Zcy Z0bt (φ, H) = stp (some 16) φ H (just (Z6 E.T 36 (fget φ 12) (fget φ 14))) := nf
theorem Z0wb : stepA E C B 30 Zcy Z0ab (φ, H) = stp (some 17) φ H (just (aLoad E.T 3 (fget φ 16))) := nf
theorem Z0vr : stepA E C B 30 Zcy Z08C (φ, H) = some (fput φ 8 (fget φ 17), H) := nf
def Zs3 := kR Zn9
def ZCt := kL Zs3
def Z2j := kO ZCt
def Z09e := opN Z2j 0
def Z07q := opN Z2j 1
def Z0bO := opN Z2j 2
def Z07u := opN Z2j 3
def Z07v := opN Z2j 4
def ZZv := opN Z2j 5
def Z00R := opN Z2j 6
theorem Z0CC : XG 51 30 ZCt Z2j [18, 19, 20, 21, 22, 23] := Z7 (by rfl) (by rfl) _
theorem Z0v1 : Z2j.toList = [Z09e, Z07q, Z0bO, Z07u, Z07v, ZZv, Z00R] := nf
theorem Z0vS : stepA E C B 30 Z2j Z09e (φ, H) = some (fput φ 18 (fget φ 6), H) := nf
theorem Z0vJ : stepA E C B 30 Z2j Z07q (φ, H) = some (fput φ 19 (fget φ 1), H) := nf
theorem Z0zT : stepA E C B 30 Z2j Z0bO (φ, H) = some (fput φ 20 (fget φ 8), H) := nf
theorem Z0x4 : stepA E C B 30 Z2j Z07u (φ, H) = stp (some 21) φ H (just (Z6 E.T 36 (fget φ 19) (fget φ 20))) := nf
theorem Z0v7 : stepA E C B 30 Z2j Z07v (φ, H) = stp (some 22) φ H (just (aLoad E.T 3 (fget φ 21))) := nf
theorem Z0AQ : stepA E C B 30 Z2j ZZv (φ, H) = stp (some 23) φ H (just (aBin E.T .add 3 (fget φ 18) (fget φ 22))) := nf
theorem Z0yr : stepA E C B 30 Z2j Z00R (φ, H) = some (fput φ 6 (fget φ 23), H) := nf
def ZU8 := kR Zs3
def Z4C := kO ZU8
def ZXV := opN Z4C 0
def Z0ap := opN Z4C 1
def Z08H := opN Z4C 2
def Z09a := opN Z4C 3
def Z02x := opN Z4C 4
theorem Z0C0 : XG 51 30 ZU8 Z4C [8, 24, 25, 26, 27] := Z7 (by rfl) (by rfl) _
theorem Z0xe : Z4C.toList = [ZXV, Z0ap, Z08H, Z09a, Z02x] := nf
theorem Z0B2 : stepA E C B 30 Z4C ZXV (φ, H) = some (fput φ 24 (fget φ 5), H) := nf
theorem Z0tK : stepA E C B 30 Z4C Z0ap (φ, H) = some (fput φ 25 (fget φ 8), H) := nf
theorem Z0tV : stepA E C B 30 Z4C Z08H (φ, H) = some (fput φ 26 (fget φ 6), H) := nf
theorem Z0s8 : stepA E C B 30 Z4C Z09a (φ, H) = stp (some 27) φ H (just (Z6 E.T 36 (fget φ 24) (fget φ 25))) := nf
theorem Z0vL : stepA E C B 30 Z4C Z02x (φ, H) = stp none φ H (opStore E.T 3 (fget φ 27) (fget φ 26)) := nf
theorem Z0EY : XQ 51 30 Zs3 ZCt ZU8 := Z1 (by rfl) _
theorem Z0CW : XQ 51 30 Zn9 ZON Zs3 := Z1 (by rfl) _
theorem Z0C4 : execA E C (fg 51) B 30 E0 N ZOw s = blockX 1 (fun s => (forget s.1 [], s.2)) (execA E C (fg 51) B 30 E0 N Zn9 s) := Zy (by rfl) (by rfl) s
def ZQI := kR ZpS
def ZkJ := kO ZQI
def Z09F := opN ZkJ 0
def ZZM := opN ZkJ 1
theorem Z0Db : XG 51 30 ZQI ZkJ [28] := Z7 (by rfl) (by rfl) _
theorem Z0zm : ZkJ.toList = [Z09F, ZZM] := nf
theorem Z0sH : stepA E C B 30 ZkJ Z09F (φ, H) = stp (some 28) φ H (just (aBin E.T .add 3 (fget φ 14) (.int .i64 1))) := nf
theorem Z0uF : stepA E C B 30 ZkJ ZZM (φ, H) = some (fput φ 14 (fget φ 28), H) := nf
theorem Z0Cs : XQ 51 30 ZpS ZOw ZQI := Z1 (by rfl) _
theorem Z0iU : XQ 51 30 Znz Zq9 ZpS := Z1 (by rfl) _
theorem Z0ho : XQ 51 30 Zdb ZTq Znz := Z1 (by rfl) _
theorem Z0DK : execA E C (fg 51) B 30 E0 N ZEA s = iterA (execA E C (fg 51) B 30 E0 N Zdb) (headA E0) N s := Z0h (by rfl) s
theorem Z0Fc : execA E C (fg 51) B 30 E0 N Z0eW s = blockX 0 (fun s => (forget s.1 [1, 6, 12, 13, 14, 15], s.2)) (execA E C (fg 51) B 30 E0 N ZEA s) := Zy (by rfl) (by rfl) s
theorem Z0Fg : XQ 51 30 ZBF Z0d1 Z0eW := Z1 (by rfl) _
def Zs1 := kR ZBX
def ZV9 := kL Zs1
def Zke := kO ZV9
def Z07C := opN Zke 0
def Z05G := opN Zke 1
theorem Z0Bk : XG 51 30 ZV9 Zke [5, 29] := Z7 (by rfl) (by rfl) _
theorem Z0vo : Zke.toList = [Z07C, Z05G] := nf
theorem Z0te : stepA E C B 30 Zke Z07C (φ, H) = some (fput φ 29 (fget φ 5), H) := nf
theorem Z0u0 : stepA E C B 30 Zke Z05G (φ, H) = some (fput φ 4 (fget φ 29), H) := nf
def Z0h4 := kR Zs1
theorem Z0Ce : execA E C (fg 51) B 30 E0 N Z0h4 s = some (.ret, s) := Z00 (by rfl) s
theorem Z0E3 : XQ 51 30 Zs1 ZV9 Z0h4 := Z1 (by rfl) _
theorem Z0FQ : XQ 51 30 ZBX ZBF Zs1 := Z1 (by rfl) _
theorem Z0GY : XQ 51 30 ZBL Z0dC ZBX := Z1 (by rfl) _
theorem Z0FL : XQ 51 30 ZB6 Z0di ZBL := Z1 (by rfl) _
theorem Z0Gy : XQ 51 30 Zqh Z0dy ZB6 := Z1 (by rfl) _
theorem Z0Gg : fInfo E 51 = some ⟨30, #[.tmp 4], Zqh⟩ := nf
theorem b_51 (args : List AV) : bodyA E C fg N 51 args H B = bodyX E [.tmp 4] (execA E C (fg 51) B 30 H N Zqh (Zm args 0 [], H)) := ZV Z0Gg args H
def ZoY := kBody Proofs.Tryd.f52
def Z0dP := kL ZoY
def Zkt := kO Z0dP
def Z02F := opN Zkt 0
def Z08h := opN Zkt 1
theorem Z0GF : XG 52 30 Z0dP Zkt [0, 6] := Z7 (by rfl) (by rfl) _
theorem Z0zu : Zkt.toList = [Z02F, Z08h] := nf
theorem Z0Aa : stepA E C B 30 Zkt Z02F (φ, H) = stp (some 3) φ H (opBox (B + 3) (acells (fget φ 0))) := nf
theorem Z0Aq : stepA E C B 30 Zkt Z08h (φ, H) = some (fput φ 6 (.int .i64 0), H) := nf
def ZAV := kR ZoY
def Z0d9 := kL ZAV
def ZB0 := kO Z0d9
def ZZI := opN ZB0 0
theorem Z0Hz : XG 52 30 Z0d9 ZB0 [] := Z7 (by rfl) (by rfl) _
theorem Z0y7 : ZB0.toList = [ZZI] := nf
theorem Z0vK : stepA E C B 30 ZB0 ZZI (φ, H) = some (fput φ 7 (.int .i64 0), H) := nf
def ZBC := kR ZAV
def ZC3 := kL ZBC
def Z0cT := kL ZC3
def Z4x := kO Z0cT
def Z06M := opN Z4x 0
def ZYy := opN Z4x 1
def Z054 := opN Z4x 2
def Z07t := opN Z4x 3
def Z05r := opN Z4x 4
theorem Z0HA : XG 52 30 Z0cT Z4x [1, 2, 10, 11] := Z7 (by rfl) (by rfl) _
theorem Z0xW : Z4x.toList = [Z06M, ZYy, Z054, Z07t, Z05r] := nf
theorem Z0yR : stepA E C B 30 Z4x Z06M (φ, H) = some (fput φ 10 (fget φ 1), H) := nf
theorem Z0Ad : stepA E C B 30 Z4x ZYy (φ, H) = some (fput φ 11 (fget φ 2), H) := nf
theorem Z0un : stepA E C B 30 Z4x Z054 (φ, H) = stp (some 12) φ H (aCall C (fun j => B + j * 30 + 12) true 51 [(fget φ 10), (fget φ 11)]) := nf
theorem Z0ua : stepA E C B 30 Z4x Z07t (φ, H) = stp (some 13) φ H (Zf E.T (B + 13) .len #[36] [(fget φ 12)]) := nf
theorem Z0wm : stepA E C B 30 Z4x Z05r (φ, H) = some (fput φ 14 (.int .i64 0), H) := nf
def Z0db := kR ZC3
def Z0f0 := kB Z0db
def Zif := kB Z0f0
def ZMz := kL Zif
def ZBI := kO ZMz
def Z0b2 := opN ZBI 0
theorem ZVm : XG 52 30 ZMz ZBI [] := Z7 (by rfl) (by rfl) _
theorem Zwq : ZBI.toList = [Z0b2] := nf
theorem ZsT : stepA E C B 30 ZBI Z0b2 (φ, H) = stp (some 15) φ H (just (aBin E.T .lss 3 (fget φ 14) (fget φ 13))) := nf
def ZqO := kR Zif
def Zo8 := kL ZqO
def Z0j8 := kT Zo8
theorem ZGK : execA E C (fg 52) B 30 E0 N Z0j8 s = some (.normal, s) := ZQ (by rfl) s
def Z0iC := kE Zo8
theorem ZGB : execA E C (fg 52) B 30 E0 N Z0iC s = some (.exit 0, s) := Z0i (by rfl) s
theorem ZXq : XC 52 30 Zo8 15 Z0j8 Z0iC := ZF (by rfl) _
def Znb := kR ZqO
def ZJa := kL Znb
def ZqP := kB ZJa
def ZFv := kL ZqP
def Z4G := kO ZFv
def Z0bR := opN Z4G 0
def ZZN := opN Z4G 1
def Z04P := opN Z4G 2
def Z05B := opN Z4G 3
def ZZ3 := opN Z4G 4
theorem Z0gN : XG 52 30 ZFv Z4G [15, 16, 17, 18] := Z7 (by rfl) (by rfl) _
theorem Z05t : Z4G.toList = [Z0bR, ZZN, Z04P, Z05B, ZZ3] := nf
theorem Z05v : stepA E C B 30 Z4G Z0bR (φ, H) = some (fput φ 16 (fget φ 14), H) := nf
theorem ZYc : stepA E C B 30 Z4G ZZN (φ, H) = stp (some 17) φ H (just (Z6 E.T 36 (fget φ 12) (fget φ 14))) := nf
theorem Z02Y : stepA E C B 30 Z4G Z04P (φ, H) = stp (some 18) φ H (just (aLoad E.T 3 (fget φ 17))) := nf
theorem Z06Q : stepA E C B 30 Z4G Z05B (φ, H) = some (fput φ 8 (fget φ 16), H) := nf
theorem Z00p : stepA E C B 30 Z4G ZZ3 (φ, H) = some (fput φ 9 (fget φ 18), H) := nf
def ZCo := kR ZqP
def Z1g := kO ZCo
def Z00w := opN Z1g 0
def Z04j := opN Z1g 1
def Z04p := opN Z1g 2
def Z01V := opN Z1g 3
def Z098 := opN Z1g 4
def Z012 := opN Z1g 5
def Z01v := opN Z1g 6
def Z09h := opN Z1g 7
def Z06n := opN Z1g 8
def ZZb := opN Z1g 9
theorem Z0gd : XG 52 30 ZCo Z1g [8, 9, 19, 20, 21, 22, 23, 24, 25, 26, 27] := Z7 (by rfl) (by rfl) _
theorem Z03s : Z1g.toList = [Z00w, Z04j, Z04p, Z01V, Z098, Z012, Z01v, Z09h, Z06n, ZZb] := nf
theorem Z01w : stepA E C B 30 Z1g Z00w (φ, H) = some (fput φ 19 (fget φ 7), H) := nf
theorem Z02U : stepA E C B 30 Z1g Z04j (φ, H) = stp (some 20) φ H (just (Zb E.T 25 (fget φ 3) 0)) := nf
theorem Z04d : stepA E C B 30 Z1g Z04p (φ, H) = stp (some 21) φ H (just (aLoad E.T 22 (fget φ 20))) := nf
theorem Z0aT : stepA E C B 30 Z1g Z01V (φ, H) = some (fput φ 22 (fget φ 8), H) := nf
theorem Z0cw : stepA E C B 30 Z1g Z098 (φ, H) = stp (some 23) φ H (just (Z6 E.T 22 (fget φ 21) (fget φ 22))) := nf
theorem Z03y : stepA E C B 30 Z1g Z012 (φ, H) = stp (some 24) φ H (just (aLoad E.T 62 (fget φ 23))) := nf
theorem Z00g : stepA E C B 30 Z1g Z01v (φ, H) = some (fput φ 25 (fget φ 9), H) := nf
theorem Z05O : stepA E C B 30 Z1g Z09h (φ, H) = stp (some 26) φ H (aCall C (fun j => B + j * 30 + 26) true 44 [(fget φ 24), (fget φ 25)]) := nf
theorem Z0an : stepA E C B 30 Z1g Z06n (φ, H) = stp (some 27) φ H (Zf E.T (B + 27) .max #[3, 3] [(fget φ 19), (fget φ 26)]) := nf
theorem Z08U : stepA E C B 30 Z1g ZZb (φ, H) = some (fput φ 7 (fget φ 27), H) := nf
theorem Z0iV : XQ 52 30 ZqP ZFv ZCo := Z1 (by rfl) _
theorem Z0hD : execA E C (fg 52) B 30 E0 N ZJa s = blockX 1 (fun s => (forget s.1 [], s.2)) (execA E C (fg 52) B 30 E0 N ZqP s) := Zy (by rfl) (by rfl) s
def ZNG := kR Znb
def Zl6 := kO ZNG
def Z06q := opN Zl6 0
def Z02R := opN Zl6 1
theorem Z0j7 : XG 52 30 ZNG Zl6 [28] := Z7 (by rfl) (by rfl) _
theorem Z09Y : Zl6.toList = [Z06q, Z02R] := nf
theorem Z06c : stepA E C B 30 Zl6 Z06q (φ, H) = stp (some 28) φ H (just (aBin E.T .add 3 (fget φ 14) (.int .i64 1))) := nf
theorem ZXM : stepA E C B 30 Zl6 Z02R (φ, H) = some (fput φ 14 (fget φ 28), H) := nf
theorem Z0jV : XQ 52 30 Znb ZJa ZNG := Z1 (by rfl) _
theorem ZTz : XQ 52 30 ZqO Zo8 Znb := Z1 (by rfl) _
theorem Z0el : XQ 52 30 Zif ZMz ZqO := Z1 (by rfl) _
theorem Z0Hk : execA E C (fg 52) B 30 E0 N Z0f0 s = iterA (execA E C (fg 52) B 30 E0 N Zif) (headA E0) N s := Z0h (by rfl) s
theorem Z0I0 : execA E C (fg 52) B 30 E0 N Z0db s = blockX 0 (fun s => (forget s.1 [3, 12, 13, 14, 15], s.2)) (execA E C (fg 52) B 30 E0 N Z0f0 s) := Zy (by rfl) (by rfl) s
theorem Z0Gf : XQ 52 30 ZC3 Z0cT Z0db := Z1 (by rfl) _
def Zn5 := kR ZBC
def ZKV := kL Zn5
def Zl3 := kO ZKV
def Z0b7 := opN Zl3 0
def Z09N := opN Zl3 1
theorem Z0BG : XG 52 30 ZKV Zl3 [7, 29] := Z7 (by rfl) (by rfl) _
theorem Z0zX : Zl3.toList = [Z0b7, Z09N] := nf
theorem Z0vZ : stepA E C B 30 Zl3 Z0b7 (φ, H) = some (fput φ 29 (fget φ 7), H) := nf
theorem Z0vc : stepA E C B 30 Zl3 Z09N (φ, H) = some (fput φ 6 (fget φ 29), H) := nf
def Z0kg := kR Zn5
theorem Z0De : execA E C (fg 52) B 30 E0 N Z0kg s = some (.ret, s) := Z00 (by rfl) s
theorem Z0DH : XQ 52 30 Zn5 ZKV Z0kg := Z1 (by rfl) _
theorem Z0GA : XQ 52 30 ZBC ZC3 Zn5 := Z1 (by rfl) _
theorem Z0If : XQ 52 30 ZAV Z0d9 ZBC := Z1 (by rfl) _
theorem Z0F6 : XQ 52 30 ZoY Z0dP ZAV := Z1 (by rfl) _
theorem Z0Fo : fInfo E 52 = some ⟨30, #[.tmp 6], ZoY⟩ := nf
theorem b_52 (args : List AV) : bodyA E C fg N 52 args H B = bodyX E [.tmp 6] (execA E C (fg 52) B 30 H N ZoY (Zm args 0 [], H)) := ZV Z0Fo args H
end Go.AM.YtgfnbmfjbjopkaaDoor
end
noncomputable section
namespace Go.AM
noncomputable section
variable {k : Nat} {c : List AV} {T : AHeap}
theorem Z5J (hc : refsL c = []) : ∀ (n : Nat) (todo seen : List Nat), mark ((k, ⟨.box, c⟩) :: T) n todo seen = mark ((k, ⟨.box, []⟩) :: T) n todo seen
 | 0, _, _ => rfl
 | n + 1, [], _ => rfl
 | n + 1, i :: todo, seen => by
   simp only [mark, Zd]
   by_cases hs : seen.contains i = true
   · rw [if_pos hs, if_pos hs]; exact Z5J hc n todo seen
   · rw [if_neg hs, if_neg hs]
     by_cases e : k = i
     · rw [if_pos e, if_pos e]
       simp only [hc]
       exact Z5J hc n _ _
     · rw [if_neg e, if_neg e]
       cases hget T i with
       | none => exact Z5J hc n _ _
       | some b =>
         obtain ⟨st, cs⟩ := b
         cases st <;> exact Z5J hc n _ _
theorem Zmc (S : AHeap) : ∀ l : List Nat, allHeld ((k, ⟨.box, c⟩) :: S) l = allHeld ((k, ⟨.box, []⟩) :: S) l
 | [] => rfl
 | i :: l => by
   simp only [allHeld, Zd, Zmc S l]
   by_cases e : k = i
   · rw [if_pos e, if_pos e]; rfl
   · rw [if_neg e, if_neg e]
theorem ZpM (S : AHeap) : ∀ K : AHeap, closedH ((k, ⟨.box, c⟩) :: S) K = closedH ((k, ⟨.box, []⟩) :: S) K
 | [] => rfl
 | (i, ⟨st, cs⟩) :: K => by
   cases st <;> simp only [closedH, Zmc, ZpM S K]
theorem Z0t (hc : refsL c = []) {φ : AFr} {T' : AHeap} (hT : hget T k = none) (h : headA [] (φ, (k, ⟨.box, []⟩) :: T) = (φ, (k, ⟨.box, []⟩) :: T')) : headA [] (φ, (k, ⟨.box, c⟩) :: T) = (φ, (k, ⟨.box, c⟩) :: T') := by
 simp only [headA, Z5J hc] at h ⊢
 generalize mark ((k, ⟨.box, []⟩) :: T) 1000 (refsF φ) [] = keep at *
 simp only [keepB] at h ⊢
 have hno : ∀ b, (k, b) ∉ T := by
   intro b hb
   have := ZWE hb
   rw [hT] at this
   simp at this
 have hsub : ∀ (S : AHeap) (p : Nat × Blk), p ∈ keepB [] keep S → p ∈ S := by
   intro S
   induction S with
   | nil => intro p hp; exact hp
   | cons q S ih =>
     intro p hp
     obtain ⟨i, b⟩ := q
     simp only [keepB] at hp
     cases hcnd : (keep.elem i || (hget [] i).isSome) with
     | true =>
       rw [hcnd, cond_true] at hp
       rcases List.mem_cons.1 hp with e | hp
       · simp [e]
       · exact List.mem_cons_of_mem _ (ih p hp)
     | false =>
       rw [hcnd, cond_false] at hp
       exact List.mem_cons_of_mem _ (ih p hp)
 have hclosed : ∀ S, closedB φ ((k, ⟨.box, c⟩) :: S) = closedB φ ((k, ⟨.box, []⟩) :: S) := by
   intro S
   simp only [closedB, Zmc, closedH, hc, ZpM, refsL, allHeld]
 cases hcnd : (keep.elem k || (hget [] k).isSome) with
 | true =>
   rw [hcnd] at h
   simp only [cond_true, gcIf, hclosed] at h ⊢
   cases hcl : closedB φ ((k, ⟨.box, []⟩) :: keepB [] keep T) with
   | true =>
     rw [hcl] at h
     simp only [Prod.mk.injEq, List.cons.injEq, true_and] at h ⊢
     exact h
   | false =>
     rw [hcl] at h
     simp only [Prod.mk.injEq, List.cons.injEq, true_and] at h ⊢
     exact h
 | false =>
   rw [hcnd] at h
   simp only [cond_false, gcIf] at h ⊢
   cases hcl : closedB φ (keepB [] keep T) with
   | true =>
     rw [hcl] at h
     simp only [Prod.mk.injEq, true_and] at h
     exfalso
     exact hno ⟨.box, []⟩ (hsub T _ (by rw [h]; simp))
   | false =>
     rw [hcl] at h
     simp only [Prod.mk.injEq, List.cons.injEq, true_and] at h ⊢
     exact h
end
theorem Z0f : ∀ (l : List AV), (∀ a ∈ l, ∃ k z, a = AV.int k z) → refsL l = []
 | [], _ => rfl
 | a :: l, h => by
   obtain ⟨k, z, rfl⟩ := h a (by simp)
   simp only [refsL, refsOf, List.nil_append]
   exact Z0f l fun b hb => h b (by simp [hb])
end Go.AM
end
noncomputable section
namespace Go.AM.YtgfnbmfjbjopkaaDoor
open Go Go.AM Go.AM.Mule
structure Q5 where
 a : Int
 b : Int
 c : Int
 d : Int
 e : Int
deriving Inhabited
def q5c (q : Q5) : List AV := [.int .u8 q.a, .int .u8 q.b, .int .u8 q.c, .int .u8 q.d, .int .u8 q.e]
theorem ZgZ (q : Q5) : (q5c q).length = 5 := rfl
structure Q5Ok (q : Q5) : Prop where
 a : 0 ≤ q.a ∧ q.a ≤ 255
 b : 0 ≤ q.b ∧ q.b ≤ 255
 c : 0 ≤ q.c ∧ q.c ≤ 255
 d : 0 ≤ q.d ∧ q.d ≤ 255
 e : 0 ≤ q.e ∧ q.e ≤ 255
structure Dro where
 many : Int
 xs : List Q5
 pairs : Nat
 al : List Int
def u8s (l : List Int) : List AV := l.map (AV.int .u8)
def dcs (D : Dro) : List AV := .int .u8 D.many :: (cls q5c D.xs ++ (.int .u16 (D.pairs : Int) :: u8s D.al))
structure DOk (D : Dro) : Prop where
 many : 0 ≤ D.many ∧ D.many ≤ 255
 xl : D.xs.length = 6
 xs : ∀ q ∈ D.xs, Q5Ok q
 pairs : D.pairs < 65536
 ll : D.al.length = 6
 al : ∀ z ∈ D.al, 0 ≤ z ∧ z ≤ 255
theorem ZaJ {D : Dro} (h : DOk D) : (dcs D).length = 38 := by
 simp [dcs, Zv ZgZ, h.xl, u8s, h.ll]
theorem Z0F8 {D : Dro} {i : Nat} {q : Q5} (hx : D.xs[i]? = some q) : ((dcs D).drop (1 + i * 5)).take 5 = q5c q := by
 have hi := (List.getElem?_eq_some_iff.1 hx).1
 have hl := Zv ZgZ D.xs
 rw [dcs, show 1 + i * 5 = i * 5 + 1 by omega, List.drop_succ_cons, List.drop_append_of_le_length (by rw [hl]; omega), List.take_append_of_le_length (by rw [List.length_drop, hl]; omega)]
 exact Z1D ZgZ hx
theorem Z0Hh {D : Dro} (h : DOk D) : (dcs D)[31]? = some (.int .u16 (D.pairs : Int)) := by
 have hl := Zv ZgZ D.xs
 rw [h.xl] at hl
 rw [dcs, List.getElem?_cons_succ, List.getElem?_append_right (by omega), hl]; rfl
theorem Z0F9 {D : Dro} (h : DOk D) {i : Nat} {z : Int} (hz : D.al[i]? = some z) : (dcs D)[32 + i]? = some (.int .u8 z) := by
 have hl := Zv ZgZ D.xs
 rw [h.xl] at hl
 rw [dcs, show 32 + i = (31 + i) + 1 by omega, List.getElem?_cons_succ, List.getElem?_append_right (by omega), hl, show 31 + i - 6 * 5 = i + 1 by omega, List.getElem?_cons_succ]
 simp [u8s, hz]
theorem Z0H {D : Dro} : ∀ a ∈ dcs D, ∃ k z, a = AV.int k z := by
 intro a ha
 simp only [dcs, List.mem_cons, List.mem_append] at ha
 rcases ha with rfl | ha | rfl | ha
 · exact ⟨_, _, rfl⟩
 · simp only [cls, List.mem_flatMap] at ha
   obtain ⟨q, _, ha⟩ := ha
   simp only [q5c, List.mem_cons, List.not_mem_nil, or_false] at ha
   rcases ha with rfl | rfl | rfl | rfl | rfl <;> exact ⟨_, _, rfl⟩
 · exact ⟨_, _, rfl⟩
 · simp only [u8s, List.mem_map] at ha
   obtain ⟨z, _, rfl⟩ := ha
   exact ⟨_, _, rfl⟩
theorem Zga {D : Dro} (h : DOk D) {d : Nat} (hd : 40 ≤ d) : snaps d (dcs D) = .pure (dcs D, []) := Zpb _ _ Z0H (by rw [ZaJ h]; omega)
def mdl (q : Q5) : Ld := { lo := 1 + q.a % 9, hi := 1 + q.a % 9 + q.b % (10 - (1 + q.a % 9)), due := q.c % 30, rate := q.d % 6, base := q.e % 8 }
def nOf (D : Dro) (m : Int) : Nat := 1 + (D.many % m).toNat
theorem ZBW {D : Dro} (h : DOk D) {m : Int} (hm : m = 5 ∨ m = 6) : 1 ≤ nOf D m ∧ (nOf D m : Int) ≤ m := by
 unfold nOf
 rcases hm with rfl | rfl <;> omega
theorem Z0F3 {q : Q5} (h : Q5Ok q) : LdOk (mdl q) ∧ ldE (mdl q) = 0 := by
 obtain ⟨⟨a1, a2⟩, ⟨b1, b2⟩, ⟨c1, c2⟩, ⟨d1, d2⟩, ⟨e1, e2⟩⟩ := h
 have hm : 0 < 10 - (1 + q.a % 9) := by omega
 have h1 := Int.emod_nonneg q.b (show (10 - (1 + q.a % 9)) ≠ 0 by omega)
 have h2 := Int.emod_lt_of_pos q.b hm
 have hok : LdOk (mdl q) := by refine ⟨?_, ?_, ?_, ?_, ?_⟩ <;> simp only [mdl] <;> omega
 refine ⟨hok, ?_⟩
 unfold ldE
 rw [if_pos (Z0fZ.2 hok), if_neg (by simp only [mdl]; omega)]
def mdL (D : Dro) (n : Nat) : List Ld := (D.xs.take n).map mdl
theorem ZaP {D : Dro} (h : DOk D) {n : Nat} (hn : n ≤ 6) : (mdL D n).length = n := by simp [mdL, h.xl]; omega
abbrev m1S (D : Dro) (n i : Nat) : St :=
 ([(23, .int .i64 i), (22, .int .i64 n), (21, .ref 2 1 n 6 38 5 true), (5, .ptr 5 0 2), (4, .ptr 4 0 2), (2, .ptr 2 0 38)],
   (2, ⟨.box, dcs D⟩) :: (4, ⟨.box, [.nilsl, .nilsl]⟩) :: (5, ⟨.box, [oV 60 5 i, .nilsl]⟩) :: oH 60 (cls lc (mdL D i)))
theorem Z0hZ {n : Nat} (h : n ≤ 1000000) : roomOk E.T 62 n = true := by
 simp only [roomOk, T_62, decide_eq_true_eq]; exact ⟨by decide, rfl, by omega⟩
theorem Z0Hx {C : Callee} {D : Dro} (h : DOk D) {n : Nat} (hn : n ≤ 6) (i : Nat) (hi : i < n) :
   ∃ s', (execA E C (fg 40) 0 109 [] 1000 Zka) (m1S D n i) = some (.normal, s') ∧ headA [] s' = m1S D n (i + 1) := by
 have hx : D.xs[i]? = some (D.xs[i]'(by rw [h.xl]; omega)) := List.getElem?_eq_getElem _
 have hq := h.xs _ (List.mem_of_getElem? hx)
 have hat := Z0F8 hx
 have hsucc : mdL D (i + 1) = mdL D i ++ [mdl (D.xs[i]'(by rw [h.xl]; omega))] := by
   unfold mdL
   rw [List.take_add_one, hx, Option.toList_some, List.map_append]
   rfl
 have hml := ZaP h (show i ≤ 6 by omega)
 have hsn := Zg9 (f := lc) (mdL D i) (mdl (D.xs[i]'(by rw [h.xl]; omega)))
 have htl := Zv ZJ (mdL D i)
 have htk := Z3s ZJ (mdL D i)
 rw [hml] at htl htk
 have hlen := ZaJ h
 generalize (D.xs[i]'(by rw [h.xl]; omega)) = q at *
 obtain ⟨⟨a1, a2⟩, ⟨b1, b2⟩, ⟨c1, c2⟩, ⟨d1, d2⟩, ⟨e1, e2⟩⟩ := hq
 have hm : 0 < 10 - (1 + q.a % 9) := by omega
 have hb1 := Int.emod_nonneg q.b (show (10 - (1 + q.a % 9)) ≠ 0 by omega)
 have hb2 := Int.emod_lt_of_pos q.b hm
 have r1 : q.a.tmod 9 = q.a % 9 := Int.tmod_eq_emod_of_nonneg a1
 have r2 : q.c.tmod 30 = q.c % 30 := Int.tmod_eq_emod_of_nonneg c1
 have r3 : q.d.tmod 6 = q.d % 6 := Int.tmod_eq_emod_of_nonneg d1
 have r4 : q.e.tmod 8 = q.e % 8 := Int.tmod_eq_emod_of_nonneg e1
 have r5 : q.b.tmod (10 - (1 + q.a % 9)) = q.b % (10 - (1 + q.a % 9)) := Int.tmod_eq_emod_of_nonneg b1
 have z5 : ¬ (10 - (1 + q.a % 9) = 0) := by omega
 have w1 : wrp .i64 (1 + q.a % 9) = 1 + q.a % 9 := Z0q (by omega)
 have w2 : wrp .i64 (10 - (1 + q.a % 9)) = 10 - (1 + q.a % 9) := Z0q (by omega)
 have w3 : wrp .i64 (1 + q.a % 9 + q.b % (10 - (1 + q.a % 9))) = 1 + q.a % 9 + q.b % (10 - (1 + q.a % 9)) := Z0q (by omega)
 have wa : wrp .i64 q.a = q.a := Z0q (by omega)
 have wb : wrp .i64 q.b = q.b := Z0q (by omega)
 have wc : wrp .i64 q.c = q.c := Z0q (by omega)
 have wd : wrp .i64 q.d = q.d := Z0q (by omega)
 have we : wrp .i64 q.e = q.e := Z0q (by omega)
 have g1 : (i : Int) < n := by omega
 have nm : ¬ (i + 1 ≤ i) := by omega
 have eL : lc (mdl q) = [.int .i64 (1 + q.a % 9), .int .i64 (1 + q.a % 9 + q.b % (10 - (1 + q.a % 9))), .int .i64 (q.c % 30), .int .i64 (q.d % 6), .int .i64 (q.e % 8)] := rfl
 simp only [q5c] at hat
 have ho : 1 + i * 5 + 5 ≤ 38 := by omega
 simp only [m1S]
 rw [hsucc, ← hsn, eL]
 cases i with
 | zero =>
   rw [Nat.zero_mul, Nat.add_zero] at hat
   simp only [mdL, List.take_zero, List.map_nil, Zju, List.nil_append, oH, oV]
   simp (disch := omega) only [Z9, Zh, Bool.not_true, Bool.not_false, Zc, Za, Z4, Z2, Z3, Z0, Zk, Zd, Zq, Zi, Zo, Zj, stp, opBox, justO, just, Rd.bind, Rd.run, Rd.opt, upds, acells, zeroCells, tsz, elemT, rdCells, fieldOf, Zb, aLoad, aStore, opStore, fresh, Z6, aNum, Zf, aBin, aInt, putC, evO, Nat.reduceAdd, Nat.reduceMul, Nat.reduceLT, Nat.reduceGT, Nat.reduceBEq, Nat.reduceEqDiff, Nat.reduceLeDiff, ↓reduceIte, reduceCtorEq, Ze, decide_eq_true_eq, Nat.zero_add, Nat.add_zero, ne_eq, List.nil_append, List.getElem?_toArray, ZS, ZR, ZX, ZW, ZM, Z02, ZD, ZA, ZP, ZL, stpT, Rd.foot, writing, Zr, Tr.empty, Zu, apartT, disj, List.isEmpty_nil, List.isEmpty_cons, List.map_nil, List.map_cons, Bool.not_false, Bool.not_true, Bool.true_or, Bool.or_true, Bool.or_false, Bool.and_true, Bool.true_and, Bool.and_self, decide_true, not_true_eq_false, or_self, ZZ, Z0Q, fo6, fo5, partsOf, fillA, repC, Z0I, aAppend, srcOf, window, Z5, Zl, and_true, true_and, snaps, List.append_nil, Option.map_some, List.elem_cons, List.elem_nil, List.length_cons, List.length_nil, List.getElem?_cons_zero, List.getElem?_cons_succ, List.drop_zero, List.take_succ_cons, List.take_nil, List.set_cons_zero, List.set_cons_succ, Zs, seqN, bindN, regN, Zw, ZH, aConv, aBuild, placeF, List.all_cons, List.all_nil, Nat.le_refl, Int.reduceEq, Int.reduceLE, Int.reduceToNat, Nat.mul_one, Nat.zero_mul, List.not_mem_nil, beq_self_eq_true, Nat.lt_irrefl, Bool.false_eq_true, T_3, T_22, T_25, T_62, T_5, T_53, Zp4, List.all_cons, List.all_nil, List.getD_cons_zero, List.getD_cons_succ, beq_self_eq_true, ZPs, Zwd, ZtQ, ZJJ, ZQp, ZJC, Z0l3, Z030, Z01Q, Z07L, Z08o, Z02S, Z0fR, Z05R, Z079, ZZO, Z04c, Z00I, Z09B, Z09i, Z025, Z00Y, ZZH, Z017, ZQt, ZDN, ZFf, ZO9, ZOY, ZSB, ZPf, ZMj, ZWy, ZIH, Z0k7, Z02L, ZFn, ZEZ, Z0bF, Z0bG, Z02o, Z02W, Z06W, Z05X, Z06N, Z03r, Z0bK, Z02A, ZDX, ZEc, Z0ha, Z04f, Z00Q, Z02i, Z08A, Z00j, Z01N, Z02h, Z04I, Z0jK, Z0h0, Z0ir, Z0hg, Z0ke, Z0aU, Z042, Z0b5, Z0jt, ZUf, Z0dl, hat, hlen, r1, r2, r3, r4, r5, z5, w1, w2, w3, wa, wb, wc, wd, we, if_pos, Z0hZ (show 1 ≤ 1000000 by omega), cl0]
   exact ⟨_, rfl, Z0t (Z0f _ Z0H) rfl rfl⟩
 | succ i =>
   have hoH : oH 60 (cls lc (mdL D (i + 1))) = [(60, ⟨.row, cls lc (mdL D (i + 1))⟩)] := Zfg 60 (by rw [htl]; omega)
   have hoH2 : ∀ y, oH 60 (cls lc (mdL D (i + 1)) ++ y) = [(60, ⟨.row, cls lc (mdL D (i + 1)) ++ y⟩)] := fun y => Zfg 60 (by rw [List.length_append, htl]; omega)
   simp only [hoH, hoH2, oV]
   generalize cls lc (mdL D (i + 1)) = cc at *
   simp (disch := omega) only [Z9, Zh, Bool.not_true, Bool.not_false, Zc, Za, Z4, Z2, Z3, Z0, Zk, Zd, Zi, Zo, Zj, stp, opBox, justO, just, Rd.bind, Rd.run, Rd.opt, upds, acells, zeroCells, tsz, elemT, rdCells, fieldOf, Zb, aLoad, aStore, opStore, fresh, Z6, aNum, Zf, aBin, aInt, putC, evO, Nat.reduceAdd, Nat.reduceMul, Nat.reduceLT, Nat.reduceGT, Nat.reduceBEq, Nat.reduceEqDiff, Nat.reduceLeDiff, ↓reduceIte, reduceCtorEq, Ze, Nat.zero_add, Nat.add_zero, ne_eq, List.nil_append, List.getElem?_toArray, ZS, ZR, ZX, ZW, ZM, Z02, ZD, ZA, ZP, ZL, stpT, Rd.foot, writing, Zr, Tr.empty, Zu, apartT, disj, List.isEmpty_nil, List.isEmpty_cons, List.map_nil, List.map_cons, Bool.not_false, Bool.not_true, Bool.true_or, Bool.or_true, Bool.or_false, Bool.and_true, Bool.true_and, Bool.and_self, decide_true, not_true_eq_false, or_self, ZZ, Z0Q, fo6, fo5, partsOf, fillA, repC, Z0I, aAppend, srcOf, window, Z5, Zl, and_true, true_and, Int.natCast_nonneg, Int.toNat_natCast, snaps, List.append_nil, Option.map_some, List.elem_cons, List.elem_nil, List.length_cons, List.length_nil, List.getElem?_cons_zero, List.getElem?_cons_succ, List.drop_zero, List.take_succ_cons, List.take_nil, List.set_cons_zero, List.set_cons_succ, Zs, seqN, bindN, regN, Zw, ZH, aConv, aBuild, placeF, List.all_cons, List.all_nil, Nat.le_refl, Int.reduceEq, Int.reduceLE, Int.reduceToNat, Nat.mul_one, Nat.zero_mul, List.not_mem_nil, beq_self_eq_true, Nat.lt_irrefl, Bool.false_eq_true, T_3, T_22, T_25, T_62, T_5, T_53, Zp4, List.all_cons, List.all_nil, List.getD_cons_zero, List.getD_cons_succ, beq_self_eq_true, ZPs, Zwd, ZtQ, ZJJ, ZQp, ZJC, Z0l3, Z030, Z01Q, Z07L, Z08o, Z02S, Z0fR, Z05R, Z079, ZZO, Z04c, Z00I, Z09B, Z09i, Z025, Z00Y, ZZH, Z017, ZQt, ZDN, ZFf, ZO9, ZOY, ZSB, ZPf, ZMj, ZWy, ZIH, Z0k7, Z02L, ZFn, ZEZ, Z0bF, Z0bG, Z02o, Z02W, Z06W, Z05X, Z06N, Z03r, Z0bK, Z02A, ZDX, ZEc, Z0ha, Z04f, Z00Q, Z02i, Z08A, Z00j, Z01N, Z02h, Z04I, Z0jK, Z0h0, Z0ir, Z0hg, Z0ke, Z0aU, Z042, Z0b5, Z0jt, ZUf, Z0dl, g1, hat, hlen, htl, htk, nm, ho, r1, r2, r3, r4, r5, z5, w1, w2, w3, wa, wb, wc, wd, we, if_pos, Z0hZ (show i + 1 + 1 ≤ 1000000 by omega), ZK (show i + 1 < 1000000 by omega)]
   exact ⟨_, rfl, Z0t (Z0f _ Z0H) rfl rfl⟩
end Go.AM.YtgfnbmfjbjopkaaDoor
end
end
