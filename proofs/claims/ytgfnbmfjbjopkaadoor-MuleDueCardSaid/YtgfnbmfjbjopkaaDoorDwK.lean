/- A part of the proof of muleDue_card: DuK, DuL. Own work of this project; texts printed by own programs among it. -/
import Derived.KernelRfl
import Derived.Test.YtgfnbmfjbjopkaaDoorDwJ
set_option maxRecDepth 1000000
set_option maxHeartbeats 16000000
noncomputable section
noncomputable section
namespace Go.AM.YtgfnbmfjbjopkaaDoor
open Go Go.AM Go.AM.Mule
def SV {α : Type} (f : α → List AV) (l : List α) (a : AV) : Prop := (l = [] ∧ a = .nilsl) ∨ ∃ ex, a = .imm (cls f l) l.length ex
abbrev Pr := Int × Int
def bc (p : Pr) : List AV := [.int .i64 p.1, .int .i64 p.2]
theorem Z2U (p : Pr) : (bc p).length = 2 := rfl
theorem Z0ug {C : Callee} {l : Ld} : rsOf (bodyA E C fg 1000 126 [.agg (lc l)] [] 0) = some (.agg (lc l)) := by
 simp (disch := omega) only [Zp, Zc, Za, Z4, Z2, Z3, Z0, Zk, Zd, Zq, Zi, Zm, Zj, stp, opBox, justO, just, Rd.bind, Rd.run, Rd.opt, upds, acells, zeroCells, tsz, rdCells, fieldOf, Zb, aLoad, aStore, opStore, resA, resL, fresh, putC, evO, Nat.reduceAdd, Nat.reduceGT, Nat.reduceBEq, Nat.reduceEqDiff, Nat.reduceLeDiff, ↓reduceIte, reduceCtorEq, Ze, Nat.zero_add, Nat.add_zero, ne_eq, List.nil_append, not_true_eq_false, or_self, partsOf, fillA, Z5, Zl, and_true, snaps, List.append_nil, Option.map_some, List.elem_cons, List.elem_nil, List.length_cons, List.length_nil, List.getElem?_cons_zero, List.getElem?_cons_succ, List.drop_zero, List.take_succ_cons, List.take_nil, List.set_cons_zero, List.set_cons_succ, Zs, seqN, bindN, regN, Zw, aBuild, Nat.le_refl, Nat.mul_one, List.not_mem_nil, beq_self_eq_true, Nat.lt_irrefl, Bool.false_eq_true, T_3, T_62, Z1j, beq_self_eq_true, Z0Es, Z0qg, Z0r0, Z0n8, Z0EN, Z0pr, Z0ph, Z0pg, Z0pS, Z0qe, Z0o4, Z0pA, Z0lO, Z0r3, Z0nI, Z0os, Z0jN, Z0hS, Z0Bm, Z0E9, Z0EQ, Z0F7, lc, putC]
def cl (lo hi x : Int) : Int := if hi < (if lo > x then lo else x) then hi else (if lo > x then lo else x)
def wiL (l : Ld) : List Int := [cl 1 9 l.lo, cl 1 9 l.hi, cl 0 54 l.due, cl 0 9 l.rate, cl 0 20 l.base]
theorem Z0cS {C : Callee} {a b c d e : Int} : rsOf (bodyA E C fg 1000 127 [.agg [.int .i64 a, .int .i64 b, .int .i64 c, .int .i64 d, .int .i64 e]] [] 0) = some (.agg (ics [cl 1 9 a, cl 1 9 b, cl 0 54 c, cl 0 9 d, cl 0 20 e])) := by kernel_rfl
def ldI (l : Ld) : List Int := [l.lo, l.hi, l.due, l.rate, l.base]
theorem Zg6 : ∀ (xs ys : List Int), xs.length = ys.length → eqInts .i64 (ics xs) (ics ys) = some (decide (xs = ys))
 | [], [], _ => rfl
 | [], _ :: _, h => by simp at h
 | _ :: _, [], h => by simp at h
 | x :: xs, y :: ys, h => by
   have ih := Zg6 xs ys (by simpa using h)
   simp only [ics] at ih
   simp only [ics, List.map_cons, eqInts, and_self, if_true, ih, List.cons.injEq]
   by_cases e : x = y
   · subst e; simp
   · have : (x == y) = false := by rw [beq_eq_false_iff_ne]; exact e
     simp [this, e]
def ldB (l : Ld) : Bool := decide ((1 ≤ l.lo ∧ l.lo ≤ 9) ∧ (1 ≤ l.hi ∧ l.hi ≤ 9) ∧ (0 ≤ l.due ∧ l.due ≤ 54) ∧ (0 ≤ l.rate ∧ l.rate ≤ 9) ∧ (0 ≤ l.base ∧ l.base ≤ 20))
theorem Z0fZ {l : Ld} : ldB l = true ↔ LdOk l := by
 simp only [ldB, decide_eq_true_eq]
 exact ⟨fun ⟨a, b, c, d, e⟩ => ⟨a, b, c, d, e⟩, fun ⟨a, b, c, d, e⟩ => ⟨a, b, c, d, e⟩⟩
theorem ZAA {lo hi x : Int} (h : lo ≤ hi) : x = cl lo hi x ↔ lo ≤ x ∧ x ≤ hi := by
 unfold cl; split <;> split <;> omega
theorem Z0rq (l : Ld) : eqArr E.T 126 (lc l) (ics (wiL l)) = some (ldB l) := by
 have e : lc l = ics (ldI l) := rfl
 rw [e]
 simp only [eqArr, Z1j, T_3, ZC]
 rw [Zg6 (ldI l) (wiL l) rfl]
 simp only [ldI, wiL, List.length_cons, List.length_nil, ldB, List.cons.injEq, ZAA (show (1 : Int) ≤ 9 by omega), ZAA (show (0 : Int) ≤ 54 by omega), ZAA (show (0 : Int) ≤ 9 by omega), ZAA (show (0 : Int) ≤ 20 by omega), and_true, if_true]
theorem ZXC {d : Nat} {site : Nat → Nat} {seen : List Nat} {l : Ld} : aBack site true seen (thaw (callA E fg 1000 (d + 1)) 127 [.agg (lc l)] [] 0) = .pure (.agg (ics (wiL l)), []) := by
 obtain ⟨H, h⟩ := Z0O (Z0cS (C := callA E fg 1000 d) (a := l.lo) (b := l.hi) (c := l.due) (d := l.rate) (e := l.base))
 exact Z1p (H' := H) h rfl (fun _ => rfl) rfl
theorem Z0on {d : Nat} {site : Nat → Nat} {seen : List Nat} {l : Ld} : aBack site true seen (thaw (callA E fg 1000 (d + 1)) 126 [.agg (lc l)] [] 0) = .pure (.agg (lc l), []) := by
 obtain ⟨H, h⟩ := Z0O (Z0ug (C := callA E fg 1000 d) (l := l))
 exact Z1p (H' := H) h rfl (fun _ => rfl) rfl
theorem Z0rA (p q : Pr) : eqArr E.T 64 (bc p) (bc q) = some (decide (p = q)) := by
 have e : ∀ p : Pr, bc p = ics [p.1, p.2] := fun _ => rfl
 rw [e, e]
 simp only [eqArr, T_64, T_3, ZC]
 rw [Zg6 [p.1, p.2] [q.1, q.2] rfl]
 obtain ⟨a, b⟩ := p
 obtain ⟨c, d⟩ := q
 simp only [List.length_cons, List.length_nil, List.cons.injEq, Prod.mk.injEq, and_true, if_true]
theorem Z0Au {C : Callee} {l : List Pr} {q : Pr} {ex : Bool} (hl : l.length < 900) :
   rsOf (bodyA E C fg 1000 123 [.imm (cls bc l) l.length ex, .agg (bc q)] [] 0) = some (.int .i64 (if l.findIdx (fun p => decide (q = p)) < l.length then (l.findIdx (fun p => decide (q = p)) : Int) else -1)) := by
 have hle := List.findIdx_le_length (xs := l) (p := fun p => decide (q = p))
 have hlen : (cls bc l).length = l.length * 2 := Zv Z2U l
 have hlo : ∀ i, i < l.findIdx (fun p => decide (q = p)) → ∃ s', (execA E C (fg 123) 0 19 [] 1000 Zby) ([(8, .int .i64 i), (7, .int .i64 l.length), (3, .ptr 3 0 2), (0, .imm (cls bc l) l.length ex)], [(3, ⟨.box, bc q⟩)]) = some (.normal, s') ∧
     headA [] s' = ([(8, .int .i64 (i + 1 : Nat)), (7, .int .i64 l.length), (3, .ptr 3 0 2), (0, .imm (cls bc l) l.length ex)], [(3, ⟨.box, bc q⟩)]) := by
   intro i hi
   have hil : i < l.length := by omega
   have hp := List.not_of_lt_findIdx hi
   have hq := Z0rA q l[i]
   have hat := Z1D Z2U (List.getElem?_eq_getElem hil)
   generalize l[i] = p at *
   have g1 : (i : Int) < l.length := by omega
   rw [show decide (q = p) = false by simpa using hp] at hq
   simp only [bc] at hat hq ⊢
   simp (disch := omega) only [Z9, Zh, Bool.not_true, Bool.not_false, Zc, Za, Z4, Z2, Z3, Z0, Zd, Zo, Zj, stp, just, Rd.bind, Rd.run, Rd.opt, upds, tsz, rdCells, aLoad, Z6, aNum, aBin, aInt, Nat.reduceAdd, Nat.reduceLT, Nat.reduceBEq, Nat.reduceEqDiff, Nat.reduceLeDiff, ↓reduceIte, reduceCtorEq, Ze, Nat.zero_add, ZS, ZR, ZX, ZW, ZM, Z02, ZD, ZA, ZP, ZL, stpT, Rd.foot, writing, Zr, Tr.empty, Zu, apartT, disj, List.isEmpty_nil, List.isEmpty_cons, List.map_nil, Bool.not_false, Bool.not_true, Bool.true_or, Bool.or_true, Bool.or_false, Bool.and_true, Bool.true_and, Bool.and_self, decide_true, Z5, and_true, Int.natCast_nonneg, Int.toNat_natCast, Option.map_some, List.elem_cons, List.elem_nil, List.length_cons, List.length_nil, List.drop_zero, List.take_succ_cons, List.take_nil, seqN, bindN, regN, List.all_nil, Nat.le_refl, beq_self_eq_true, Bool.false_eq_true, T_23, T_64, List.all_nil, beq_self_eq_true, ZE9, Zmy, ZlO, ZvJ, Zwz, Zwt, Z00M, ZKW, ZG6, ZGC, Z0co, ZCF, Zzh, ZxR, ZKZ, ZOZ, ZGl, ZO1, ZFq, ZE0, ZYD, ZMV, ZR3, ZJ2, Z02z, Z05L, ZZC, Z0aP, ZZY, Z0aO, Z0cE, Z0w6, Z0qi, Z0m8, Z0ln, Z031, ZFw, ZUX, g1, hat, hlen, hq, if_pos, ZK (show i < 1000000 by omega)]
   exact ⟨_, rfl, rfl⟩
 by_cases hlt : l.findIdx (fun p => decide (q = p)) < l.length
 · rw [if_pos hlt]
   have hp := List.findIdx_getElem (xs := l) (p := fun p => decide (q = p)) (w := hlt)
   have hq := Z0rA q l[l.findIdx (fun p => decide (q = p))]
   have hat := Z1D Z2U (List.getElem?_eq_getElem hlt)
   have hp' : decide (q = l[l.findIdx (fun p => decide (q = p))]) = true := hp
   rw [hp'] at hq
   clear hp hp'
   generalize l[l.findIdx (fun p => decide (q = p))] = p at *
   generalize l.findIdx (fun p => decide (q = p)) = m at *
   have g1 : (m : Int) < l.length := by omega
   simp only [bc] at hat hq hlo ⊢
   have hloop := loopN (f := (execA E C (fg 123) 0 19 [] 1000 Zby)) (fun i => ([(8, .int .i64 i), (7, .int .i64 l.length), (3, .ptr 3 0 2), (0, .imm (cls bc l) l.length ex)], [(3, ⟨.box, [.int .i64 q.1, .int .i64 q.2]⟩)])) m hlo rfl (by omega)
     (e := .ret) (se := ([(4, .int .i64 m)], [(3, ⟨.box, [.int .i64 q.1, .int .i64 q.2]⟩)]))
     (by simp (disch := omega) only [Z01, Z9, ZT, Bool.not_true, Bool.not_false, Zc, Za, Z4, Z2, Z3, Z0, Zd, Zo, Zj, stp, just, Rd.bind, Rd.run, Rd.opt, upds, tsz, rdCells, aLoad, Z6, aNum, aBin, aInt, Nat.reduceAdd, Nat.reduceLT, Nat.reduceBEq, Nat.reduceEqDiff, Nat.reduceLeDiff, ↓reduceIte, reduceCtorEq, Ze, Nat.zero_add, ZS, ZR, ZX, ZW, ZM, Z02, ZD, ZA, ZP, ZL, stpT, Rd.foot, writing, Zr, Tr.empty, Zu, apartT, disj, List.isEmpty_nil, List.isEmpty_cons, List.map_nil, Bool.not_false, Bool.not_true, Bool.true_or, Bool.or_true, Bool.or_false, Bool.and_true, Bool.true_and, Bool.and_self, decide_true, Z5, and_true, Int.natCast_nonneg, Int.toNat_natCast, Option.map_some, List.elem_cons, List.elem_nil, List.length_cons, List.length_nil, List.drop_zero, List.take_succ_cons, List.take_nil, seqN, bindN, regN, List.all_nil, Nat.le_refl, beq_self_eq_true, Bool.false_eq_true, T_23, T_64, List.all_nil, beq_self_eq_true, ZE9, Zmy, ZlO, ZvJ, Zwz, Zwt, Z00M, ZKW, ZG6, ZGC, Z0co, ZCF, Zzh, ZxR, ZKZ, ZOZ, ZGl, ZO1, ZFq, ZE0, ZYD, ZMV, ZR3, ZJ2, Z02z, Z05L, ZZC, Z0aP, ZZY, Z0aO, Z0cE, Z031, ZFw, ZUX, g1, hat, hlen, hq, if_pos]) (by simp)
   simp only [cl0] at hloop
   simp (disch := omega) only [Z01, ZT, Zp, Zc, Za, Z4, Z2, Z3, Z0, Zk, Zq, Zm, Zj, stp, opBox, just, Rd.bind, Rd.run, upds, acells, resA, resL, fresh, aLen, Zf, Nat.reduceAdd, Nat.reduceBEq, Nat.reduceEqDiff, Nat.reduceLeDiff, ↓reduceIte, reduceCtorEq, Nat.zero_add, List.getElem?_toArray, Z5, Option.map_some, List.elem_cons, List.elem_nil, List.length_cons, List.length_nil, List.getElem?_cons_zero, seqN, bindN, regN, beq_self_eq_true, Bool.false_eq_true, T_23, beq_self_eq_true, Z0l6, ZOb, ZMi, ZWn, Z0j4, ZSq, ZTm, ZNX, ZGs, Z0fU, Z0jb, Z0i7, Z0hX, Z0kJ, Z0s5, hloop]
 · rw [if_neg hlt]
   have e : l.findIdx (fun p => decide (q = p)) = l.length := by omega
   simp only [bc] at hlo ⊢
   have hloop := loopN (f := (execA E C (fg 123) 0 19 [] 1000 Zby)) (fun i => ([(8, .int .i64 i), (7, .int .i64 l.length), (3, .ptr 3 0 2), (0, .imm (cls bc l) l.length ex)], [(3, ⟨.box, [.int .i64 q.1, .int .i64 q.2]⟩)])) l.length (fun i hi => hlo i (by omega)) rfl (by omega)
     (e := .exit 0) (se := ([(9, .bool false), (8, .int .i64 l.length), (7, .int .i64 l.length), (3, .ptr 3 0 2), (0, .imm (cls bc l) l.length ex)], [(3, ⟨.box, [.int .i64 q.1, .int .i64 q.2]⟩)]))
     (by simp (disch := omega) only [ZG, Z9, Zc, Za, Z4, Z2, Z3, Z0, Zo, stp, just, Rd.bind, Rd.run, Rd.opt, upds, aBin, aInt, Nat.reduceEqDiff, Nat.reduceLeDiff, ↓reduceIte, decide_false, Z5, List.elem_nil, seqN, bindN, regN, Int.lt_irrefl, Bool.false_eq_true, ZE9, Zmy, ZlO, ZvJ, Zwz, Zwt, ZFw, ZUX]) (by simp)
   simp only [cl0] at hloop
   simp (disch := omega) only [Zz, Zp, Zc, Za, Z4, Z0e, Z2, Z3, Z0, Zk, Zq, Zm, Zo, Zj, stp, opBox, just, Rd.bind, Rd.run, upds, acells, resA, resL, fresh, aLen, Zf, Nat.reduceAdd, Nat.reduceBEq, Nat.reduceEqDiff, Nat.reduceLeDiff, Int.reduceNeg, ↓reduceIte, reduceCtorEq, Nat.zero_add, List.getElem?_toArray, Z5, Option.map_some, List.elem_cons, List.elem_nil, List.length_cons, List.length_nil, List.getElem?_cons_zero, seqN, bindN, regN, beq_self_eq_true, Bool.false_eq_true, T_23, beq_self_eq_true, Z0l6, ZOb, ZMi, ZWn, Z0j4, ZSq, ZTm, ZNX, ZGs, Z0fU, Z0jb, Z0i7, Z0A9, Z0nm, Z0rg, Z0wx, Z0wD, Z0hX, Z0kJ, Z0s5, hloop]
theorem Z0mc {d : Nat} {l : List Pr} {q : Pr} {ex : Bool} {site : Nat → Nat} {seen : List Nat} (hl : l.length < 900) :
   aBack site true seen (thaw (callA E fg 1000 (d + 1)) 123 [.imm (cls bc l) l.length ex, .agg (bc q)] [] 0) = .pure (.int .i64 (if l.findIdx (fun p => decide (q = p)) < l.length then (l.findIdx (fun p => decide (q = p)) : Int) else -1), []) :=
 Z0J (Z0O (Z0Au hl))
theorem Z0ti {d : Nat} {l : List Pr} {q : Pr} {ex : Bool} (hl : l.length < 900) :
   rsOf (bodyA E (callA E fg 1000 (d + 1)) fg 1000 79 [.imm (cls bc l) l.length ex, .agg (bc q)] [] 0) = some (.bool (decide (q ∈ l))) := by
 have hc := fun (site : Nat → Nat) seen => Z0mc (d := d) (ex := ex) (q := q) (site := site) (seen := seen) hl
 have e : decide (q ∈ l) = decide ((if l.findIdx (fun p => decide (q = p)) < l.length then (l.findIdx (fun p => decide (q = p)) : Int) else -1) ≥ 0) := by
   refine decide_eq_decide.2 ?_
   have := List.findIdx_lt_length (xs := l) (p := fun p => decide (q = p))
   have h2 : (∃ x, x ∈ l ∧ decide (q = x) = true) ↔ q ∈ l := by simp
   rw [← h2, ← this]
   split <;> omega
 rw [e]
 generalize (if l.findIdx (fun p => decide (q = p)) < l.length then (l.findIdx (fun p => decide (q = p)) : Int) else -1) = z at *
 simp only [bc] at hc ⊢
 generalize callA E fg 1000 (d + 1) = C at *
 simp (disch := omega) only [Zp, Zc, Za, Z4, Z2, Z3, Z0, Zk, Zd, Zq, Zm, Zj, stp, opBox, just, Rd.bind, Rd.run, Rd.opt, upds, acells, rdCells, aLoad, resA, resL, fresh, aBin, aInt, Nat.reduceAdd, Nat.reduceBEq, Nat.reduceEqDiff, Nat.reduceLeDiff, ↓reduceIte, reduceCtorEq, Ze, Nat.zero_add, Z5, aCall, snaps, List.append_nil, Option.map_some, List.elem_cons, List.elem_nil, List.length_cons, List.length_nil, List.drop_zero, List.take_succ_cons, List.take_nil, seqN, bindN, regN, Zw, Z0a, ZE, Nat.le_refl, beq_self_eq_true, Bool.false_eq_true, T_64, beq_self_eq_true, Z0Fq, Z0yH, Z0vN, Z0B3, Z0Hp, Z0vv, Z0yl, Z0zV, Z0yq, Z0xN, Z0yu, Z0HZ, Z0HD, Z0G7, b_79, hc]
theorem Z0oE {d : Nat} {l : List Pr} {q : Pr} {ex : Bool} {site : Nat → Nat} {seen : List Nat} (hl : l.length < 900) :
   aBack site true seen (thaw (callA E fg 1000 (d + 2)) 79 [.imm (cls bc l) l.length ex, .agg (bc q)] [] 0) = .pure (.bool (decide (q ∈ l)), []) :=
 Z5p (Z0O (Z0ti hl))
end Go.AM.YtgfnbmfjbjopkaaDoor
end
noncomputable section
namespace Go.AM.YtgfnbmfjbjopkaaDoor
open Go Go.AM Go.AM.Mule
theorem Z0DL {lo k : Nat} (h : lo ≤ k) (c : List AV) : ascH lo (oH k c) = true := by
 cases c with
 | nil => rfl
 | cons a c => simp only [oH, ZL, ZP, Bool.and_true, decide_eq_true_eq]; exact h
def ldE (l : Ld) : Int := if ldB l = true then (if l.lo > l.hi then 7 else 0) else 1
theorem Z09Z {n : Nat} (h : n ≤ 1000000) : roomOk E.T 126 n = true := by
 simp only [roomOk, Z1j, decide_eq_true_eq]; exact ⟨by decide, rfl, by omega⟩
abbrev h1S (ls : List Ld) (e : Bool) (b : AV) (n : Nat) (z : List AV) (i : Nat) : St :=
 ([(38, .int .i64 i), (37, .int .i64 n), (36, .imm (cls lc ls) n e), (5, .ptr 5 0 2), (4, .int .i64 n), (2, .ptr 2 0 2), (1, .ptr 1 0 2)],
   (1, ⟨.box, [.imm (cls lc ls) n e, b]⟩) :: (2, ⟨.box, [.nilsl, .nilsl]⟩) :: (5, ⟨.box, [oV 61 5 i, .ref 33 0 n n n 1 false]⟩) :: (33, ⟨.row, z⟩) :: oH 61 (cls lc (ls.take i)))
structure H1C (C : Callee) : Prop where
 rc : ∀ (site : Nat → Nat) seen l, aBack site true seen (thaw C 126 [.agg (lc l)] [] 0) = .pure (.agg (lc l), [])
 wi : ∀ (site : Nat → Nat) seen l, aBack site true seen (thaw C 127 [.agg (lc l)] [] 0) = .pure (.agg (ics (wiL l)), [])
theorem Z0H4 {C : Callee} (hC : H1C C) {ls : List Ld} {e : Bool} {b : AV} {n : Nat} {z : List AV} (hl : ls.length = n) (hz : z.length = n) (hn : n ≤ 6) (hb : b = .nilsl ∨ ∃ c m ex, b = .imm c m ex) (i : Nat) (hi : i < n) (h0 : ∀ l, ls[i]? = some l → ldE l = 0) :
   ∃ s', (execA E C (fg 88) 0 156 [] 1000 Z3A) (h1S ls e b n z i) = some (.normal, s') ∧ headA [] s' = h1S ls e b n z (i + 1) := by
 obtain ⟨hrc, hwi⟩ := hC
 have hk : ls[i]? = some ls[i] := List.getElem?_eq_getElem (by omega)
 have hx := h0 _ hk
 have hat := Z1D ZJ hk
 have hr := fun site seen => hrc site seen ls[i]
 have hw := fun site seen => hwi site seen ls[i]
 have heq := Z0rq ls[i]
 have ht : ls.take (i + 1) = ls.take i ++ [ls[i]] := by rw [List.take_add_one, hk]; rfl
 have hsn := Zg9 (f := lc) (ls.take i) ls[i]
 have hlt : (ls.take i).length = i := by rw [List.length_take]; omega
 have htl := Zv ZJ (ls.take i)
 have htk := Z3s ZJ (ls.take i)
 rw [hlt] at htl htk
 have hlen : (cls lc ls).length = n * 5 := by rw [Zv ZJ, hl]
 generalize ls[i] = x at *
 have hB : ldB x = true := by
   unfold ldE at hx; split at hx
   · assumption
   · simp at hx
 have hlo : ¬ x.lo > x.hi := by
   unfold ldE at hx; rw [if_pos hB] at hx; split at hx
   · simp at hx
   · assumption
 rw [hB] at heq
 have g1 : (i : Int) < n := by omega
 have hwl : ics (wiL x) = [.int .i64 (cl 1 9 x.lo), .int .i64 (cl 1 9 x.hi), .int .i64 (cl 0 54 x.due), .int .i64 (cl 0 9 x.rate), .int .i64 (cl 0 20 x.base)] := rfl
 have nm : ¬ (i + 1 ≤ i) := by omega
 simp only [h1S, ht]
 rw [← hsn]
 simp only [hwl] at hw heq
 simp only [lc] at hat hr hw heq ⊢
 cases i with
 | zero =>
   rw [Nat.zero_mul, List.drop_zero] at hat
   simp only [List.take_zero, Zju, List.nil_append, oH, oV]
   simp (disch := omega) only [Z9, Zh, Bool.not_true, Bool.not_false, Zc, Za, Z4, Z2, Z3, Z0, Zk, Zd, Zq, Zi, Zo, Zj, stp, opBox, justO, just, Rd.bind, Rd.run, Rd.opt, upds, acells, zeroCells, tsz, elemT, rdCells, fieldOf, Zb, aLoad, aStore, opStore, fresh, Z6, aNum, Zf, aBin, aInt, putC, evO, Nat.reduceAdd, Nat.reduceMul, Nat.reduceLT, Nat.reduceBEq, Nat.reduceEqDiff, Nat.reduceLeDiff, ↓reduceIte, reduceCtorEq, Ze, decide_eq_true_eq, Nat.zero_add, Nat.add_zero, ne_eq, List.nil_append, List.getElem?_toArray, ZS, ZR, ZX, ZW, ZM, Z02, ZD, ZA, ZP, ZL, stpT, Rd.foot, writing, Zr, Tr.empty, Zu, apartT, disj, List.isEmpty_nil, List.isEmpty_cons, List.map_nil, Bool.not_false, Bool.not_true, Bool.true_or, Bool.or_true, Bool.or_false, Bool.and_true, Bool.true_and, Bool.and_self, decide_true, decide_false, not_true_eq_false, or_self, ZZ, Z0Q, fo6, fo5, partsOf, fillA, repC, Z0I, aAppend, srcOf, window, Z5, Zl, and_true, true_and, aCall, snaps, List.append_nil, Option.map_some, List.elem_cons, List.elem_nil, List.length_cons, List.length_nil, List.getElem?_cons_zero, List.getElem?_cons_succ, List.drop_zero, List.take_succ_cons, List.take_nil, List.set_cons_zero, List.set_cons_succ, Zs, seqN, bindN, regN, Zw, ZU, ZH, ZE, aBuild, List.all_cons, List.all_nil, Nat.le_refl, Int.reduceLE, Int.reduceToNat, Nat.mul_one, Nat.zero_mul, List.not_mem_nil, beq_self_eq_true, Nat.lt_irrefl, Bool.false_eq_true, T_3, T_22, T_62, Z0X, ZO, Z1j, List.all_cons, List.all_nil, List.getD_cons_zero, List.getD_cons_succ, beq_self_eq_true, ZgM, Zd2, ZcY, ZhH, ZgL, Zi9, Zp8, Zlm, Zlr, Zj0, ZiY, Zkc, ZnK, ZfR, ZfJ, Zff, ZfU, ZeI, Zq2, Zgu, Zcw, Zc2, ZeG, Zfi, ZfL, Zez, Zfl, ZpR, Zfh, Zgr, Zg8, Zg4, Zow, Znk, ZmU, ZeR, Zfp, ZeF, ZeW, ZeQ, Zfu, Zg3, Zrh, ZeA, ZfH, Zgt, ZfE, ZrV, Zpe, ZnH, ZoB, ZrI, Zpp, Zpi, ZpZ, Z0hE, ZME, ZOM, ZJc, ZRw, ZHY, ZOV, ZEd, ZVF, Zqi, Zqm, Zoc, Znr, Z0je, ZL9, ZUR, ZDr, Zs0, Zi4, Zhd, hat, hr, hw, heq, hlo, hlen, if_pos, Z09Z (show 1 ≤ 1000000 by omega), Int.natCast_zero]
   rcases hb with rfl | ⟨_, _, _, rfl⟩ <;> exact ⟨_, rfl, rfl⟩
 | succ i =>
   obtain ⟨c, cs, hcs⟩ : ∃ c cs, cls lc (ls.take (i + 1)) = c :: cs := by
     cases hh : cls lc (ls.take (i + 1)) with
     | nil => rw [hh] at htl; simp at htl
     | cons c cs => exact ⟨c, cs, rfl⟩
   have hoH : oH 61 (cls lc (ls.take (i + 1))) = [(61, ⟨.row, cls lc (ls.take (i + 1))⟩)] := by rw [hcs]; rfl
   have hoH2 : ∀ y, oH 61 (cls lc (ls.take (i + 1)) ++ y) = [(61, ⟨.row, cls lc (ls.take (i + 1)) ++ y⟩)] := fun y => by rw [hcs]; rfl
   simp only [hoH, hoH2, oV]
   generalize cls lc (ls.take (i + 1)) = cc at *
   simp (disch := omega) only [Z9, Zh, Bool.not_true, Bool.not_false, Zc, Za, Z4, Z2, Z3, Z0, Zk, Zd, Zi, Zo, Zj, stp, opBox, justO, just, Rd.bind, Rd.run, Rd.opt, upds, acells, zeroCells, tsz, elemT, rdCells, fieldOf, Zb, aLoad, aStore, opStore, fresh, Z6, aNum, Zf, aBin, aInt, putC, evO, Nat.reduceAdd, Nat.reduceMul, Nat.reduceLT, Nat.reduceBEq, Nat.reduceEqDiff, Nat.reduceLeDiff, ↓reduceIte, reduceCtorEq, Ze, Nat.zero_add, Nat.add_zero, ne_eq, List.nil_append, List.getElem?_toArray, ZS, ZR, ZX, ZW, ZM, Z02, ZD, ZA, ZP, ZL, stpT, Rd.foot, writing, Zr, Tr.empty, Zu, apartT, disj, List.isEmpty_nil, List.isEmpty_cons, List.map_nil, Bool.not_false, Bool.not_true, Bool.true_or, Bool.or_true, Bool.or_false, Bool.and_true, Bool.true_and, Bool.and_self, decide_true, decide_false, not_true_eq_false, or_self, ZZ, Z0Q, fo6, fo5, partsOf, fillA, repC, Z0I, aAppend, srcOf, window, Z5, Zl, and_true, true_and, Int.natCast_nonneg, Int.toNat_natCast, aCall, snaps, List.append_nil, Option.map_some, List.elem_cons, List.elem_nil, List.length_cons, List.length_nil, List.getElem?_cons_zero, List.getElem?_cons_succ, List.drop_zero, List.take_succ_cons, List.take_nil, List.set_cons_zero, List.set_cons_succ, Zs, seqN, bindN, regN, Zw, ZU, ZH, ZE, aBuild, List.all_cons, List.all_nil, Nat.le_refl, Int.reduceLE, Int.reduceToNat, Nat.mul_one, Nat.zero_mul, List.not_mem_nil, beq_self_eq_true, Nat.lt_irrefl, Bool.false_eq_true, T_3, T_22, T_62, Z0X, ZO, Z1j, List.all_cons, List.all_nil, List.getD_cons_zero, List.getD_cons_succ, beq_self_eq_true, ZgM, Zd2, ZcY, ZhH, ZgL, Zi9, Zp8, Zlm, Zlr, Zj0, ZiY, Zkc, ZnK, ZfR, ZfJ, Zff, ZfU, ZeI, Zq2, Zgu, Zcw, Zc2, ZeG, Zfi, ZfL, Zez, Zfl, ZpR, Zfh, Zgr, Zg8, Zg4, Zow, Znk, ZmU, ZeR, Zfp, ZeF, ZeW, ZeQ, Zfu, Zg3, Zrh, ZeA, ZfH, Zgt, ZfE, ZrV, Zpe, ZnH, ZoB, ZrI, Zpp, Zpi, ZpZ, Z0hE, ZME, ZOM, ZJc, ZRw, ZHY, ZOV, ZEd, ZVF, Zqi, Zqm, Zoc, Znr, Z0je, ZL9, ZUR, ZDr, Zs0, Zi4, Zhd, g1, hat, hr, hw, heq, hlo, hlen, htl, htk, nm, if_pos, Z09Z (show i + 1 + 1 ≤ 1000000 by omega), ZK (show i + 1 < 1000000 by omega)]
   rcases hb with rfl | ⟨_, _, _, rfl⟩ <;> exact ⟨_, rfl, rfl⟩
theorem Z0ED {C : Callee} (hC : H1C C) {ls : List Ld} {e : Bool} {b : AV} {n : Nat} {z : List AV} (hl : ls.length = n) (hz : z.length = n) (hn : n ≤ 6) (i : Nat) (hi : i < n) {x : Ld} (hx : ls[i]? = some x) (h0 : ldE x ≠ 0) :
   ∃ H', (execA E C (fg 88) 0 156 [] 1000 Z3A) (h1S ls e b n z i) = some (.ret, ([(3, .int .i64 (ldE x)), (2, .ptr 2 0 2)], H')) ∧ hget H' 2 = some ⟨.box, [.nilsl, .nilsl]⟩ := by
 obtain ⟨hrc, hwi⟩ := hC
 have hat := Z1D ZJ hx
 have hr := fun site seen => hrc site seen x
 have hw := fun site seen => hwi site seen x
 have heq := Z0rq x
 have hlen : (cls lc ls).length = n * 5 := by rw [Zv ZJ, hl]
 have g1 : (i : Int) < n := by omega
 have hwl : ics (wiL x) = [.int .i64 (cl 1 9 x.lo), .int .i64 (cl 1 9 x.hi), .int .i64 (cl 0 54 x.due), .int .i64 (cl 0 9 x.rate), .int .i64 (cl 0 20 x.base)] := rfl
 simp only [hwl] at hw heq
 simp only [h1S]
 simp only [lc] at hat hr hw heq
 have o7 := Z0kG (k := 61) (j := 7) (by omega) (cls lc (ls.take i))
 have o8 := Z0kG (k := 61) (j := 8) (by omega) (cls lc (ls.take i))
 have oa := Z0DL (lo := 34) (k := 61) (by omega) (cls lc (ls.take i))
 generalize oH 61 (cls lc (ls.take i)) = Ho at *
 generalize oV 61 5 i = ov at *
 by_cases hB : ldB x = true
 · have hlo : x.lo > x.hi := by
     unfold ldE at h0; rw [if_pos hB] at h0; split at h0
     · assumption
     · simp at h0
   have e7 : ldE x = 7 := by unfold ldE; rw [if_pos hB, if_pos hlo]
   rw [hB] at heq
   rw [e7]
   simp (disch := omega) only [Z01, Z9, ZT, Bool.not_true, Bool.not_false, Zc, Za, Z4, Z2, Z3, Z0, Zd, Zi, Zo, Zj, stp, opBox, justO, just, Rd.bind, Rd.run, Rd.opt, upds, acells, zeroCells, tsz, rdCells, aLoad, aStore, opStore, fresh, Z6, aNum, aBin, aInt, putC, Nat.reduceAdd, Nat.reduceLT, Nat.reduceBEq, Nat.reduceEqDiff, Nat.reduceLeDiff, ↓reduceIte, Ze, Nat.zero_add, Nat.add_zero, List.nil_append, ZS, ZR, ZX, ZW, ZM, Z02, ZD, ZA, ZL, stpT, Rd.foot, writing, Zr, Tr.empty, Zu, apartT, disj, List.isEmpty_nil, List.isEmpty_cons, List.map_nil, Bool.not_false, Bool.not_true, Bool.true_or, Bool.or_true, Bool.or_false, Bool.and_true, Bool.true_and, Bool.and_self, decide_true, partsOf, fillA, Z5, Zl, and_true, true_and, Int.natCast_nonneg, Int.toNat_natCast, aCall, snaps, List.append_nil, Option.map_some, List.elem_cons, List.elem_nil, List.length_cons, List.length_nil, List.getElem?_cons_zero, List.getElem?_cons_succ, List.drop_zero, List.take_succ_cons, List.take_nil, List.set_cons_zero, List.set_cons_succ, Zs, seqN, bindN, regN, Zw, ZU, ZE, aBuild, List.all_cons, List.all_nil, Nat.le_refl, Int.reduceLE, Int.reduceToNat, Nat.mul_one, List.not_mem_nil, beq_self_eq_true, Bool.false_eq_true, T_3, T_22, T_62, ZO, Z1j, List.all_cons, List.all_nil, List.getD_cons_zero, List.getD_cons_succ, beq_self_eq_true, ZgM, Zd2, ZcY, ZhH, ZgL, Zi9, Zp8, Zlm, Zlr, Zj0, ZiY, Zkc, ZnK, ZfR, ZfJ, Zff, ZfU, ZeI, Zq2, Zgu, Zcw, Zc2, ZeG, Zfi, ZfL, Zez, Zfl, ZpR, Zfh, Zgr, Zg8, Zg4, Zow, Znk, ZmU, ZeR, Zfp, ZeF, ZeW, ZeQ, Zfu, Zg3, Zrh, ZeA, ZfH, Zgt, ZfE, ZrV, Zpe, ZnH, ZoB, ZrI, Zpp, Zpi, ZpZ, Zqi, Zqm, Zoc, Znr, Zs0, Zi4, Zhd, g1, hat, hr, hw, heq, hlo, hlen, o7, o8, oa, if_pos]
   exact ⟨_, rfl, rfl⟩
 · have e1 : ldE x = 1 := by unfold ldE; rw [if_neg hB]
   rw [show ldB x = false by simpa using hB] at heq
   rw [e1]
   simp (disch := omega) only [Z01, Z9, ZT, Bool.not_true, Bool.not_false, Zc, Za, Z4, Z2, Z3, Z0, Zd, Zi, Zo, Zj, stp, opBox, justO, just, Rd.bind, Rd.run, Rd.opt, upds, acells, zeroCells, tsz, rdCells, aLoad, aStore, opStore, fresh, Z6, aNum, aBin, aInt, putC, Nat.reduceAdd, Nat.reduceLT, Nat.reduceBEq, Nat.reduceEqDiff, Nat.reduceLeDiff, ↓reduceIte, Ze, decide_eq_true_eq, Nat.zero_add, Nat.add_zero, List.nil_append, ZS, ZR, ZX, ZW, ZM, Z02, ZD, ZA, ZL, stpT, Rd.foot, writing, Zr, Tr.empty, Zu, apartT, disj, List.isEmpty_nil, List.isEmpty_cons, List.map_nil, Bool.not_false, Bool.not_true, Bool.true_or, Bool.or_true, Bool.or_false, Bool.and_true, Bool.true_and, Bool.and_self, decide_true, partsOf, fillA, Z5, Zl, and_true, true_and, Int.natCast_nonneg, Int.toNat_natCast, aCall, snaps, List.append_nil, Option.map_some, List.elem_cons, List.elem_nil, List.length_cons, List.length_nil, List.getElem?_cons_zero, List.getElem?_cons_succ, List.drop_zero, List.take_succ_cons, List.take_nil, List.set_cons_zero, List.set_cons_succ, Zs, seqN, bindN, regN, Zw, ZU, ZE, aBuild, List.all_cons, List.all_nil, Nat.le_refl, Int.reduceLE, Int.reduceToNat, Nat.mul_one, List.not_mem_nil, beq_self_eq_true, Bool.false_eq_true, T_3, T_22, T_62, ZO, Z1j, List.all_cons, List.all_nil, List.getD_cons_zero, List.getD_cons_succ, beq_self_eq_true, ZgM, Zd2, ZcY, ZhH, ZgL, Zi9, Zp8, Zlm, Zlr, Zj0, ZiY, Zkc, ZnK, ZfR, ZfJ, Zff, ZfU, ZeI, Zq2, Zgu, Zcw, Zc2, ZeG, Zfi, ZfL, Zez, Zfl, ZpR, Zfh, Zgr, Zg8, Zg4, Zow, Znk, ZmU, ZeR, Zfp, ZeF, ZeW, ZeQ, Zfu, Zg3, Zrh, ZeA, ZfH, Zgt, ZfE, ZrV, Zpe, ZnH, ZoB, ZrI, Zpp, Zpi, ZpZ, Zqi, Zqm, Zoc, Znr, Zs0, Zi4, Zhd, g1, hat, hr, hw, heq, hlen, o7, o8, oa, if_pos]
   exact ⟨_, rfl, rfl⟩
end Go.AM.YtgfnbmfjbjopkaaDoor
end
noncomputable section
namespace Go.AM.YtgfnbmfjbjopkaaDoor
open Go Go.AM Go.AM.Mule
def tN (p : Pr) : Nat × Nat := (p.1.toNat, p.2.toNat)
def adj (n : Nat) (es : List Pr) : List Nat := (es.map tN).foldl addE (List.replicate n 0)
def prE (n : Nat) (seen : List Pr) (p : Pr) : Int := if min p.1 p.2 < 0 ∨ max p.1 p.2 ≥ n then 2 else if p ∈ seen then 6 else 0
theorem Z0jW {n : Nat} {seen : List Pr} {p : Pr} (h : prE n seen p = 0) : ∃ a b : Nat, p = ((a : Int), (b : Int)) ∧ a < n ∧ b < n ∧ p ∉ seen := by
 unfold prE at h
 split at h
 · simp at h
 · rename_i h1
   split at h
   · simp at h
   · rename_i h2
     obtain ⟨x, y⟩ := p
     simp only at h1
     refine ⟨x.toNat, y.toNat, ?_, by omega, by omega, h2⟩
     have e1 : (x.toNat : Int) = x := by omega
     have e2 : (y.toNat : Int) = y := by omega
     rw [e1, e2]
theorem Z0b9 {n : Nat} : ∀ {es : List (Nat × Nat)} {B : List Nat}, (∀ p ∈ es, p.1 < B.length ∧ p.2 < n) → (∀ x ∈ B, x < 2 ^ n) → ∀ x ∈ es.foldl addE B, x < 2 ^ n
 | [], B, _, h, x, hx => h x hx
 | p :: es, B, he, h, x, hx => by
   refine Z0b9 (es := es) (B := addE B p) (fun q hq => ?_) (fun y hy => ?_) x hx
   · rw [Z9i]; exact he q (by simp [hq])
   · obtain ⟨p1, p2⟩ := he p (by simp)
     rcases List.mem_or_eq_of_mem_set hy with h1 | h1
     · exact h y h1
     · subst h1
       refine Nat.or_lt_two_pow ?_ ?_
       · have : B.getD p.1 0 = B[p.1] := by simp [p1]
         rw [this]; exact h _ (List.getElem_mem p1)
       · rw [Nat.one_shiftLeft]; exact Nat.pow_lt_pow_right (by omega) p2
theorem ZCl : ∀ (es : List (Nat × Nat)) (B : List Nat), (es.foldl addE B).length = B.length
 | [], _ => rfl
 | p :: es, B => by rw [List.foldl_cons, ZCl es, Z9i]
theorem ZaK (n : Nat) (es : List Pr) : (adj n es).length = n := by rw [adj, ZCl, List.length_replicate]
theorem Znd {n : Nat} {es : List Pr} (h : ∀ p ∈ es.map tN, p.1 < n ∧ p.2 < n) : ∀ x ∈ adj n es, x < 2 ^ n := by
 refine Z0b9 (fun p hp => by rw [List.length_replicate]; exact h p hp) (fun x hx => ?_)
 rw [List.eq_of_mem_replicate hx]; exact Nat.two_pow_pos n
theorem Z0r4 (n : Nat) (es : List Pr) (p : Pr) : adj n (es ++ [p]) = addE (adj n es) (tN p) := by simp [adj, List.foldl_append]
abbrev h2H (ls : List Ld) (a b : AV) (n : Nat) (B : List Nat) : AHeap :=
 [(1, ⟨.box, [a, b]⟩), (2, ⟨.box, [.nilsl, .nilsl]⟩), (5, ⟨.box, [.ref 61 0 n n (n * 5) 5 false, .ref 33 0 n n n 1 false]⟩), (33, ⟨.row, ucs B⟩), (61, ⟨.row, cls lc ls⟩)]
abbrev h2S (ls : List Ld) (es : List Pr) (e e2 : Bool) (n : Nat) (i : Nat) : St :=
 ([(67, .int .i64 i), (66, .int .i64 es.length), (65, .imm (cls bc es) es.length e2), (5, .ptr 5 0 2), (4, .int .i64 n), (2, .ptr 2 0 2), (1, .ptr 1 0 2)],
   h2H ls (.imm (cls lc ls) n e) (.imm (cls bc es) es.length e2) n (adj n (es.take i)))
theorem Z0G1 {C : Callee} {ls : List Ld} {es : List Pr} {e e2 : Bool} {n : Nat} (hl : ls.length = n) (hn : n ≤ 6) (hm : es.length ≤ 15) (i : Nat) (hi : i < es.length)
   (hok : ∀ p ∈ (es.take i).map tN, p.1 < n ∧ p.2 < n) {p : Pr} (hx : es[i]? = some p) (h0 : prE n (es.take i) p = 0)
   (hc : ∀ (site : Nat → Nat) seen ex, aBack site true seen (thaw C 79 [.imm (cls bc (es.take i)) i ex, .agg (bc p)] [] 0) = .pure (.bool (decide (p ∈ es.take i)), [])) :
   ∃ s', (execA E C (fg 88) 0 156 [] 1000 Z2u) (h2S ls es e e2 n i) = some (.normal, s') ∧ headA [] s' = h2S ls es e e2 n (i + 1) := by
 obtain ⟨a, b, hp, ha, hb, hnin⟩ := Z0jW h0
 have hat := Z1D Z2U hx
 have ht : es.take (i + 1) = es.take i ++ [p] := by rw [List.take_add_one, hx]; rfl
 have htk := Zht Z2U es i
 have hBl := ZaK n (es.take i)
 have hBb := Znd hok
 have hg := Z2p hBl ha
 have hga : adj n (es.take (i + 1)) = (adj n (es.take i)).set a ((adj n (es.take i)).getD a 0 ||| 1 <<< b) := by
   rw [ht, Z0r4, hp]; rfl
 have hlen : (cls bc es).length = es.length * 2 := Zv Z2U es
 have hba : (adj n (es.take i)).getD a 0 < 64 := by
   have h1 : a < (adj n (es.take i)).length := by omega
   have := lt64 hn (hBb _ (List.getElem_mem h1))
   simpa [h1] using this
 simp only [h2S, h2H, hga]
 rw [show decide (p ∈ es.take i) = false by simpa using hnin] at hc
 generalize adj n (es.take i) = B at *
 subst hp
 simp only [bc] at hat hc
 have hs64 : 1 <<< b < 64 := by
   have : b = 0 ∨ b = 1 ∨ b = 2 ∨ b = 3 ∨ b = 4 ∨ b = 5 := by omega
   rcases this with e | e | e | e | e | e <;> rw [e] <;> decide
 have hshl := Zic (i := b) (by omega)
 have hor := Z0s2 (a := B.getD a 0) (b := 1 <<< b) (by omega) (by omega)
 have hset := Z09T B a (B.getD a 0 ||| 1 <<< b)
 have hat2 := Z5t hg
 have hul : (ucs B).length = n := by rw [Z05, hBl]
 have g1 : (i : Int) < es.length := by omega
 have m1 : ¬ (if (b : Int) < (a : Int) then (b : Int) else (a : Int)) < 0 := by split <;> omega
 have m2 : ¬ (if (b : Int) > (a : Int) then (b : Int) else (a : Int)) ≥ (n : Int) := by split <;> omega
 have m3 : ¬ (if a < b then (b : Int) else (a : Int)) ≥ (n : Int) := by split <;> omega
 have m4 : ¬ (if b < a then (b : Int) else (a : Int)) < 0 := by split <;> omega
 generalize B.getD a 0 = w at *
 generalize 1 <<< b = v at *
 simp (disch := omega) only [Z9, Zh, ↓gd, ZN, Bool.not_true, Bool.not_false, Zc, Za, Z4, Z2, Z3, Z0, Zk, Zd, Zi, Zo, Zj, stp, opPick, opBox, justO, just, Rd.bind, Rd.run, Rd.opt, upds, acells, zeroCells, tsz, rdCells, fieldOf, Zb, aLoad, aStore, opStore, fresh, Z6, aNum, Zf, aMin, aMax, aBin, aInt, putC, Nat.reduceAdd, Nat.reduceLT, Nat.reduceBEq, Nat.reduceEqDiff, Nat.reduceLeDiff, ↓reduceIte, Ze, Nat.zero_add, Nat.add_zero, List.nil_append, ZS, ZR, ZX, ZW, ZM, Z02, ZD, ZA, ZP, ZL, stpT, Rd.foot, writing, Zr, Tr.empty, Zu, apartT, disj, List.isEmpty_nil, List.isEmpty_cons, List.map_nil, List.map_cons, Bool.not_false, Bool.not_true, Bool.true_or, Bool.or_true, Bool.or_false, Bool.and_true, Bool.true_and, Bool.and_self, decide_true, decide_false, partsOf, fillA, window, Z5, Zl, and_true, true_and, Int.natCast_nonneg, Int.ofNat_lt, Int.toNat_natCast, aCall, snaps, List.append_nil, Option.map_some, List.elem_cons, List.elem_nil, List.length_cons, List.length_nil, List.getElem?_cons_zero, List.getElem?_cons_succ, List.drop_zero, List.take_succ_cons, List.take_nil, List.set_cons_zero, List.set_cons_succ, Zs, seqN, bindN, regN, Zw, ZU, Z0a, ZE, aBuild, aSlice, aBounds, bMax, bHigh, bLow, List.all_cons, List.all_nil, Nat.le_refl, Int.reduceLE, Int.reduceToNat, Nat.sub_zero, Nat.mul_one, Nat.zero_mul, List.not_mem_nil, beq_self_eq_true, Bool.false_eq_true, T_3, T_23, T_25, T_64, Z2h, ZO, Z1c, List.all_cons, List.all_nil, List.getD_cons_zero, List.getD_cons_succ, beq_self_eq_true, Zd4, Z5N, Z8C, Zd9, Zed, Zd1, Znx, ZeY, ZfZ, Zg7, Zfq, Zfz, ZeX, ZeM, Zsj, ZeO, Zgj, ZeE, Zg0, Zgy, Zgl, Zfo, Zf1, Zgf, ZfI, Zfy, Zca, Zcu, Zcc, Zc1, ZcD, Zck, ZoO, Zf0, Zfc, Zfa, ZfV, Zpz, Zop, ZoF, Zg2, Zc6, Zxx, Zfb, Zgn, Zgk, Zfj, ZeL, ZfP, ZVt, Z0fq, ZPd, ZMq, ZVv, ZWP, Z0f9, Z0jY, Z0iL, Z0fS, ZrB, Zr8, ZoX, Zod, Z0CQ, Z0or, Z0gI, Z0f4, Z0lr, Z0pJ, Z0nh, Z0rf, Z0pn, Z0mf, Z0pB, Z0o0, Z0nl, Z0n1, Z0kb, Z0iY, ZpF, Znm, ZrN, Z0Eq, Z0lm, Z0lJ, Z0p5, ZpA, ZdH, ZcP, g1, hat, hlen, htk, hc, m3, m4, hshl, hor, hset, hat2, hul, if_pos, ZK (show i < 1000000 by omega)]
 exact ⟨_, rfl, rfl⟩
theorem Z0Ba {C : Callee} {ls : List Ld} {es : List Pr} {e e2 : Bool} {n : Nat} (hl : ls.length = n) (hn : n ≤ 6) (hm : es.length ≤ 15) (i : Nat) (hi : i < es.length) {p : Pr} (hx : es[i]? = some p) (h0 : prE n (es.take i) p ≠ 0)
   (hc : ∀ (site : Nat → Nat) seen ex, aBack site true seen (thaw C 79 [.imm (cls bc (es.take i)) i ex, .agg (bc p)] [] 0) = .pure (.bool (decide (p ∈ es.take i)), [])) :
   ∃ H', (execA E C (fg 88) 0 156 [] 1000 Z2u) (h2S ls es e e2 n i) = some (.ret, ([(3, .int .i64 (prE n (es.take i) p)), (2, .ptr 2 0 2)], H')) ∧ hget H' 2 = some ⟨.box, [.nilsl, .nilsl]⟩ := by
 have hat := Z1D Z2U hx
 have htk := Zht Z2U es i
 have hlen : (cls bc es).length = es.length * 2 := Zv Z2U es
 have hBl := ZaK n (es.take i)
 simp only [h2S, h2H]
 generalize adj n (es.take i) = B at *
 obtain ⟨x, y⟩ := p
 simp only [bc] at hat hc
 have g1 : (i : Int) < es.length := by omega
 have hul : (ucs B).length = n := by rw [Z05, hBl]
 by_cases h1 : min x y < 0
 · have e2 : prE n (es.take i) (x, y) = 2 := by unfold prE; rw [if_pos (by simp only; omega)]
   have m1 : (if y < x then y else x) < 0 := by split <;> omega
   rw [e2]
   simp (disch := omega) only [Z01, Z9, ZT, ↓gd, ZN, Bool.not_false, Zc, Za, Z4, Z2, Z3, Z0, Zk, Zd, Zi, Zo, Zj, stp, opPick, opBox, justO, just, Rd.bind, Rd.run, Rd.opt, upds, acells, zeroCells, tsz, rdCells, fieldOf, Zb, aLoad, aStore, opStore, fresh, Z6, aNum, Zf, aMin, aBin, aInt, putC, Nat.reduceAdd, Nat.reduceLT, Nat.reduceBEq, Nat.reduceEqDiff, Nat.reduceLeDiff, ↓reduceIte, reduceCtorEq, Ze, Nat.zero_add, Nat.add_zero, List.nil_append, ZS, ZM, Z02, ZD, ZA, ZP, ZL, stpT, Rd.foot, List.map_nil, Bool.not_false, Bool.and_self, decide_true, partsOf, fillA, window, Z5, Zl, and_true, true_and, Int.natCast_nonneg, Int.toNat_natCast, aCall, snaps, List.append_nil, Option.map_some, List.elem_cons, List.elem_nil, List.length_cons, List.length_nil, List.getElem?_cons_zero, List.getElem?_cons_succ, List.drop_zero, List.take_succ_cons, List.take_nil, List.set_cons_zero, List.set_cons_succ, Zs, seqN, bindN, regN, Zw, ZU, Z0a, ZE, aBuild, aSlice, aBounds, bMax, bHigh, bLow, Nat.le_refl, Int.reduceLE, Int.reduceToNat, Nat.sub_zero, Nat.mul_one, Nat.zero_mul, List.not_mem_nil, beq_self_eq_true, Bool.false_eq_true, T_3, T_23, T_25, T_64, ZO, beq_self_eq_true, Zd4, Z5N, Z8C, Zd9, Zed, Zd1, Znx, ZeY, ZfZ, Zg7, Zfq, Zfz, ZeX, ZeM, Zsj, ZeO, Zgj, ZeE, Zg0, Zgy, Zgl, Zfo, Zf1, Zgf, ZfI, Zfy, Zca, Zcu, Zcc, Zc1, ZcD, Zck, ZoO, Zf0, Zfc, Zfa, ZfV, Zpz, Zop, ZoF, Zg2, Zc6, Zfb, Zgn, Zgk, Zfj, ZeL, ZfP, ZrB, Zr8, ZoX, Zod, ZpF, Znm, ZrN, ZpA, ZdH, ZcP, g1, hat, hlen, m1, if_pos]
   exact ⟨_, rfl, rfl⟩
 · have m1 : ¬ (if y < x then y else x) < 0 := by split <;> omega
   by_cases h2 : max x y ≥ n
   · have e2 : prE n (es.take i) (x, y) = 2 := by unfold prE; rw [if_pos (by simp only; omega)]
     have m2 : (if y > x then y else x) ≥ (n : Int) := by split <;> omega
     rw [e2]
     simp (disch := omega) only [Z01, Z9, ZT, ↓gd, ZN, Zc, Za, Z4, Z2, Z3, Z0, Zk, Zd, Zi, Zo, Zj, stp, opPick, opBox, justO, just, Rd.bind, Rd.run, Rd.opt, upds, acells, zeroCells, tsz, rdCells, fieldOf, Zb, aLoad, aStore, opStore, fresh, Z6, aNum, Zf, aMin, aMax, aBin, aInt, putC, Nat.reduceAdd, Nat.reduceLT, Nat.reduceBEq, Nat.reduceEqDiff, Nat.reduceLeDiff, ↓reduceIte, Ze, Nat.zero_add, Nat.add_zero, List.nil_append, ZS, ZM, Z02, ZD, ZA, ZP, ZL, stpT, Rd.foot, List.map_nil, Bool.and_self, decide_true, decide_false, partsOf, fillA, window, Z5, Zl, and_true, true_and, Int.natCast_nonneg, Int.toNat_natCast, aCall, snaps, List.append_nil, Option.map_some, List.elem_cons, List.elem_nil, List.length_cons, List.length_nil, List.getElem?_cons_zero, List.getElem?_cons_succ, List.drop_zero, List.take_succ_cons, List.take_nil, List.set_cons_zero, List.set_cons_succ, Zs, seqN, bindN, regN, Zw, ZU, Z0a, ZE, aBuild, aSlice, aBounds, bMax, bHigh, bLow, Nat.le_refl, Int.reduceLE, Int.reduceToNat, Nat.sub_zero, Nat.mul_one, Nat.zero_mul, List.not_mem_nil, beq_self_eq_true, Bool.false_eq_true, T_3, T_23, T_25, T_64, ZO, beq_self_eq_true, Zd4, Z5N, Z8C, Zd9, Zed, Zd1, Znx, ZeY, ZfZ, Zg7, Zfq, Zfz, ZeX, ZeM, Zsj, ZeO, Zgj, ZeE, Zg0, Zgy, Zgl, Zfo, Zf1, Zgf, ZfI, Zfy, Zca, Zcu, Zcc, Zc1, ZcD, Zck, ZoO, Zf0, Zfc, Zfa, ZfV, Zpz, Zop, ZoF, Zg2, Zc6, Zfb, Zgn, Zgk, Zfj, ZeL, ZfP, ZrB, Zr8, ZoX, Zod, ZpF, Znm, ZrN, ZpA, ZdH, ZcP, g1, hat, hlen, m1, m2, if_pos]
     exact ⟨_, rfl, rfl⟩
   · have m2 : ¬ (if y > x then y else x) ≥ (n : Int) := by split <;> omega
     have hin : (x, y) ∈ es.take i := by
       unfold prE at h0
       rw [if_neg (by simp only; omega)] at h0
       split at h0
       · assumption
       · simp at h0
     have e6 : prE n (es.take i) (x, y) = 6 := by unfold prE; rw [if_neg (by simp only; omega), if_pos hin]
     rw [e6]
     rw [show decide ((x, y) ∈ es.take i) = true by simpa using hin] at hc
     simp (disch := omega) only [Z01, Z9, ZT, ↓gd, ZN, Bool.not_true, Bool.not_false, Zc, Za, Z4, Z2, Z3, Z0, Zk, Zd, Zi, Zo, Zj, stp, opPick, opBox, justO, just, Rd.bind, Rd.run, Rd.opt, upds, acells, zeroCells, tsz, rdCells, fieldOf, Zb, aLoad, aStore, opStore, fresh, Z6, aNum, Zf, aMin, aMax, aBin, aInt, putC, Nat.reduceAdd, Nat.reduceLT, Nat.reduceBEq, Nat.reduceEqDiff, Nat.reduceLeDiff, ↓reduceIte, Ze, Nat.zero_add, Nat.add_zero, List.nil_append, ZS, ZR, ZX, ZW, ZM, Z02, ZD, ZA, ZP, ZL, stpT, Rd.foot, writing, Zr, Tr.empty, Zu, apartT, disj, List.isEmpty_nil, List.isEmpty_cons, List.map_nil, Bool.not_false, Bool.not_true, Bool.true_or, Bool.or_true, Bool.or_false, Bool.and_true, Bool.true_and, Bool.and_self, decide_true, decide_false, partsOf, fillA, window, Z5, Zl, and_true, true_and, Int.natCast_nonneg, Int.toNat_natCast, aCall, snaps, List.append_nil, Option.map_some, List.elem_cons, List.elem_nil, List.length_cons, List.length_nil, List.getElem?_cons_zero, List.getElem?_cons_succ, List.drop_zero, List.take_succ_cons, List.take_nil, List.set_cons_zero, List.set_cons_succ, Zs, seqN, bindN, regN, Zw, ZU, Z0a, ZE, aBuild, aSlice, aBounds, bMax, bHigh, bLow, List.all_cons, List.all_nil, Nat.le_refl, Int.reduceLE, Int.reduceToNat, Nat.sub_zero, Nat.mul_one, Nat.zero_mul, List.not_mem_nil, beq_self_eq_true, Bool.false_eq_true, T_3, T_23, T_25, T_64, ZO, List.all_cons, List.all_nil, List.getD_cons_zero, List.getD_cons_succ, beq_self_eq_true, Zd4, Z5N, Z8C, Zd9, Zed, Zd1, Znx, ZeY, ZfZ, Zg7, Zfq, Zfz, ZeX, ZeM, Zsj, ZeO, Zgj, ZeE, Zg0, Zgy, Zgl, Zfo, Zf1, Zgf, ZfI, Zfy, Zca, Zcu, Zcc, Zc1, ZcD, Zck, ZoO, Zf0, Zfc, Zfa, ZfV, Zpz, Zop, ZoF, Zg2, Zc6, Zxx, Zfb, Zgn, Zgk, Zfj, ZeL, ZfP, ZVt, Z0fq, ZPd, ZMq, ZVv, ZWP, Z0f9, Z0jY, Z0iL, Z0fS, ZrB, Zr8, ZoX, Zod, ZpF, Znm, ZrN, ZpA, ZdH, ZcP, g1, hat, hlen, htk, hc, m1, m2, if_pos]
     exact ⟨_, rfl, rfl⟩
end Go.AM.YtgfnbmfjbjopkaaDoor
end
noncomputable section
namespace Go.AM.YtgfnbmfjbjopkaaDoor
open Go Go.AM Go.AM.Mule
theorem Z4W {n : Nat} {B : List Nat} (h : ∀ x ∈ B, x < 2 ^ n) (i : Nat) : B.getD i 0 < 2 ^ n := by
 by_cases hi : i < B.length
 · have : B.getD i 0 = B[i] := by simp [hi]
   rw [this]; exact h _ (List.getElem_mem hi)
 · have : B.getD i 0 = 0 := by simp [hi]
   rw [this]; exact Nat.two_pow_pos n
theorem Z0DJ {n k : Nat} {B : List Nat} (h : ∀ x ∈ B, x < 2 ^ n) (i : Nat) : ∀ x ∈ fwI k B i, x < 2 ^ n := by
 unfold fwI
 split
 · intro x hx
   rcases List.mem_or_eq_of_mem_set hx with h1 | h1
   · exact h x h1
   · subst h1; exact Nat.or_lt_two_pow (Z4W h i) (Z4W h k)
 · exact h
theorem Zv6 {n k : Nat} {B : List Nat} (h : ∀ x ∈ B, x < 2 ^ n) : ∀ m, ∀ x ∈ (List.range m).foldl (fwI k) B, x < 2 ^ n
 | 0 => by simpa using h
 | m + 1 => by rw [List.range_succ, List.foldl_append]; exact Z0DJ (Zv6 h m) m
theorem ZmP {k : Nat} (B : List Nat) : ∀ m, ((List.range m).foldl (fwI k) B).length = B.length
 | 0 => rfl
 | m + 1 => by rw [List.range_succ, List.foldl_append, List.foldl_cons, List.foldl_nil, ZoJ, ZmP B m]
theorem Zi5 {n : Nat} {B : List Nat} (h : ∀ x ∈ B, x < 2 ^ n) (m0 : Nat) : ∀ m, ∀ x ∈ (List.range m).foldl (fwK m0) B, x < 2 ^ n
 | 0 => by simpa using h
 | m + 1 => by rw [List.range_succ, List.foldl_append]; exact Zv6 (Zi5 h m0 m) m0
theorem ZaI (m0 : Nat) (B : List Nat) : ∀ m, ((List.range m).foldl (fwK m0) B).length = B.length
 | 0 => rfl
 | m + 1 => by rw [List.range_succ, List.foldl_append, List.foldl_cons, List.foldl_nil, fwK, ZmP, ZaI m0 B m]
abbrev h3H (ls : List Ld) (n : Nat) (B : List Nat) : AHeap :=
 [(2, ⟨.box, [.nilsl, .nilsl]⟩), (5, ⟨.box, [.ref 61 0 n n (n * 5) 5 false, .ref 33 0 n n n 1 false]⟩), (33, ⟨.row, ucs B⟩), (61, ⟨.row, cls lc ls⟩)]
abbrev h3S (ls : List Ld) (n k : Nat) (B : List Nat) (i : Nat) : St :=
 ([(114, .int .i64 i), (113, .int .i64 n), (110, .int .i64 k), (109, .int .i64 n), (11, .int .i64 k), (5, .ptr 5 0 2), (4, .int .i64 n), (2, .ptr 2 0 2)], h3H ls n B)
theorem Z0G9 {C : Callee} {ls : List Ld} {n k : Nat} {B : List Nat} (hB : B.length = n) (hb : ∀ x ∈ B, x < 2 ^ n) (hn : n ≤ 6) (hk : k < n) (i : Nat) (hi : i < n) :
   ∃ s', (execA E C (fg 88) 0 156 [] 1000 Zaw) (h3S ls n k B i) = some (.normal, s') ∧ headA [] s' = h3S ls n k (fwI k B i) (i + 1) := by
 have gi := Z5t (Z2p hB hi)
 have gk := Z5t (Z2p hB hk)
 have bi := lt64 hn (Z4W hb i)
 have bk' := lt64 hn (Z4W hb k)
 have hul : (ucs B).length = n := by rw [Z05, hB]
 have g1 : (i : Int) < n := by omega
 have g2 : (k : Int) < n := by omega
 have hsh := ZeV (b := B.getD i 0) (i := k) (by omega)
 have hlt := Zb8 (b := B.getD i 0) (i := k) (by omega)
 have ha := Z7o hlt
 have he := ZdC (B.getD i 0) k
 have hor := Z0s2 (a := B.getD i 0) (b := B.getD k 0) (by omega) (by omega)
 have hset := Z09T B i (B.getD i 0 ||| B.getD k 0)
 simp only [h3S, h3H]
 by_cases hbit : bit B i k = true
 · have e : fwI k B i = B.set i (B.getD i 0 ||| B.getD k 0) := by unfold fwI; rw [if_pos hbit]
   have hb2 : (B.getD i 0).testBit k = true := hbit
   rw [e]
   generalize B.getD i 0 = x at *
   generalize B.getD k 0 = y at *
   simp (disch := omega) only [Z9, Zh, Bool.not_true, Bool.not_false, Zc, Za, Z4, Z2, Z3, Z0, Zd, Zi, Zo, Zj, stp, just, Rd.bind, Rd.run, Rd.opt, upds, acells, tsz, rdCells, fieldOf, Zb, aLoad, aStore, opStore, Z6, aNum, aBin, aInt, putC, Nat.reduceAdd, Nat.reduceLT, Nat.reduceBEq, Nat.reduceEqDiff, Nat.reduceLeDiff, ↓reduceIte, Ze, Nat.zero_add, beq_iff_eq, List.nil_append, ZS, ZR, ZX, ZW, ZM, Z02, ZD, ZA, ZP, ZL, stpT, Rd.foot, writing, Zr, Tr.empty, Zu, apartT, disj, List.isEmpty_nil, List.isEmpty_cons, List.map_nil, List.map_cons, Bool.not_false, Bool.not_true, Bool.true_or, Bool.or_true, Bool.or_false, Bool.and_true, Bool.true_and, Bool.and_self, decide_true, Z5, Zl, and_true, true_and, Int.natCast_nonneg, Int.toNat_natCast, snaps, List.append_nil, List.elem_cons, List.elem_nil, List.length_cons, List.length_nil, List.getElem?_cons_zero, List.getElem?_cons_succ, Zs, seqN, bindN, regN, Zw, List.all_cons, List.all_nil, Nat.le_refl, Nat.mul_one, List.not_mem_nil, beq_self_eq_true, Bool.false_eq_true, Z2h, ZO, Z1c, List.all_cons, List.all_nil, List.getD_cons_zero, List.getD_cons_succ, beq_self_eq_true, ZsJ, ZmM, Zmh, ZvF, ZtI, ZwP, Z0cv, ZVp, ZTt, ZGp, Z02a, ZJX, ZEz, ZIg, ZKl, ZDq, ZW2, ZMI, ZKc, ZPD, ZJr, Z05f, ZMs, ZyX, Z0fA, ZDZ, ZUm, ZTl, ZFP, ZJF, ZMA, ZFk, ZQk, ZOR, ZCV, ZyY, ZxX, Zxr, Z011, ZZA, Z07Z, Z067, ZYV, Z005, ZL8, ZU1, ZUB, Z0c1, Zw6, ZsF, g1, g2, gi, gk, hul, hsh, ha, he, hor, hset, hb2, if_pos, ZK (show i < 1000000 by omega)]
   exact ⟨_, rfl, rfl⟩
 · have e : fwI k B i = B := by unfold fwI; rw [if_neg hbit]
   have hb2 : (B.getD i 0).testBit k = false := by simpa [bit] using hbit
   rw [e]
   generalize B.getD i 0 = x at *
   generalize B.getD k 0 = y at *
   simp (disch := omega) only [Z9, Zh, Zc, Za, Z4, Z2, Z3, Z0, Zd, Zo, Zj, stp, just, Rd.bind, Rd.run, Rd.opt, upds, acells, tsz, rdCells, fieldOf, Zb, aLoad, aStore, opStore, Z6, aNum, aBin, aInt, Nat.reduceAdd, Nat.reduceLT, Nat.reduceBEq, Nat.reduceEqDiff, Nat.reduceLeDiff, ↓reduceIte, Ze, Nat.zero_add, beq_iff_eq, ZS, ZM, Z02, ZD, ZA, ZP, ZL, stpT, Rd.foot, List.map_nil, Bool.and_self, decide_true, Z5, Zl, and_true, Int.natCast_nonneg, Int.toNat_natCast, List.elem_cons, List.elem_nil, List.length_cons, List.length_nil, List.getElem?_cons_zero, List.getElem?_cons_succ, seqN, bindN, regN, Nat.le_refl, Nat.mul_one, beq_self_eq_true, Bool.false_eq_true, Z2h, ZO, Z1c, beq_self_eq_true, ZsJ, ZmM, Zmh, ZvF, ZtI, ZwP, Z0cv, ZVp, ZTt, ZGp, Z02a, ZJX, ZEz, ZIg, ZKl, ZDq, ZW2, ZMI, ZKc, ZPD, ZJr, Z05f, ZMs, ZyX, ZDZ, ZUm, ZTl, ZFP, ZJF, ZMA, ZFk, ZQk, ZOR, ZCV, ZyY, ZxX, Zxr, Z011, ZZA, Z07Z, Z067, ZYV, Z005, ZL8, ZU1, ZUB, Z0c1, Zw6, ZsF, g1, g2, gi, gk, hul, hsh, ha, he, hb2, ZK (show i < 1000000 by omega)]
   exact ⟨_, rfl, rfl⟩
abbrev h4S (ls : List Ld) (n : Nat) (B : List Nat) (k : Nat) : St :=
 ([(110, .int .i64 k), (109, .int .i64 n), (5, .ptr 5 0 2), (4, .int .i64 n), (2, .ptr 2 0 2)], h3H ls n B)
theorem Z0GO {C : Callee} {ls : List Ld} {n k : Nat} {B : List Nat} (hB : B.length = n) (hb : ∀ x ∈ B, x < 2 ^ n) (hn : n ≤ 6) (hk : k < n) :
   ∃ s', (execA E C (fg 88) 0 156 [] 1000 Zew) (h4S ls n B k) = some (.normal, s') ∧ headA [] s' = h4S ls n (fwK n B k) (k + 1) := by
 have hloop := loopN (f := (execA E C (fg 88) 0 156 [] 1000 Zaw)) (fun i => h3S ls n k ((List.range i).foldl (fwI k) B) i) n (fun i hi => by
     have := Z0G9 (C := C) (ls := ls) (k := k) (B := (List.range i).foldl (fwI k) B) (by rw [ZmP, hB]) (Zv6 hb i) hn hk i hi
     rw [List.range_succ, List.foldl_append]; exact this) rfl (by omega)
   (e := .exit 9) (se := ([(115, .bool false), (114, .int .i64 n), (113, .int .i64 n), (110, .int .i64 k), (109, .int .i64 n), (11, .int .i64 k), (5, .ptr 5 0 2), (4, .int .i64 n), (2, .ptr 2 0 2)], h3H ls n (fwK n B k)))
   (by
     rw [show (List.range n).foldl (fwI k) B = fwK n B k from rfl]
     simp (disch := omega) only [ZG, Z9, Zc, Za, Z4, Z2, Z3, Z0, Zo, stp, just, Rd.bind, Rd.run, Rd.opt, upds, aBin, aInt, Nat.reduceEqDiff, Nat.reduceLeDiff, ↓reduceIte, decide_false, Z5, List.elem_nil, seqN, bindN, regN, Int.lt_irrefl, Bool.false_eq_true, ZsJ, ZmM, Zmh, ZvF, ZtI, ZwP, Zw6, ZsF, h3S]) (by simp)
 simp only [h3S, h3H, List.range_zero, List.foldl_nil, cl0] at hloop
 have g1 : (k : Int) < n := by omega
 simp only [h4S, h3H]
 generalize fwK n B k = B2 at *
 simp (disch := omega) only [Z9, Zz, Zh, Zc, Za, Z4, Z2, Z3, Z0, Zo, Zj, stp, just, Rd.bind, Rd.run, Rd.opt, upds, aBin, aInt, Nat.reduceBEq, Nat.reduceEqDiff, Nat.reduceLeDiff, ↓reduceIte, decide_true, Z5, List.elem_cons, List.elem_nil, seqN, bindN, regN, beq_self_eq_true, Bool.false_eq_true, beq_self_eq_true, Z0fD, ZUN, ZPo, Z0hn, Z0gm, Z0hQ, Z0uW, Z0r9, Z0lw, Z0pI, Z0z8, Z0ob, Z0qy, Z0pO, Z0xU, Z0wS, Z0sf, Z0AD, Z0Ca, Z0wR, Z0nq, Z0qK, Z0pX, Z0EE, Z0k6, Z0gc, g1, hloop, ZK (show k < 1000000 by omega)]
 exact ⟨_, rfl, rfl⟩
abbrev h5S (ls : List Ld) (n : Nat) (B : List Nat) (i : Nat) : St :=
 ([(143, .int .i64 i), (142, .int .i64 n), (141, .ref 33 0 n n n 1 false), (5, .ptr 5 0 2), (2, .ptr 2 0 2)], h3H ls n B)
theorem Z0HQ {C : Callee} {ls : List Ld} {n : Nat} {B : List Nat} (hB : B.length = n) (hb : ∀ x ∈ B, x < 2 ^ n) (hn : n ≤ 6) (i : Nat) (hi : i < n) (h0 : bit B i i = false) :
   ∃ s', (execA E C (fg 88) 0 156 [] 1000 Z2w) (h5S ls n B i) = some (.normal, s') ∧ headA [] s' = h5S ls n B (i + 1) := by
 have gi := Z5t (Z2p hB hi)
 have bi := lt64 hn (Z4W hb i)
 have hul : (ucs B).length = n := by rw [Z05, hB]
 have g1 : (i : Int) < n := by omega
 have hsh := ZeV (b := B.getD i 0) (i := i) (by omega)
 have hlt := Zb8 (b := B.getD i 0) (i := i) (by omega)
 have ha := Z7o hlt
 have he := ZdC (B.getD i 0) i
 have hb2 : (B.getD i 0).testBit i = false := h0
 simp only [h5S, h3H]
 generalize B.getD i 0 = x at *
 simp (disch := omega) only [Z9, Zh, Zc, Za, Z4, Z2, Z3, Z0, Zd, Zi, Zo, Zj, stp, justO, just, Rd.bind, Rd.run, Rd.opt, upds, acells, tsz, rdCells, aLoad, aStore, opStore, Z6, aNum, aBin, aInt, putC, Nat.reduceAdd, Nat.reduceLT, Nat.reduceBEq, Nat.reduceEqDiff, Nat.reduceLeDiff, ↓reduceIte, Ze, Nat.zero_add, beq_iff_eq, List.nil_append, decide_true, partsOf, fillA, Z5, Zl, and_true, Int.natCast_nonneg, Int.toNat_natCast, snaps, List.append_nil, Option.map_some, List.elem_cons, List.elem_nil, List.length_cons, List.length_nil, List.set_cons_zero, List.set_cons_succ, Zs, seqN, bindN, regN, ZU, aBuild, Nat.le_refl, Nat.mul_one, List.not_mem_nil, beq_self_eq_true, Bool.false_eq_true, Z2h, ZO, Z1c, beq_self_eq_true, ZvG, ZmG, ZmI, ZvP, ZvX, ZtZ, Z0a9, ZQz, ZIz, ZCs, ZFc, ZJ1, ZMm, Z00K, ZDx, ZMH, ZXi, ZJ5, ZOf, ZX0, Z0c3, ZTO, ZLm, ZR8, ZHq, Z01z, Z095, Z0ad, Z09S, Z093, Z05g, ZYl, Z0A7, Z0oI, Z0qZ, Z0p9, Z03x, ZwB, ZtM, g1, gi, hul, hsh, ha, he, hb2, ZK (show i < 1000000 by omega)]
 exact ⟨_, rfl, rfl⟩
theorem Z0D0 {C : Callee} {ls : List Ld} {n : Nat} {B : List Nat} (hB : B.length = n) (hb : ∀ x ∈ B, x < 2 ^ n) (hn : n ≤ 6) (i : Nat) (hi : i < n) (h0 : bit B i i = true) :
   ∃ H', (execA E C (fg 88) 0 156 [] 1000 Z2w) (h5S ls n B i) = some (.ret, ([(3, .int .i64 13), (2, .ptr 2 0 2)], H')) ∧ hget H' 2 = some ⟨.box, [.nilsl, .nilsl]⟩ := by
 have gi := Z5t (Z2p hB hi)
 have bi := lt64 hn (Z4W hb i)
 have hul : (ucs B).length = n := by rw [Z05, hB]
 have g1 : (i : Int) < n := by omega
 have hsh := ZeV (b := B.getD i 0) (i := i) (by omega)
 have hlt := Zb8 (b := B.getD i 0) (i := i) (by omega)
 have ha := Z7o hlt
 have he := ZdC (B.getD i 0) i
 have hb2 : (B.getD i 0).testBit i = true := h0
 simp only [h5S, h3H]
 generalize B.getD i 0 = x at *
 simp (disch := omega) only [Z01, Z9, ZT, Zc, Za, Z4, Z2, Z3, Z0, Zd, Zi, Zo, Zj, stp, justO, just, Rd.bind, Rd.run, Rd.opt, upds, acells, tsz, rdCells, aLoad, aStore, opStore, Z6, aNum, aBin, aInt, putC, Nat.reduceAdd, Nat.reduceLT, Nat.reduceBEq, Nat.reduceEqDiff, Nat.reduceLeDiff, ↓reduceIte, Ze, Nat.zero_add, beq_iff_eq, List.nil_append, decide_true, partsOf, fillA, Z5, Zl, and_true, Int.natCast_nonneg, Int.toNat_natCast, snaps, List.append_nil, Option.map_some, List.elem_cons, List.elem_nil, List.length_cons, List.length_nil, List.set_cons_zero, List.set_cons_succ, Zs, seqN, bindN, regN, ZU, aBuild, Nat.le_refl, Nat.mul_one, List.not_mem_nil, beq_self_eq_true, Bool.false_eq_true, Z2h, ZO, Z1c, beq_self_eq_true, ZvG, ZmG, ZmI, ZvP, ZvX, ZtZ, Z0a9, ZQz, ZIz, ZCs, ZFc, ZJ1, ZMm, Z00K, ZDx, ZMH, ZXi, ZJ5, ZOf, ZX0, Z0c3, ZTO, ZLm, ZR8, ZHq, Z01z, Z095, Z0ad, Z09S, Z093, Z05g, ZYl, Z03x, ZwB, ZtM, g1, gi, hul, hsh, ha, he, hb2]
 exact ⟨_, rfl, rfl⟩
end Go.AM.YtgfnbmfjbjopkaaDoor
end
noncomputable section
namespace Go.AM.YtgfnbmfjbjopkaaDoor
open Go Go.AM Go.AM.Mule
theorem Z09 {α : Type} [Inhabited α] {l : List α} {i : Nat} (h : i < l.length) : l[i]? = some (l.getD i default) := by
 rw [List.getElem?_eq_getElem h]; simp [h]
def fst1 (m : Nat) (p : Nat → Bool) : Nat := (List.range m).findIdx p
theorem Zec (m : Nat) (p : Nat → Bool) : fst1 m p ≤ m := by
 have := List.findIdx_le_length (xs := List.range m) (p := p)
 rwa [List.length_range] at this
theorem Z73 {m : Nat} {p : Nat → Bool} {i : Nat} (h : i < fst1 m p) : p i = false := by
 have := List.not_of_lt_findIdx h
 simpa using this
theorem Z6r {m : Nat} {p : Nat → Bool} (h : fst1 m p < m) : p (fst1 m p) = true := by
 have := List.findIdx_getElem (xs := List.range m) (p := p) (w := by rw [List.length_range]; exact h)
 rw [List.getElem_range] at this
 exact this
def firstE (m : Nat) (e : Nat → Int) : Int := if fst1 m (fun i => e i != 0) < m then e (fst1 m fun i => e i != 0) else 0
theorem Z11 {m : Nat} {e : Nat → Int} : firstE m e = 0 ↔ ∀ i, i < m → e i = 0 := by
 unfold firstE
 split
 · rename_i h
   have := Z6r h
   constructor
   · intro h2; rw [h2] at this; simp at this
   · intro h2; exact h2 _ h
 · rename_i h
   have := Zec m (fun i => e i != 0)
   refine ⟨fun _ i hi => ?_, fun _ => rfl⟩
   have := Z73 (m := m) (p := fun i => e i != 0) (i := i) (by omega)
   simpa using this
def ldsE (ls : List Ld) : Int := firstE ls.length fun i => ldE (ls.getD i default)
def prsE (n : Nat) (es : List Pr) : Int := firstE es.length fun i => prE n (es.take i) (es.getD i default)
def sets (n : Nat) (es : List Pr) : List Nat := fw n (adj n es)
def clashB (n : Nat) (B : List Nat) : Bool := (List.range n).any fun i => bit B i i
def chk (ls : List Ld) (es : List Pr) : Int :=
 if ls.length = 0 then 4 else if 6 < ls.length ∨ 15 < es.length then 3 else if ldsE ls ≠ 0 then ldsE ls else if prsE ls.length es ≠ 0 then prsE ls.length es else if clashB ls.length (sets ls.length es) = true then 13 else 0
theorem ZEH (n : Nat) (p : Nat → Bool) : (List.range n).any p = decide (fst1 n p < n) := by
 have h := List.findIdx_lt_length (xs := List.range n) (p := p)
 rw [List.length_range] at h
 rw [Bool.eq_iff_iff, decide_eq_true_eq, fst1, h, List.any_eq_true]
theorem Zox {n : Nat} {es : List Pr} (h : prsE n es = 0) : ∀ p ∈ es.map tN, p.1 < n ∧ p.2 < n := by
 intro q hq
 obtain ⟨p, hp, rfl⟩ := List.mem_map.1 hq
 obtain ⟨i, hi, e⟩ := List.mem_iff_getElem.1 hp
 have := Z11.1 h i hi
 have hg : es.getD i default = p := by rw [← e]; simp [hi]
 rw [hg] at this
 obtain ⟨a, b, rfl, h1, h2, _⟩ := Z0jW this
 exact ⟨by simpa [tN] using h1, by simpa [tN] using h2⟩
theorem Z0ll {n : Nat} {es : List Pr} {k : Nat} (hk : k ≤ es.length) (h : ∀ i, i < k → prE n (es.take i) (es.getD i default) = 0) : ∀ p ∈ (es.take k).map tN, p.1 < n ∧ p.2 < n := by
 refine Zox (es := es.take k) (Z11.2 fun i hi => ?_)
 rw [List.length_take] at hi
 have := h i (by omega)
 rw [List.take_take, Nat.min_eq_left (by omega)]
 have e : (es.take k).getD i default = es.getD i default := by
   simp only [List.getD_eq_getElem?_getD, List.getElem?_take, if_pos (show i < k by omega)]
 rwa [e]
theorem Z0fp {ls : List Ld} {es : List Pr} (h : chk ls es = 0) : 0 < ls.length ∧ ls.length ≤ 6 ∧ es.length ≤ 15 ∧ ldsE ls = 0 ∧ prsE ls.length es = 0 ∧ clashB ls.length (sets ls.length es) = false := by
 unfold chk at h
 split at h
 · simp at h
 · rename_i h1
   split at h
   · simp at h
   · rename_i h2
     split at h
     · rename_i h3; exact absurd h h3
     · rename_i h3
       split at h
       · rename_i h4; exact absurd h h4
       · rename_i h4
         split at h
         · simp at h
         · rename_i h5
           exact ⟨by omega, by omega, by omega, by simpa using h3, by simpa using h4, by simpa using h5⟩
theorem Z1x {ls : List Ld} {es : List Pr} (h : chk ls es = 0) : TrOk ls (sets ls.length es) ls.length ∧ Ord (bit (sets ls.length es)) ∧ (∀ a b, bit (sets ls.length es) a b = true ↔ Mule.Reach (es.map tN) a b) ∧ ∀ p ∈ es.map tN, p.1 < ls.length ∧ p.2 < ls.length := by
 obtain ⟨h1, h2, h3, h4, h5, h6⟩ := Z0fp h
 have hp := Zox h5
 obtain ⟨c1, c2⟩ := Z9j hp
 have e : sets ls.length es = closed ls.length (es.map tN) := rfl
 rw [e]
 refine ⟨⟨h1, h2, rfl, c1, fun x hx => ?_, fun x hx => Zi5 (Znd hp) _ _ x hx⟩, ⟨fun i => ?_, fun i j k a b => ?_⟩, c2, hp⟩
 · obtain ⟨i, hi, e⟩ := List.mem_iff_getElem.1 hx
   have := Z11.1 h4 i hi
   have hg : ls.getD i default = x := by rw [← e]; simp [hi]
   rw [hg] at this
   unfold ldE at this
   split at this
   · rename_i hB; exact Z0fZ.1 hB
   · simp at this
 · cases hb : bit (closed ls.length (es.map tN)) i i with
   | false => rfl
   | true =>
     have hlt := (Z0lY hp ((c2 i i).1 hb)).1
     rw [e] at h6
     have : clashB ls.length (closed ls.length (es.map tN)) = true := List.any_eq_true.2 ⟨i, List.mem_range.2 hlt, hb⟩
     rw [h6] at this
     exact absurd this (by simp)
 · exact (c2 _ _).2 (((c2 _ _).1 a).trans ((c2 _ _).1 b))
structure HaC (C : Callee) : Prop where
 rw_ : H1C C
 pin : ∀ (site : Nat → Nat) seen ex (l : List Pr) (q : Pr), l.length < 900 → aBack site true seen (thaw C 79 [.imm (cls bc l) l.length ex, .agg (bc q)] [] 0) = .pure (.bool (decide (q ∈ l)), [])
theorem haC (d : Nat) : HaC (callA E fg 1000 (d + 2)) := ⟨⟨fun _ _ _ => Z0on, fun _ _ _ => ZXC⟩, fun _ _ _ _ _ h => Z0oE h⟩
theorem Z0Eb {C : Callee} (hC : H1C C) {ls : List Ld} {e : Bool} {b : AV} {n : Nat} {z : List AV} (hl : ls.length = n) (hz : z.length = n) (hn : n ≤ 6) (hn0 : 0 < n) (hb : b = .nilsl ∨ ∃ c m ex, b = .imm c m ex) :
   (ldsE ls ≠ 0 ∧ ∃ H', iterA (execA E C (fg 88) 0 156 [] 1000 Z3A) (headA []) 1000 (h1S ls e b n z 0) = some (.ret, ([(3, .int .i64 (ldsE ls)), (2, .ptr 2 0 2)], H')) ∧ hget H' 2 = some ⟨.box, [.nilsl, .nilsl]⟩) ∨
   (ldsE ls = 0 ∧ iterA (execA E C (fg 88) 0 156 [] 1000 Z3A) (headA []) 1000 (h1S ls e b n z 0) = some (.exit 1, ([(39, .bool false), (38, .int .i64 n), (37, .int .i64 n), (36, .imm (cls lc ls) n e), (5, .ptr 5 0 2), (4, .int .i64 n), (2, .ptr 2 0 2), (1, .ptr 1 0 2)],
     [(1, ⟨.box, [.imm (cls lc ls) n e, b]⟩), (2, ⟨.box, [.nilsl, .nilsl]⟩), (5, ⟨.box, [.ref 61 0 n n (n * 5) 5 false, .ref 33 0 n n n 1 false]⟩), (33, ⟨.row, z⟩), (61, ⟨.row, cls lc ls⟩)]))) := by
 have hle := Zec ls.length (fun i => ldE (ls.getD i default) != 0)
 have hround : ∀ i, i < fst1 ls.length (fun i => ldE (ls.getD i default) != 0) → ∃ s', (execA E C (fg 88) 0 156 [] 1000 Z3A) (h1S ls e b n z i) = some (.normal, s') ∧ headA [] s' = h1S ls e b n z (i + 1) := by
   intro i hi
   refine Z0H4 hC hl hz hn hb i (by omega) fun l hx => ?_
   have := Z73 hi
   simp only [List.getD_eq_getElem?_getD, hx, Option.getD_some] at this
   simpa using this
 have h0 : headA [] (h1S ls e b n z 0) = h1S ls e b n z 0 := by
   rcases hb with rfl | ⟨_, _, _, rfl⟩ <;> rfl
 by_cases hlt : fst1 ls.length (fun i => ldE (ls.getD i default) != 0) < ls.length
 · have hat := Z6r hlt
   have hE : ldsE ls = ldE (ls.getD (fst1 ls.length fun i => ldE (ls.getD i default) != 0) default) := by
     unfold ldsE firstE; rw [if_pos hlt]
   have hx : ls[fst1 ls.length fun i => ldE (ls.getD i default) != 0]? = some (ls.getD (fst1 ls.length fun i => ldE (ls.getD i default) != 0) default) := Z09 hlt
   have hne : ldE (ls.getD (fst1 ls.length fun i => ldE (ls.getD i default) != 0) default) ≠ 0 := by simpa using hat
   obtain ⟨H', b1, b2⟩ := Z0ED hC (e := e) (b := b) hl hz hn _ (by omega) hx hne
   refine .inl ⟨by rw [hE]; exact hne, H', ?_, b2⟩
   rw [hE]
   exact loopN (f := (execA E C (fg 88) 0 156 [] 1000 Z3A)) (fun i => h1S ls e b n z i) _ hround h0 (by omega) b1 (by simp)
 · have hE : ldsE ls = 0 := by unfold ldsE firstE; rw [if_neg hlt]
   have e1 : fst1 ls.length (fun i => ldE (ls.getD i default) != 0) = n := by omega
   rw [e1] at hround
   refine .inr ⟨hE, loopN (f := (execA E C (fg 88) 0 156 [] 1000 Z3A)) (fun i => h1S ls e b n z i) n hround h0 (by omega) ?_ (by simp)⟩
   have t : ls.take n = ls := List.take_of_length_le (by omega)
   have oo : oH 61 (cls lc ls) = [(61, ⟨.row, cls lc ls⟩)] := Zfg 61 (by rw [Zv ZJ]; omega)
   have ov : oV 61 5 n = .ref 61 0 n n (n * 5) 5 false := by
     cases n with
     | zero => omega
     | succ n => rfl
   simp only [h1S, t, oo, ov]
   simp (disch := omega) only [ZG, Z9, Zc, Za, Z4, Z2, Z3, Z0, Zo, stp, just, Rd.bind, Rd.run, Rd.opt, upds, aBin, aInt, Nat.reduceEqDiff, Nat.reduceLeDiff, ↓reduceIte, decide_false, Z5, List.elem_nil, seqN, bindN, regN, Int.lt_irrefl, Bool.false_eq_true, ZgM, Zd2, ZcY, ZhH, ZgL, Zi9, Zi4, Zhd]
theorem Z0C7 {C : Callee} (hC : HaC C) {ls : List Ld} {es : List Pr} {e e2 : Bool} {n : Nat} (hl : ls.length = n) (hn : n ≤ 6) (hm : es.length ≤ 15) :
   (prsE n es ≠ 0 ∧ ∃ H', iterA (execA E C (fg 88) 0 156 [] 1000 Z2u) (headA []) 1000 (h2S ls es e e2 n 0) = some (.ret, ([(3, .int .i64 (prsE n es)), (2, .ptr 2 0 2)], H')) ∧ hget H' 2 = some ⟨.box, [.nilsl, .nilsl]⟩) ∨
   (prsE n es = 0 ∧ iterA (execA E C (fg 88) 0 156 [] 1000 Z2u) (headA []) 1000 (h2S ls es e e2 n 0) = some (.exit 4, ([(68, .bool false), (67, .int .i64 es.length), (66, .int .i64 es.length), (65, .imm (cls bc es) es.length e2), (5, .ptr 5 0 2), (4, .int .i64 n), (2, .ptr 2 0 2), (1, .ptr 1 0 2)],
     h2H ls (.imm (cls lc ls) n e) (.imm (cls bc es) es.length e2) n (adj n es)))) := by
 have hle := Zec es.length (fun i => prE n (es.take i) (es.getD i default) != 0)
 have hz : ∀ i, i < fst1 es.length (fun i => prE n (es.take i) (es.getD i default) != 0) → prE n (es.take i) (es.getD i default) = 0 := fun i hi => by simpa using Z73 hi
 have hcall : ∀ i, i ≤ es.length → ∀ (site : Nat → Nat) seen ex (p : Pr), aBack site true seen (thaw C 79 [.imm (cls bc (es.take i)) i ex, .agg (bc p)] [] 0) = .pure (.bool (decide (p ∈ es.take i)), []) := by
   intro i hi site seen ex p
   have := hC.pin site seen ex (es.take i) p (by rw [List.length_take]; omega)
   rwa [List.length_take, Nat.min_eq_left hi] at this
 have hround : ∀ i, i < fst1 es.length (fun i => prE n (es.take i) (es.getD i default) != 0) → ∃ s', (execA E C (fg 88) 0 156 [] 1000 Z2u) (h2S ls es e e2 n i) = some (.normal, s') ∧ headA [] s' = h2S ls es e e2 n (i + 1) := by
   intro i hi
   have hx : es[i]? = some (es.getD i default) := Z09 (by omega)
   exact Z0G1 hl hn hm i (by omega) (Z0ll (by omega) fun j hj => hz j (by omega)) hx (hz i hi) fun site seen ex => hcall i (by omega) site seen ex _
 by_cases hlt : fst1 es.length (fun i => prE n (es.take i) (es.getD i default) != 0) < es.length
 · have hat := Z6r hlt
   have hE : prsE n es = prE n (es.take (fst1 es.length fun i => prE n (es.take i) (es.getD i default) != 0)) (es.getD (fst1 es.length fun i => prE n (es.take i) (es.getD i default) != 0) default) := by
     unfold prsE firstE; rw [if_pos hlt]
   generalize fst1 es.length (fun i => prE n (es.take i) (es.getD i default) != 0) = k at *
   have hx : es[k]? = some (es.getD k default) := Z09 hlt
   have hne : prE n (es.take k) (es.getD k default) ≠ 0 := by simpa using hat
   obtain ⟨H', b1, b2⟩ := Z0Ba (C := C) (e := e) (e2 := e2) hl hn hm k hlt hx hne fun site seen ex => hcall k (by omega) site seen ex _
   refine .inl ⟨by rw [hE]; exact hne, H', ?_, b2⟩
   rw [hE]
   exact loopN (f := (execA E C (fg 88) 0 156 [] 1000 Z2u)) (fun i => h2S ls es e e2 n i) _ hround rfl (by omega) b1 (by simp)
 · have hE : prsE n es = 0 := by unfold prsE firstE; rw [if_neg hlt]
   have e1 : fst1 es.length (fun i => prE n (es.take i) (es.getD i default) != 0) = es.length := by omega
   rw [e1] at hround
   refine .inr ⟨hE, loopN (f := (execA E C (fg 88) 0 156 [] 1000 Z2u)) (fun i => h2S ls es e e2 n i) es.length hround rfl (by omega) ?_ (by simp)⟩
   simp only [h2S, List.take_length]
   simp (disch := omega) only [ZG, Z9, Zc, Za, Z4, Z2, Z3, Z0, Zo, stp, just, Rd.bind, Rd.run, Rd.opt, upds, aBin, aInt, Nat.reduceEqDiff, Nat.reduceLeDiff, ↓reduceIte, decide_false, Z5, List.elem_nil, seqN, bindN, regN, Int.lt_irrefl, Bool.false_eq_true, Zd4, Z5N, Z8C, Zd9, Zed, Zd1, ZdH, ZcP]
theorem Z0g7 {C : Callee} {ls : List Ld} {n : Nat} {B : List Nat} (hB : B.length = n) (hb : ∀ x ∈ B, x < 2 ^ n) (hn : n ≤ 6) :
   (clashB n B = true ∧ ∃ H', iterA (execA E C (fg 88) 0 156 [] 1000 Z2w) (headA []) 1000 (h5S ls n B 0) = some (.ret, ([(3, .int .i64 13), (2, .ptr 2 0 2)], H')) ∧ hget H' 2 = some ⟨.box, [.nilsl, .nilsl]⟩) ∨
   (clashB n B = false ∧ iterA (execA E C (fg 88) 0 156 [] 1000 Z2w) (headA []) 1000 (h5S ls n B 0) = some (.exit 11, ([(144, .bool false), (143, .int .i64 n), (142, .int .i64 n), (141, .ref 33 0 n n n 1 false), (5, .ptr 5 0 2), (2, .ptr 2 0 2)], h3H ls n B))) := by
 have hle := Zec n (fun i => bit B i i)
 have hround : ∀ i, i < fst1 n (fun i => bit B i i) → ∃ s', (execA E C (fg 88) 0 156 [] 1000 Z2w) (h5S ls n B i) = some (.normal, s') ∧ headA [] s' = h5S ls n B (i + 1) := fun i hi => Z0HQ hB hb hn i (by omega) (Z73 (p := fun i => bit B i i) hi)
 have ha := ZEH n (fun i => bit B i i)
 by_cases hlt : fst1 n (fun i => bit B i i) < n
 · have hat := Z6r hlt
   obtain ⟨H', b1, b2⟩ := Z0D0 (C := C) (ls := ls) hB hb hn _ hlt hat
   refine .inl ⟨by unfold clashB; rw [ha]; exact decide_eq_true hlt, H', ?_, b2⟩
   exact loopN (f := (execA E C (fg 88) 0 156 [] 1000 Z2w)) (fun i => h5S ls n B i) _ hround rfl (by omega) b1 (by simp)
 · have e1 : fst1 n (fun i => bit B i i) = n := by omega
   rw [e1] at hround
   refine .inr ⟨by unfold clashB; rw [ha]; exact decide_eq_false hlt, loopN (f := (execA E C (fg 88) 0 156 [] 1000 Z2w)) (fun i => h5S ls n B i) n hround rfl (by omega) ?_ (by simp)⟩
   simp (disch := omega) only [ZG, Z9, Zc, Za, Z4, Z2, Z3, Z0, Zo, stp, just, Rd.bind, Rd.run, Rd.opt, upds, aBin, aInt, Nat.reduceEqDiff, Nat.reduceLeDiff, ↓reduceIte, decide_false, Z5, List.elem_nil, seqN, bindN, regN, Int.lt_irrefl, Bool.false_eq_true, ZvG, ZmG, ZmI, ZvP, ZvX, ZtZ, ZwB, ZtM, h5S]
end Go.AM.YtgfnbmfjbjopkaaDoor
end
end
noncomputable section
noncomputable section
namespace Go.AM.YtgfnbmfjbjopkaaDoor
open Go Go.AM Go.AM.Mule
theorem ZPT : ∀ n, repC [.int .u64 0] n = ucs (List.replicate n 0)
 | 0 => rfl
 | n + 1 => by rw [repC, ZPT n]; rfl
theorem Z0Cd {C : Callee} {ls : List Ld} {e : Bool} {n : Nat} : iterA (execA E C (fg 88) 0 156 [] 1000 Z2u) (headA []) 1000 ([(67, .int .i64 0), (66, .int .i64 0), (65, .nilsl), (5, .ptr 5 0 2), (4, .int .i64 n), (2, .ptr 2 0 2), (1, .ptr 1 0 2)],
     h2H ls (.imm (cls lc ls) n e) .nilsl n (List.replicate n 0)) = some (.exit 4, ([(68, .bool false), (67, .int .i64 0), (66, .int .i64 0), (65, .nilsl), (5, .ptr 5 0 2), (4, .int .i64 n), (2, .ptr 2 0 2), (1, .ptr 1 0 2)],
     h2H ls (.imm (cls lc ls) n e) .nilsl n (List.replicate n 0))) :=
 Z0e1 (f := (execA E C (fg 88) 0 156 [] 1000 Z2u)) rfl (by simp (disch := omega) only [ZG, Z9, Zc, Za, Z4, Z2, Z3, Z0, Zo, stp, just, Rd.bind, Rd.run, Rd.opt, upds, aBin, aInt, Nat.reduceEqDiff, Nat.reduceLeDiff, ↓reduceIte, decide_false, Z5, List.elem_nil, seqN, bindN, regN, Int.lt_irrefl, Bool.false_eq_true, Zd4, Z5N, Z8C, Zd9, Zed, Zd1, ZdH, ZcP]) (by simp)
theorem Z0gH {C : Callee} {ls : List Ld} {n : Nat} {B : List Nat} (hB : B.length = n) (hb : ∀ x ∈ B, x < 2 ^ n) (hn : n ≤ 6) {s0 : St} (h0 : headA [] s0 = h4S ls n B 0) :
   iterA (execA E C (fg 88) 0 156 [] 1000 Zew) (headA []) 1000 s0 = some (.exit 7, ([(111, .bool false), (110, .int .i64 n), (109, .int .i64 n), (5, .ptr 5 0 2), (4, .int .i64 n), (2, .ptr 2 0 2)], h3H ls n (fw n B))) := by
 refine Z0K (fun k => h4S ls n ((List.range k).foldl (fwK n) B) k) n 1000 0 s0 h0 (by omega) (fun k _ hk => ?_) (e := .exit 7) ?_ (by simp)
 · have := Z0GO (C := C) (ls := ls) (B := (List.range k).foldl (fwK n) B) (by rw [ZaI, hB]) (Zi5 hb n k) hn (show k < n by omega)
   rw [List.range_succ, List.foldl_append]; exact this
 · rw [Nat.zero_add, show (List.range n).foldl (fwK n) B = fw n B from rfl]
   simp (disch := omega) only [ZG, Z9, Zc, Za, Z4, Z2, Z3, Z0, Zo, stp, just, Rd.bind, Rd.run, Rd.opt, upds, aBin, aInt, Nat.reduceEqDiff, Nat.reduceLeDiff, ↓reduceIte, decide_false, Z5, List.elem_nil, seqN, bindN, regN, Int.lt_irrefl, Bool.false_eq_true, Z0fD, ZUN, ZPo, Z0hn, Z0gm, Z0hQ, Z0k6, Z0gc, h4S]
theorem Z0f6 {C : Callee} (hC : HaC C) {ls : List Ld} {es : List Pr} {a b : AV} (ha : SV lc ls a) (hb : SV bc es b) :
   (chk ls es ≠ 0 → ∃ H', bodyA E C fg 1000 88 [.agg [a, b]] [] 0 = some (.tup [.agg [.nilsl, .nilsl], .int .i64 (chk ls es)], H')) ∧
   (chk ls es = 0 → ∃ H', bodyA E C fg 1000 88 [.agg [a, b]] [] 0 = some (.tup [.agg [.ref 61 0 ls.length ls.length (ls.length * 5) 5 false, .ref 33 0 ls.length ls.length ls.length 1 false], .int .i64 0], H') ∧ hget H' 61 = some ⟨.row, cls lc ls⟩ ∧ hget H' 33 = some ⟨.row, ucs (sets ls.length es)⟩) := by
 rcases ha with ⟨rfl, rfl⟩ | ⟨e, rfl⟩
 · have : chk [] es = 4 := rfl
   rw [this]
   refine ⟨fun _ => ?_, fun h => by simp at h⟩
   simp (disch := omega) only [Z01, Z9, ZT, ↓gd, ZN, Bool.not_false, Zp, Zc, Za, Z4, Z2, Z3, Z0, Zk, Zd, Zq, Zi, Zm, Zj, stp, opBox, justO, just, Rd.bind, Rd.run, Rd.opt, upds, acells, zeroCells, tsz, rdCells, fieldOf, Zb, aLoad, aStore, opStore, resA, resL, fresh, aLen, Zf, aBin, aInt, putC, Nat.reduceAdd, Nat.reduceBEq, Nat.reduceEqDiff, Nat.reduceLeDiff, ↓reduceIte, reduceCtorEq, Ze, decide_eq_false_iff_not, Nat.zero_add, Nat.add_zero, List.nil_append, List.getElem?_toArray, Bool.not_false, partsOf, fillA, Z5, Zl, and_true, snaps, List.append_nil, Option.map_some, List.elem_cons, List.elem_nil, List.length_cons, List.length_nil, List.getElem?_cons_zero, List.getElem?_cons_succ, List.drop_zero, List.take_succ_cons, List.take_nil, List.set_cons_zero, List.set_cons_succ, Zs, seqN, bindN, regN, ZU, aBuild, Nat.le_refl, List.not_mem_nil, beq_self_eq_true, Bool.false_eq_true, T_22, T_23, T_25, ZO, beq_self_eq_true, Z5f, Z2B, Z2q, Z2D, Z2C, Z5i, Z2s, Z2M, Z2o, Z2r, Z2y, Z5u, Z2F, Z2t, Z2L, Z2J, Z3O, Z2K, Z2n, Z2A, Z2v, Z3z, Z5x, Z3m, Z2H, Z2x, Z2I, Z2E, Z2l, Z2z, Z2G, Z3p, Z5r, Z5d, Z5h, Z5e, Z5l, Z5y, b_88, if_pos]
   exact ⟨_, rfl⟩
 · by_cases hn0 : ls.length = 0
   · have h4 : chk ls es = 4 := by unfold chk; rw [if_pos hn0]
     rw [h4]
     refine ⟨fun _ => ?_, fun h => by simp at h⟩
     have hlen : (cls lc ls).length = ls.length * 5 := Zv ZJ ls
     simp (disch := omega) only [Z01, Z9, ZT, ↓gd, ZN, Bool.not_false, Zp, Zc, Za, Z4, Z2, Z3, Z0, Zk, Zd, Zq, Zi, Zm, Zj, stp, opBox, justO, just, Rd.bind, Rd.run, Rd.opt, upds, acells, zeroCells, tsz, rdCells, fieldOf, Zb, aLoad, aStore, opStore, resA, resL, fresh, aLen, Zf, aBin, aInt, putC, Nat.reduceAdd, Nat.reduceBEq, Nat.reduceEqDiff, Nat.reduceLeDiff, ↓reduceIte, reduceCtorEq, Ze, decide_eq_false_iff_not, Nat.zero_add, Nat.add_zero, List.nil_append, List.getElem?_toArray, Bool.not_false, partsOf, fillA, Z5, Zl, and_true, snaps, List.append_nil, Option.map_some, List.elem_cons, List.elem_nil, List.length_cons, List.length_nil, List.getElem?_cons_zero, List.getElem?_cons_succ, List.drop_zero, List.take_succ_cons, List.take_nil, List.set_cons_zero, List.set_cons_succ, Zs, seqN, bindN, regN, ZU, aBuild, Nat.le_refl, List.not_mem_nil, beq_self_eq_true, Bool.false_eq_true, T_22, T_23, T_25, ZO, beq_self_eq_true, Z5f, Z2B, Z2q, Z2D, Z2C, Z5i, Z2s, Z2M, Z2o, Z2r, Z2y, Z5u, Z2F, Z2t, Z2L, Z2J, Z3O, Z2K, Z2n, Z2A, Z2v, Z3z, Z5x, Z3m, Z2H, Z2x, Z2I, Z2E, Z2l, Z2z, Z2G, Z3p, Z5r, Z5d, Z5h, Z5e, Z5l, Z5y, b_88, hn0, if_pos, Int.natCast_zero]
     exact ⟨_, rfl⟩
   · have g0 : ¬ (ls.length : Int) = 0 := by omega
     have hbl : ∀ φ, ∃ m, (m = es.length) ∧ (just (aLen E.T 23 b)).run φ = some (.int .i64 (m : Int), []) := by
       intro φ
       rcases hb with ⟨rfl, rfl⟩ | ⟨e2, rfl⟩
       · exact ⟨0, rfl, rfl⟩
       · exact ⟨es.length, rfl, rfl⟩
     by_cases h6 : 6 < ls.length ∨ 15 < es.length
     · have h3 : chk ls es = 3 := by unfold chk; rw [if_neg hn0, if_pos h6]
       rw [h3]
       refine ⟨fun _ => ?_, fun h => by simp at h⟩
       by_cases h6a : 6 < ls.length
       · have g1 : (ls.length : Int) > 6 := by omega
         simp (disch := omega) only [Z01, Z9, ZT, ↓gd, ZN, Bool.not_false, Zp, Zc, Za, Z4, Z2, Z3, Z0, Zk, Zd, Zq, Zi, Zm, Zj, stp, opPick, opBox, justO, just, Rd.bind, Rd.run, Rd.opt, upds, acells, zeroCells, tsz, rdCells, fieldOf, Zb, aLoad, aStore, opStore, resA, resL, fresh, aLen, Zf, aBin, aInt, putC, Nat.reduceAdd, Nat.reduceBEq, Nat.reduceEqDiff, Nat.reduceLeDiff, ↓reduceIte, reduceCtorEq, Ze, Nat.zero_add, Nat.add_zero, beq_iff_eq, List.nil_append, List.getElem?_toArray, Bool.not_false, decide_true, partsOf, fillA, Z5, Zl, and_true, snaps, List.append_nil, Option.map_some, List.elem_cons, List.elem_nil, List.length_cons, List.length_nil, List.getElem?_cons_zero, List.drop_zero, List.take_succ_cons, List.take_nil, List.set_cons_zero, List.set_cons_succ, Zs, seqN, bindN, regN, ZU, aBuild, Nat.le_refl, List.not_mem_nil, beq_self_eq_true, Bool.false_eq_true, T_22, T_25, ZO, beq_self_eq_true, Z5f, Z2B, Z2q, Z2D, Z2C, Z5i, Z2s, Z2M, Z2o, Z2r, Z2y, Z5u, Z2F, Z2t, Z2L, Z2J, Z3O, Z2K, Z2n, Z2A, Z2v, Z3z, Z5x, Z3m, Z2H, Z2x, Z2I, Z2E, Z2l, Z2z, Z2G, Z40, Z42, Z4a, Z5v, Z45, Z48, Z47, Z44, Z5b, Z5j, Z5w, Z5g, Z3p, Z5r, Z5d, Z5h, Z5e, Z5l, Z5y, b_88, g0, g1]
         exact ⟨_, rfl⟩
       · have g1 : ¬ (ls.length : Int) > 6 := by omega
         have g2 : (es.length : Int) > 15 := by omega
         rcases hb with ⟨rfl, rfl⟩ | ⟨e2, rfl⟩
         · simp at h6; omega
         · simp (disch := omega) only [Z01, Z9, ZT, ↓gd, ZN, Zp, Zc, Za, Z4, Z2, Z3, Z0, Zk, Zd, Zq, Zi, Zm, Zj, stp, opPick, opBox, justO, just, Rd.bind, Rd.run, Rd.opt, upds, acells, zeroCells, tsz, rdCells, fieldOf, Zb, aLoad, aStore, opStore, resA, resL, fresh, aLen, Zf, aBin, aInt, putC, Nat.reduceAdd, Nat.reduceBEq, Nat.reduceEqDiff, Nat.reduceLeDiff, ↓reduceIte, reduceCtorEq, Ze, Nat.zero_add, Nat.add_zero, beq_iff_eq, List.nil_append, List.getElem?_toArray, decide_true, decide_false, partsOf, fillA, Z5, Zl, and_true, snaps, List.append_nil, Option.map_some, List.elem_cons, List.elem_nil, List.length_cons, List.length_nil, List.getElem?_cons_zero, List.getElem?_cons_succ, List.drop_zero, List.take_succ_cons, List.take_nil, List.set_cons_zero, List.set_cons_succ, Zs, seqN, bindN, regN, ZU, aBuild, Nat.le_refl, List.not_mem_nil, beq_self_eq_true, Bool.false_eq_true, T_22, T_23, T_25, ZO, beq_self_eq_true, Z5f, Z2B, Z2q, Z2D, Z2C, Z5i, Z2s, Z2M, Z2o, Z2r, Z2y, Z5u, Z2F, Z2t, Z2L, Z2J, Z3O, Z2K, Z2n, Z2A, Z2v, Z3z, Z5x, Z3m, Z2H, Z2x, Z2I, Z2E, Z2l, Z2z, Z2G, Z40, Z42, Z4a, Z5v, Z45, Z48, Z47, Z44, Z5b, Z5j, Z5w, Z5g, Z3p, Z5r, Z5d, Z5h, Z5e, Z5l, Z5y, b_88, g0, g1, g2]
           exact ⟨_, rfl⟩
     · have hn : ls.length ≤ 6 := by omega
       have hm : es.length ≤ 15 := by omega
       have g1 : ¬ (ls.length : Int) > 6 := by omega
       have g2 : ¬ (es.length : Int) > 15 := by omega
       have hbs : b = .nilsl ∨ ∃ c m ex, b = .imm c m ex := by
         rcases hb with ⟨rfl, rfl⟩ | ⟨e2, rfl⟩
         · exact .inl rfl
         · exact .inr ⟨_, _, _, rfl⟩
       have hz : (ucs (List.replicate ls.length 0)).length = ls.length := by rw [Z05, List.length_replicate]
       have hrep := ZPT ls.length
       have hflat : [AV.int .u64 0].all AV.flat = true := rfl
       have hk : (ls.length : Int) ≤ kHi .i64 := by simp only [kHi]; omega
       have hby : ((8 : Nat) : Int) * (ls.length : Int) ≤ 281474976710656 := by omega
       rcases Z0Eb (C := C) hC.rw_ (ls := ls) (e := e) (b := b) (z := ucs (List.replicate ls.length 0)) rfl hz hn (by omega) hbs with ⟨hE, H', hl1, hl2⟩ | ⟨hE, hl1⟩
       · have hc : chk ls es = ldsE ls := by unfold chk; rw [if_neg hn0, if_neg h6, if_pos hE]
         rw [hc]
         refine ⟨fun _ => ?_, fun h => absurd h hE⟩
         simp only [h1S, List.take_zero, Zju, oV, oH, cl0] at hl1
         rcases hb with ⟨rfl, rfl⟩ | ⟨e2, rfl⟩
         · simp (disch := omega) only [Z01, Zmg, Z9, Zh, ZT, Zgm, ↓gd, ZN, Zhl, Zp, Zc, Za, Z4, Z2, Z3, Z0, Zk, Zd, Zq, Zi, Zm, Zj, stp, opPick, opBox, justO, just, Rd.bind, Rd.run, Rd.opt, upds, acells, zeroCells, tsz, elemT, rdCells, fieldOf, Zb, aLoad, aStore, opStore, resA, resL, fresh, aNum, aLen, Zf, aBin, aInt, putC, evO, Nat.reduceAdd, Nat.reduceLT, Nat.reduceBEq, Nat.reduceEqDiff, Nat.reduceLeDiff, ↓reduceIte, reduceCtorEq, Ze, decide_eq_true_eq, Nat.zero_add, Nat.add_zero, ne_eq, beq_iff_eq, List.nil_append, List.getElem?_toArray, Bool.and_true, decide_true, decide_false, not_true_eq_false, or_self, partsOf, fillA, Z5, Zl, and_true, true_and, Int.natCast_nonneg, Int.toNat_natCast, snaps, List.append_nil, Option.map_some, List.elem_cons, List.elem_nil, List.length_cons, List.length_nil, List.getElem?_cons_zero, List.getElem?_cons_succ, List.drop_zero, List.take_succ_cons, List.take_nil, List.set_cons_zero, List.set_cons_succ, Zs, seqN, bindN, regN, ZU, ZH, aBuild, placeF, Nat.le_refl, Nat.mul_one, List.not_mem_nil, beq_self_eq_true, Nat.lt_irrefl, Bool.false_eq_true, T_22, T_23, T_25, Z2h, ZO, Z1c, beq_self_eq_true, Z5f, Z2B, Z2q, Z2D, Z2C, Z5i, Z2s, Z2M, Z2o, Z2r, Z2y, Z5u, Z2F, Z2t, Z2L, Z2J, Z3O, Z2K, Z2n, Z2A, Z2v, Z3z, Z5x, Z3m, Z2H, Z2x, Z2I, Z2E, Z2l, Z2z, Z2G, Z40, Z42, Z4a, Z5v, Z45, Z48, Z47, Z44, Z5b, Z5j, Z5w, Z5g, Z3p, Z5r, Z5d, Z5h, Zbw, Z8M, Z6Z, Z8X, Z6U, Z5z, Z7n, Zbu, Z5R, Z8N, Z6b, Z7a, Z6W, Zbz, ZbT, Zbf, ZbR, Zbp, Z5e, Z5l, Z5y, b_88, g0, g1, aMake, hrep, hflat, hk, hby, hl1, hl2, if_pos]
           exact ⟨_, rfl⟩
         · simp (disch := omega) only [Z01, Z9, Zh, ZT, ↓gd, ZN, Zp, Zc, Za, Z4, Z2, Z3, Z0, Zk, Zd, Zq, Zi, Zm, Zj, stp, opPick, opBox, justO, just, Rd.bind, Rd.run, Rd.opt, upds, acells, zeroCells, tsz, elemT, rdCells, fieldOf, Zb, aLoad, aStore, opStore, resA, resL, fresh, aNum, aLen, Zf, aBin, aInt, putC, evO, Nat.reduceAdd, Nat.reduceLT, Nat.reduceBEq, Nat.reduceEqDiff, Nat.reduceLeDiff, ↓reduceIte, reduceCtorEq, Ze, Nat.zero_add, Nat.add_zero, ne_eq, beq_iff_eq, List.nil_append, List.getElem?_toArray, Bool.and_true, decide_true, decide_false, not_true_eq_false, or_self, partsOf, fillA, Z5, Zl, and_true, true_and, Int.natCast_nonneg, Int.toNat_natCast, snaps, List.append_nil, Option.map_some, List.elem_cons, List.elem_nil, List.length_cons, List.length_nil, List.getElem?_cons_zero, List.getElem?_cons_succ, List.drop_zero, List.take_succ_cons, List.take_nil, List.set_cons_zero, List.set_cons_succ, Zs, seqN, bindN, regN, ZU, ZH, aBuild, placeF, Nat.le_refl, Nat.mul_one, List.not_mem_nil, beq_self_eq_true, Nat.lt_irrefl, Bool.false_eq_true, T_22, T_23, T_25, Z2h, ZO, Z1c, beq_self_eq_true, Z5f, Z2B, Z2q, Z2D, Z2C, Z5i, Z2s, Z2M, Z2o, Z2r, Z2y, Z5u, Z2F, Z2t, Z2L, Z2J, Z3O, Z2K, Z2n, Z2A, Z2v, Z3z, Z5x, Z3m, Z2H, Z2x, Z2I, Z2E, Z2l, Z2z, Z2G, Z40, Z42, Z4a, Z5v, Z45, Z48, Z47, Z44, Z5b, Z5j, Z5w, Z5g, Z3p, Z5r, Z5d, Z5h, Zbw, Z8M, Z6Z, Z8X, Z6U, Z5z, Z7n, Zbu, Z5R, Z8N, Z6b, Z7a, Z6W, Zbz, ZbT, Zbf, ZbR, Zbp, Z5e, Z5l, Z5y, b_88, g0, g1, g2, aMake, hrep, hflat, hk, hby, hl1, hl2, if_pos]
           exact ⟨_, rfl⟩
       · simp only [h1S, List.take_zero, Zju, oV, oH, cl0] at hl1
         have hlen : (cls lc ls).length = ls.length * 5 := Zv ZJ ls
         rcases hb with ⟨rfl, rfl⟩ | ⟨e2, rfl⟩
         · have hp : prsE ls.length [] = 0 := rfl
           have hl2 := Z0Cd (C := C) (ls := ls) (e := e) (n := ls.length)
           have hb0 : ∀ x ∈ List.replicate ls.length 0, x < 2 ^ ls.length := Znd (es := []) (by simp)
           have hl4 := Z0gH (C := C) (ls := ls) (B := List.replicate ls.length 0) (by simp) hb0 hn (s0 := ([(110, .int .i64 0), (109, .int .i64 ls.length), (5, .ptr 5 0 2), (4, .int .i64 ls.length), (2, .ptr 2 0 2)], h2H ls (.imm (cls lc ls) ls.length e) .nilsl ls.length (List.replicate ls.length 0))) rfl
           have hse : sets ls.length [] = fw ls.length (List.replicate ls.length 0) := rfl
           have hul : (ucs (fw ls.length (List.replicate ls.length 0))).length = ls.length := by rw [Z05]; exact ZaI _ _ _ |>.trans (by simp)
           have hc0 : chk ls [] = if clashB ls.length (sets ls.length []) = true then 13 else 0 := by
             unfold chk; rw [if_neg hn0, if_neg h6, if_neg (by simp [hE]), if_neg (by simp [hp])]
           rw [hc0, hse]
           rcases Z0g7 (C := C) (ls := ls) (n := ls.length) (B := fw ls.length (List.replicate ls.length 0)) (ZaI _ _ _ |>.trans (by simp)) (Zi5 hb0 _ _) hn with ⟨hcl, H', l1, l2⟩ | ⟨hcl, l1⟩
           · rw [hcl]
             refine ⟨fun _ => ?_, fun h => by simp at h⟩
             simp only [h5S, h3H, cl0] at l1
             simp only [h2H, h3H] at hl2 hl4
             generalize fw ls.length (List.replicate ls.length 0) = FB at *
             simp (disch := omega) only [Z01, Zmg, Z9, Zz, Zh, ZT, Zgm, ↓gd, ZN, Zhl, Zp, Zc, Za, Z4, Z2, Z3, Z0, Zk, Zd, Zq, Zi, Zm, Zo, Zj, stp, opPick, opBox, justO, just, Rd.bind, Rd.run, Rd.opt, upds, acells, zeroCells, tsz, elemT, rdCells, fieldOf, Zb, aLoad, aStore, opStore, resA, resL, fresh, aNum, aLen, Zf, aBin, aInt, putC, evO, Nat.reduceAdd, Nat.reduceLT, Nat.reduceBEq, Nat.reduceEqDiff, Nat.reduceLeDiff, ↓reduceIte, reduceCtorEq, Ze, decide_eq_true_eq, Nat.zero_add, Nat.add_zero, ne_eq, beq_iff_eq, List.nil_append, List.getElem?_toArray, Bool.and_true, decide_true, decide_false, not_true_eq_false, or_self, partsOf, fillA, Z5, Zl, and_true, true_and, Int.natCast_nonneg, Int.toNat_natCast, snaps, List.append_nil, Option.map_some, List.elem_cons, List.elem_nil, List.length_cons, List.length_nil, List.getElem?_cons_zero, List.getElem?_cons_succ, List.drop_zero, List.take_succ_cons, List.take_nil, List.set_cons_zero, List.set_cons_succ, Zs, seqN, bindN, regN, ZU, ZH, aBuild, placeF, Nat.le_refl, Nat.mul_one, List.not_mem_nil, beq_self_eq_true, Nat.lt_irrefl, Bool.false_eq_true, T_22, T_23, T_25, Z2h, ZO, Z1c, beq_self_eq_true, Z5f, Z2B, Z2q, Z2D, Z2C, Z5i, Z2s, Z2M, Z2o, Z2r, Z2y, Z5u, Z2F, Z2t, Z2L, Z2J, Z3O, Z2K, Z2n, Z2A, Z2v, Z3z, Z5x, Z3m, Z2H, Z2x, Z2I, Z2E, Z2l, Z2z, Z2G, Z40, Z42, Z4a, Z5v, Z45, Z48, Z47, Z44, Z5b, Z5j, Z5w, Z5g, Z3p, Z5r, Z5d, Z5h, Zbw, Z8M, Z6Z, Z8X, Z6U, Z5z, Z7n, Zbu, Z5R, Z8N, Z6b, Z7a, Z6W, Zbz, ZbT, Zbf, Zhi, Zbe, Zbt, Zbx, ZbG, ZbB, ZhE, Zhe, ZgC, ZnF, ZeS, Zgh, ZfW, Zor, ZnI, Znw, ZiU, ZeU, Zgc, Zgd, Zfv, Zfs, Zk0, ZiX, Zit, ZkA, ZnC, ZgW, ZbR, Zbp, Z5e, Z5l, Z5y, b_88, g0, g1, aMake, hrep, hflat, hk, hby, hul, hl1, hl2, hl4, l1, l2, if_pos]
             exact ⟨_, rfl⟩
           · rw [hcl]
             refine ⟨fun h => by simp at h, fun _ => ?_⟩
             simp only [h5S, h3H, cl0] at l1
             simp only [h2H, h3H] at hl2 hl4
             generalize fw ls.length (List.replicate ls.length 0) = FB at *
             simp (disch := omega) only [Z01, Zmg, Z9, Zz, Zh, ZT, Zgm, ↓gd, ZN, Zhl, Zp, Zc, Za, Z4, Z2, Z3, Z0, Zk, Zd, Zq, Zi, Zm, Zo, Zj, stp, opPick, opBox, justO, just, Rd.bind, Rd.run, Rd.opt, upds, acells, zeroCells, tsz, elemT, rdCells, fieldOf, Zb, aLoad, aStore, opStore, resA, resL, fresh, aNum, aLen, Zf, aBin, aInt, putC, evO, Nat.reduceAdd, Nat.reduceLT, Nat.reduceBEq, Nat.reduceEqDiff, Nat.reduceLeDiff, ↓reduceIte, reduceCtorEq, Ze, decide_eq_true_eq, Nat.zero_add, Nat.add_zero, ne_eq, beq_iff_eq, List.nil_append, List.getElem?_toArray, Bool.and_true, decide_true, decide_false, not_true_eq_false, or_self, partsOf, fillA, Z5, Zl, and_true, true_and, Int.natCast_nonneg, Int.toNat_natCast, snaps, List.append_nil, Option.map_some, List.elem_cons, List.elem_nil, List.length_cons, List.length_nil, List.getElem?_cons_zero, List.getElem?_cons_succ, List.drop_zero, List.take_succ_cons, List.take_nil, List.set_cons_zero, List.set_cons_succ, Zs, seqN, bindN, regN, ZU, ZH, aBuild, placeF, Nat.le_refl, Nat.mul_one, List.not_mem_nil, beq_self_eq_true, Nat.lt_irrefl, Bool.false_eq_true, T_22, T_23, T_25, Z2h, ZO, Z1c, beq_self_eq_true, Z5f, Z2B, Z2q, Z2D, Z2C, Z5i, Z2s, Z2M, Z2o, Z2r, Z2y, Z5u, Z2F, Z2t, Z2L, Z2J, Z3O, Z2K, Z2n, Z2A, Z2v, Z3z, Z5x, Z3m, Z2H, Z2x, Z2I, Z2E, Z2l, Z2z, Z2G, Z40, Z42, Z4a, Z5v, Z45, Z48, Z47, Z44, Z5b, Z5j, Z5w, Z5g, Z3p, Z5r, Z5d, Z5h, Zbw, Z8M, Z6Z, Z8X, Z6U, Z5z, Z7n, Zbu, Z5R, Z8N, Z6b, Z7a, Z6W, Zbz, ZbT, Zbf, Zhi, Zbe, Zbt, Zbx, ZbG, ZbB, ZhE, Zhe, ZgC, ZnF, ZeS, Zgh, ZfW, Zor, ZnI, Znw, ZiU, ZeU, Zgc, Zgd, Zfv, Zfs, Zk0, ZiX, Zit, Z05T, ZVM, ZLX, ZQ9, ZGi, ZYZ, Z09f, ZkA, ZnC, ZgW, ZbR, Zbp, Z5e, Z5l, Z5y, b_88, g0, g1, aMake, hrep, hflat, hk, hby, hul, hl1, hl2, hl4, l1, if_pos]
             exact ⟨_, rfl, rfl, rfl⟩
         · rcases Z0C7 hC (ls := ls) (es := es) (e := e) (e2 := e2) rfl hn hm with ⟨hp, H', hl2, hl3⟩ | ⟨hp, hl2⟩
           · have hc : chk ls es = prsE ls.length es := by unfold chk; rw [if_neg hn0, if_neg h6, if_neg (by simp [hE]), if_pos hp]
             rw [hc]
             refine ⟨fun _ => ?_, fun h => absurd h hp⟩
             have hadj : adj ls.length [] = List.replicate ls.length 0 := rfl
             simp only [h2S, h2H, List.take_zero, hadj, cl0] at hl2
             simp (disch := omega) only [Z01, Z9, Zz, Zh, ZT, ↓gd, ZN, Zp, Zc, Za, Z4, Z2, Z3, Z0, Zk, Zd, Zq, Zi, Zm, Zj, stp, opPick, opBox, justO, just, Rd.bind, Rd.run, Rd.opt, upds, acells, zeroCells, tsz, elemT, rdCells, fieldOf, Zb, aLoad, aStore, opStore, resA, resL, fresh, aNum, aLen, Zf, aBin, aInt, putC, evO, Nat.reduceAdd, Nat.reduceLT, Nat.reduceBEq, Nat.reduceEqDiff, Nat.reduceLeDiff, ↓reduceIte, reduceCtorEq, Ze, Nat.zero_add, Nat.add_zero, ne_eq, beq_iff_eq, List.nil_append, List.getElem?_toArray, Bool.and_true, decide_true, decide_false, not_true_eq_false, or_self, partsOf, fillA, Z5, Zl, and_true, true_and, Int.natCast_nonneg, Int.toNat_natCast, snaps, List.append_nil, Option.map_some, List.elem_cons, List.elem_nil, List.length_cons, List.length_nil, List.getElem?_cons_zero, List.getElem?_cons_succ, List.drop_zero, List.take_succ_cons, List.take_nil, List.set_cons_zero, List.set_cons_succ, Zs, seqN, bindN, regN, ZU, ZH, aBuild, placeF, Nat.le_refl, Nat.mul_one, List.not_mem_nil, beq_self_eq_true, Nat.lt_irrefl, Bool.false_eq_true, T_22, T_23, T_25, Z2h, ZO, Z1c, beq_self_eq_true, Z5f, Z2B, Z2q, Z2D, Z2C, Z5i, Z2s, Z2M, Z2o, Z2r, Z2y, Z5u, Z2F, Z2t, Z2L, Z2J, Z3O, Z2K, Z2n, Z2A, Z2v, Z3z, Z5x, Z3m, Z2H, Z2x, Z2I, Z2E, Z2l, Z2z, Z2G, Z40, Z42, Z4a, Z5v, Z45, Z48, Z47, Z44, Z5b, Z5j, Z5w, Z5g, Z3p, Z5r, Z5d, Z5h, Zbw, Z8M, Z6Z, Z8X, Z6U, Z5z, Z7n, Zbu, Z5R, Z8N, Z6b, Z7a, Z6W, Zbz, ZbT, Zbf, Zhi, Zbe, Zbt, Zbx, ZbG, ZbB, ZhE, Zhe, ZgC, ZgW, ZbR, Zbp, Z5e, Z5l, Z5y, b_88, g0, g1, g2, aMake, hrep, hflat, hk, hby, hl1, hl2, hl3, if_pos]
             exact ⟨_, rfl⟩
           · have hps := Zox hp
             have hb0 := Znd hps
             have hl4 := Z0gH (C := C) (ls := ls) (B := adj ls.length es) (ZaK _ _) hb0 hn (s0 := ([(110, .int .i64 0), (109, .int .i64 ls.length), (5, .ptr 5 0 2), (4, .int .i64 ls.length), (2, .ptr 2 0 2)], h2H ls (.imm (cls lc ls) ls.length e) (.imm (cls bc es) es.length e2) ls.length (adj ls.length es))) rfl
             have hse : sets ls.length es = fw ls.length (adj ls.length es) := rfl
             have hul : (ucs (fw ls.length (adj ls.length es))).length = ls.length := by rw [Z05]; exact ZaI _ _ _ |>.trans (ZaK _ _)
             have hul2 : (ucs (adj ls.length es)).length = ls.length := by rw [Z05, ZaK]
             have hc0 : chk ls es = if clashB ls.length (sets ls.length es) = true then 13 else 0 := by
               unfold chk; rw [if_neg hn0, if_neg h6, if_neg (by simp [hE]), if_neg (by simp [hp])]
             rw [hc0, hse]
             have hadj : adj ls.length [] = List.replicate ls.length 0 := rfl
             simp only [h2S, h2H, List.take_zero, hadj, cl0] at hl2
             simp only [h2H, h3H] at hl4
             rcases Z0g7 (C := C) (ls := ls) (n := ls.length) (B := fw ls.length (adj ls.length es)) (ZaI _ _ _ |>.trans (ZaK _ _)) (Zi5 hb0 _ _) hn with ⟨hcl, H', l1, l2⟩ | ⟨hcl, l1⟩
             · rw [hcl]
               refine ⟨fun _ => ?_, fun h => by simp at h⟩
               simp only [h5S, h3H, cl0] at l1
               generalize fw ls.length (adj ls.length es) = FB at *
               simp (disch := omega) only [Z01, Z9, Zz, Zh, ZT, ↓gd, ZN, Zp, Zc, Za, Z4, Z2, Z3, Z0, Zk, Zd, Zq, Zi, Zm, Zo, Zj, stp, opPick, opBox, justO, just, Rd.bind, Rd.run, Rd.opt, upds, acells, zeroCells, tsz, elemT, rdCells, fieldOf, Zb, aLoad, aStore, opStore, resA, resL, fresh, aNum, aLen, Zf, aBin, aInt, putC, evO, Nat.reduceAdd, Nat.reduceLT, Nat.reduceBEq, Nat.reduceEqDiff, Nat.reduceLeDiff, ↓reduceIte, reduceCtorEq, Ze, Nat.zero_add, Nat.add_zero, ne_eq, beq_iff_eq, List.nil_append, List.getElem?_toArray, Bool.and_true, decide_true, decide_false, not_true_eq_false, or_self, partsOf, fillA, Z5, Zl, and_true, true_and, Int.natCast_nonneg, Int.toNat_natCast, snaps, List.append_nil, Option.map_some, List.elem_cons, List.elem_nil, List.length_cons, List.length_nil, List.getElem?_cons_zero, List.getElem?_cons_succ, List.drop_zero, List.take_succ_cons, List.take_nil, List.set_cons_zero, List.set_cons_succ, Zs, seqN, bindN, regN, ZU, ZH, aBuild, placeF, Nat.le_refl, Nat.mul_one, List.not_mem_nil, beq_self_eq_true, Nat.lt_irrefl, Bool.false_eq_true, T_22, T_23, T_25, Z2h, ZO, Z1c, beq_self_eq_true, Z5f, Z2B, Z2q, Z2D, Z2C, Z5i, Z2s, Z2M, Z2o, Z2r, Z2y, Z5u, Z2F, Z2t, Z2L, Z2J, Z3O, Z2K, Z2n, Z2A, Z2v, Z3z, Z5x, Z3m, Z2H, Z2x, Z2I, Z2E, Z2l, Z2z, Z2G, Z40, Z42, Z4a, Z5v, Z45, Z48, Z47, Z44, Z5b, Z5j, Z5w, Z5g, Z3p, Z5r, Z5d, Z5h, Zbw, Z8M, Z6Z, Z8X, Z6U, Z5z, Z7n, Zbu, Z5R, Z8N, Z6b, Z7a, Z6W, Zbz, ZbT, Zbf, Zhi, Zbe, Zbt, Zbx, ZbG, ZbB, ZhE, Zhe, ZgC, ZnF, ZeS, Zgh, ZfW, Zor, ZnI, Znw, ZiU, ZeU, Zgc, Zgd, Zfv, Zfs, Zk0, ZiX, Zit, ZkA, ZnC, ZgW, ZbR, Zbp, Z5e, Z5l, Z5y, b_88, g0, g1, g2, aMake, hrep, hflat, hk, hby, hul, hl1, hl2, hl4, l1, l2, if_pos]
               exact ⟨_, rfl⟩
             · rw [hcl]
               refine ⟨fun h => by simp at h, fun _ => ?_⟩
               simp only [h5S, h3H, cl0] at l1
               generalize fw ls.length (adj ls.length es) = FB at *
               simp (disch := omega) only [Z9, Zz, Zh, ↓gd, ZN, Zp, Zc, Za, Z4, Z2, Z3, Z0, Zk, Zd, Zq, Zi, Zm, Zo, Zj, stp, opPick, opBox, justO, just, Rd.bind, Rd.run, Rd.opt, upds, acells, zeroCells, tsz, elemT, rdCells, fieldOf, Zb, aLoad, aStore, opStore, resA, resL, fresh, aNum, aLen, Zf, aBin, aInt, putC, evO, Nat.reduceAdd, Nat.reduceLT, Nat.reduceBEq, Nat.reduceEqDiff, Nat.reduceLeDiff, ↓reduceIte, reduceCtorEq, Ze, Nat.zero_add, Nat.add_zero, ne_eq, beq_iff_eq, List.nil_append, List.getElem?_toArray, Bool.and_true, decide_true, decide_false, not_true_eq_false, or_self, partsOf, fillA, Z5, Zl, and_true, true_and, Int.natCast_nonneg, Int.toNat_natCast, snaps, List.append_nil, Option.map_some, List.elem_cons, List.elem_nil, List.length_cons, List.length_nil, List.getElem?_cons_zero, List.getElem?_cons_succ, List.drop_zero, List.take_succ_cons, List.take_nil, List.set_cons_zero, List.set_cons_succ, Zs, seqN, bindN, regN, ZU, ZH, aBuild, placeF, Nat.le_refl, Nat.mul_one, List.not_mem_nil, beq_self_eq_true, Nat.lt_irrefl, Bool.false_eq_true, T_22, T_23, T_25, Z2h, ZO, Z1c, beq_self_eq_true, Z5f, Z2B, Z2q, Z2D, Z2C, Z5i, Z2s, Z2M, Z2o, Z2r, Z2y, Z5u, Z2F, Z2t, Z2L, Z2J, Z3O, Z2K, Z2n, Z2A, Z2v, Z3z, Z5x, Z3m, Z2H, Z2x, Z2I, Z2E, Z2l, Z2z, Z2G, Z40, Z42, Z4a, Z5v, Z45, Z48, Z47, Z44, Z5b, Z5j, Z5w, Z5g, Z3p, Z5r, Z5d, Z5h, Zbw, Z8M, Z6Z, Z8X, Z6U, Z5z, Z7n, Zbu, Z5R, Z8N, Z6b, Z7a, Z6W, Zbz, ZbT, Zbf, Zhi, Zbe, Zbt, Zbx, ZbG, ZbB, ZhE, Zhe, ZgC, ZnF, ZeS, Zgh, ZfW, Zor, ZnI, Znw, ZiU, ZeU, Zgc, Zgd, Zfv, Zfs, Zk0, ZiX, Zit, Z05T, ZVM, ZLX, ZQ9, ZGi, ZYZ, Z09f, ZkA, ZnC, ZgW, ZbR, Zbp, Z5e, Z5l, Z5y, b_88, g0, g1, g2, aMake, hrep, hflat, hk, hby, hul, hl1, hl2, hl4, l1, if_pos]
               exact ⟨_, rfl, rfl, rfl⟩
theorem ZAp {C : Callee} {site : Nat → Nat} {seen : List Nat} {f : FuncId} {args : List AV} {id id' n n' g g' sz sz' : Nat} {cells cells' : List AV} {k : IntKind} {z : Int} {H' : AHeap} (h : C f args [] 0 = some (.tup [.agg [.ref id 0 n n g sz false, .ref id' 0 n' n' g' sz' false], .int k z], H')) (hg : hget H' id = some ⟨.row, cells⟩) (hg' : hget H' id' = some ⟨.row, cells'⟩) (hne : id' ≠ id) (hs : site 1 ≠ site 0) (e1 : cells.length = g) (e2 : cells'.length = g') :
   aBack site true seen (thaw C f args [] 0) = back2 (site 0) (site 1) seen (fun k0 k1 => .tup [.agg [.ref k0 0 n n g sz false, .ref k1 0 n' n' g' sz' false], .int k z]) ⟨.row, cells⟩ ⟨.row, cells'⟩ := by
 subst e1; subst e2
 have hb : ∀ off, (site 1 + off == site 0 + off) = false := fun off => by rw [beq_eq_false_iff_ne]; omega
 simp only [thaw, h, frzRet, aBack, sitesB, aBackAt, imp, imps, hg, hg', hne, hb, List.length_nil, List.length_cons, List.not_mem_nil, List.mem_cons, or_false, not_false_eq_true, and_true, if_true, List.map_cons, List.map_nil, AM.apart, List.elem_cons, List.elem_nil, Bool.not_false, Bool.and_true, AV.leads, AV.leads.leadsL, Bool.or_false, Bool.true_or, Nat.zero_add, back2]
theorem Z0gK {d : Nat} {site : Nat → Nat} {seen : List Nat} {ls : List Ld} {es : List Pr} {a b : AV} (ha : SV lc ls a) (hb : SV bc es b) (h : chk ls es ≠ 0) :
   aBack site true seen (thaw (callA E fg 1000 (d + 3)) 88 [.agg [a, b]] [] 0) = .pure (.tup [.agg [.nilsl, .nilsl], .int .i64 (chk ls es)], []) := by
 obtain ⟨H', h1⟩ := (Z0f6 (haC d) ha hb).1 h
 exact Z1p h1 rfl (fun _ => rfl) rfl
theorem Z8E {d : Nat} {site : Nat → Nat} {seen : List Nat} {ls : List Ld} {es : List Pr} {a b : AV} (ha : SV lc ls a) (hb : SV bc es b) (h : chk ls es = 0) (hs : site 1 ≠ site 0) :
   aBack site true seen (thaw (callA E fg 1000 (d + 3)) 88 [.agg [a, b]] [] 0) =
     back2 (site 0) (site 1) seen (fun k k' => .tup [.agg [.ref k 0 ls.length ls.length (ls.length * 5) 5 false, .ref k' 0 ls.length ls.length ls.length 1 false], .int .i64 0]) ⟨.row, cls lc ls⟩ ⟨.row, ucs (sets ls.length es)⟩ := by
 obtain ⟨H', h1, h2, h3⟩ := (Z0f6 (haC d) ha hb).2 h
 have := Z1x h
 exact ZAp h1 h2 h3 (by omega) hs (Zv ZJ ls) (by rw [Z05, this.1.b])
theorem ZxH {d : Nat} {site : Nat → Nat} {seen : List Nat} {ls : List Ld} {B : List Nat} {n : Nat} {e1 e2 : Bool} (h : TrOk ls B n) (hT : Ord (bit B)) :
   aBack site true seen (thaw (callA E fg 1000 (d + 6)) 89 [.agg (trA ls B n e1 e2)] [] 0) = back1 (site 0) seen (fun j => .tup [.ref j 0 n n n 1 false, .int .i64 (ruC ls B n)]) ⟨.row, ins (ruO ls B n)⟩ := by
 obtain ⟨H', h1, h2⟩ := Z0nT (d := d) (e1 := e1) (e2 := e2) h hT
 have hlen : (ins (ruO ls B n)).length = n := by rw [Zn, ← ZVB h hT, List.length_reverse, ZhA]
 have := ZhD (site := site) (seen := seen) (C := callA E fg 1000 (d + 6)) (f := 89) (args := [.agg (trA ls B n e1 e2)]) (id := 37) (n := n) (sz := 1) (k := .i64) (z := ruC ls B n) (cells := ins (ruO ls B n)) (H' := H') (by rw [hlen]; exact h1) h2
 rw [hlen] at this
 exact this
end Go.AM.YtgfnbmfjbjopkaaDoor
end
noncomputable section
namespace Go.AM.YtgfnbmfjbjopkaaDoor
open Go Go.AM Go.AM.Mule
theorem Z10 {α : Type} {f : α → List AV} {l : List α} {a : AV} (h : SV f l a) (n : Nat) : snap (n + 1) a = .pure (a, []) := by
 rcases h with ⟨_, rfl⟩ | ⟨e, rfl⟩ <;> rfl
theorem Z0eA {d : Nat} {ls : List Ld} {es : List Pr} {a b : AV} (ha : SV lc ls a) (hb : SV bc es b) (h : chk ls es = 0) :
   rsOf (bodyA E (callA E fg 1000 (d + 6)) fg 1000 19 [.agg [a, b]] [] 0) = some (.tup [.int .i64 (ruC ls (sets ls.length es) ls.length), .int .i64 0]) := by
 have hr := fun (site : Nat → Nat) seen hs => Z8E (d := d + 3) (site := site) (seen := seen) ha hb h hs
 obtain ⟨tr, ord, _, _⟩ := Z1x h
 have hu := fun (site : Nat → Nat) seen => ZxH (d := d) (site := site) (seen := seen) (e1 := false) (e2 := false) tr ord
 have sa := Z10 ha
 have sb := Z10 hb
 have hlen : (cls lc ls).length = ls.length * 5 := Zv ZJ ls
 have hul : (ucs (sets ls.length es)).length = ls.length := by rw [Z05, tr.b]
 generalize callA E fg 1000 (d + 6) = C at *
 generalize sets ls.length es = B at *
 have t1 : List.take (ls.length * 5) (cls lc ls) = cls lc ls := Z3s ZJ ls
 have t2 : List.take ls.length (ucs B) = ucs B := List.take_of_length_le (by omega)
 simp (disch := omega) only [Z9, Zp, Zc, Za, Z4, Z0e, Z2, Z3, Z0, Zk, Zd, Zq, Zi, Zm, Zj, stp, opBox, justO, just, Rd.bind, Rd.run, Rd.opt, upds, acells, zeroCells, tsz, rdCells, aLoad, aStore, opStore, Zx, resA, resL, fresh, aBin, aInt, putC, Nat.reduceAdd, Nat.reduceMul, Nat.reduceBEq, Nat.reduceEqDiff, Nat.reduceLeDiff, ↓reduceIte, reduceCtorEq, Ze, Nat.zero_add, List.nil_append, Bool.and_true, decide_true, Z5, Zl, and_true, aCall, snaps, List.append_nil, Option.map_some, List.elem_cons, List.elem_nil, List.length_cons, List.length_nil, List.getElem?_cons_zero, List.getElem?_cons_succ, List.drop_zero, List.take_succ_cons, List.take_nil, List.set_cons_zero, List.set_cons_succ, Zs, Zdm, Z63, seqN, bindN, regN, ZH, ZE, Z0Z, Z1V, List.cons_append, Nat.le_refl, Nat.mul_one, Nat.zero_mul, beq_self_eq_true, bne_self_eq_false, Bool.false_eq_true, T_25, ZO, beq_self_eq_true, Z0Hj, Z0vg, Z0x6, Z0yP, Z0vX, Z0Go, Z0vO, Z0zd, Z0AG, Z0uS, Z0Ag, Z0AW, Z0t3, Z0tr, Z0sR, Z0FP, Z0wJ, Z0sz, Z0y3, Z0FE, Z0vx, Z0u7, Z0zP, Z0sQ, Z0Ch, Z0Ib, Z0CY, Z0Gm, Z0Hb, Z0DQ, Z0Af, Z0sE, Z0x1, Z0yN, Z0yf, Z0wz, Z0vU, Z0uy, Z0EP, Z0A8, Z0wZ, Z0AS, Z0xq, Z0Eh, Z0B9, Z0Ef, Z0Fy, Z0Ie, Z0I6, b_19, sa 196, sb 195, hr, hlen, hul, t1, t2, hu]
theorem Z0gQ {d : Nat} {ls : List Ld} {es : List Pr} {a b : AV} (ha : SV lc ls a) (hb : SV bc es b) :
   rsOf (bodyA E (callA E fg 1000 (d + 3)) fg 1000 68 [.agg [a, b]] [] 0) = some (.int .i64 (chk ls es)) := by
 have sa := Z10 ha
 have sb := Z10 hb
 by_cases h : chk ls es = 0
 · have hr := fun (site : Nat → Nat) seen hs => Z8E (d := d) (site := site) (seen := seen) ha hb h hs
   rw [h]
   generalize callA E fg 1000 (d + 3) = C at *
   simp (disch := omega) only [Zp, Zc, Za, Z4, Z0e, Z2, Z3, Z0, Zk, Zd, Zq, Zi, Zm, Zj, stp, opBox, justO, just, Rd.bind, Rd.run, Rd.opt, upds, acells, zeroCells, tsz, rdCells, aLoad, aStore, opStore, Zx, resA, resL, fresh, putC, Nat.reduceAdd, Nat.reduceMul, Nat.reduceBEq, Nat.reduceEqDiff, Nat.reduceLeDiff, ↓reduceIte, reduceCtorEq, Ze, Nat.zero_add, List.nil_append, Bool.and_true, decide_true, Z5, Zl, and_true, aCall, snaps, List.append_nil, Option.map_some, List.elem_cons, List.elem_nil, List.length_cons, List.length_nil, List.getElem?_cons_zero, List.getElem?_cons_succ, List.drop_zero, List.take_succ_cons, List.take_nil, List.set_cons_zero, List.set_cons_succ, Zs, seqN, bindN, regN, ZH, ZE, Z1V, Nat.le_refl, Nat.mul_one, Nat.zero_mul, beq_self_eq_true, Bool.false_eq_true, T_25, ZO, beq_self_eq_true, Z0ro, Z07H, ZYa, Z07z, Z0rJ, Z04z, Z05i, Z089, Z02u, Z02M, Z0bf, Z09w, Z0bp, ZZ2, Z0rH, ZYg, ZZi, ZYP, Z0rt, Z0rE, Z0rn, Z0s0, b_68, sa 196, sb 195, hr]
 · have hr := fun (site : Nat → Nat) seen => Z0gK (d := d) (site := site) (seen := seen) ha hb h
   generalize callA E fg 1000 (d + 3) = C at *
   simp (disch := omega) only [Zp, Zc, Za, Z4, Z0e, Z2, Z3, Z0, Zk, Zd, Zq, Zi, Zm, Zj, stp, opBox, justO, just, Rd.bind, Rd.run, Rd.opt, upds, acells, zeroCells, tsz, rdCells, aLoad, aStore, opStore, Zx, resA, resL, fresh, putC, Nat.reduceAdd, Nat.reduceBEq, Nat.reduceEqDiff, Nat.reduceLeDiff, ↓reduceIte, reduceCtorEq, Ze, Nat.zero_add, List.nil_append, Z5, Zl, and_true, aCall, snaps, List.append_nil, Option.map_some, List.elem_cons, List.elem_nil, List.length_cons, List.length_nil, List.getElem?_cons_zero, List.getElem?_cons_succ, List.drop_zero, List.take_succ_cons, List.take_nil, List.set_cons_zero, List.set_cons_succ, Zs, seqN, bindN, regN, ZU, ZE, Nat.le_refl, List.not_mem_nil, beq_self_eq_true, Bool.false_eq_true, T_25, ZO, beq_self_eq_true, Z0ro, Z07H, ZYa, Z07z, Z0rJ, Z04z, Z05i, Z089, Z02u, Z02M, Z0bf, Z09w, Z0bp, ZZ2, Z0rH, ZYg, ZZi, ZYP, Z0rt, Z0rE, Z0rn, Z0s0, b_68, sa 196, sb 195, hr]
end Go.AM.YtgfnbmfjbjopkaaDoor
end
noncomputable section
namespace Go.AM.YtgfnbmfjbjopkaaDoor
open Go Go.AM Go.AM.Mule
def odE (B : List Nat) (n : Nat) (left : Nat) (x : Int) : Int :=
 if x < 0 ∨ (n : Int) ≤ x then 2 else if left.testBit x.toNat = false then 6 else if (lst (left &&& (63 - 1 <<< x.toNat))).any (fun k => bit B k x.toNat) = true then 21 else 0
def odL (left : Nat) (x : Int) : Nat := left &&& (63 - 1 <<< x.toNat)
def odR (n : Nat) (o : List Int) : Nat := o.foldl odL (2 ^ n - 1)
def ordersE (B : List Nat) (n : Nat) (o : List Int) : Int :=
 if o.length ≠ n then 5 else firstE o.length fun i => odE B n (odR n (o.take i)) (o.getD i 0)
theorem ZVR (n : Nat) (o : List Int) (x : Int) : odR n (o ++ [x]) = odL (odR n o) x := by simp [odR, List.foldl_append]
theorem ZqS (n : Nat) : ∀ o : List Int, odR n o < 2 ^ n := by
 have key : ∀ (o : List Int) (s : Nat), s < 2 ^ n → o.foldl odL s < 2 ^ n := by
   intro o
   induction o with
   | nil => intro s h; exact h
   | cons x o ih => intro s h; exact ih _ (ZQl h)
 intro o
 have := Nat.two_pow_pos n
 exact key o _ (by omega)
abbrev oiS (ls : List Ld) (B : List Nat) (n : Nat) (e1 e2 : Bool) (ov : AV) (m i : Nat) (left x : Nat) (l : List Nat) (k : Nat) : St :=
 ([(47, .int .i64 k), (46, .int .i64 l.length), (45, .ref 45 0 l.length l.length l.length 1 false), (20, .int .i64 i), (19, .int .i64 m), (18, ov), (7, .int .i64 (x : Int)), (5, .int .u64 (left : Int)), (2, .ptr 2 0 2)],
   [(2, ⟨.box, trA ls B n e1 e2⟩), (45, ⟨.row, ins l⟩)])
theorem Z0rX {C : Callee} {ls : List Ld} {B : List Nat} {n : Nat} {e1 e2 : Bool} {ov : AV} {c : List AV} {mm : Nat} {ex : Bool} (hov : ov = .imm c mm ex) {m i left x : Nat} {l : List Nat} (h : TrOk ls B n) (hx : x < n) (hl : ∀ i ∈ l, i < n) (h6 : l.length ≤ 6) (k : Nat) (hk : k < l.length) (h0 : bit B (l.getD k 0) x = false) :
   ∃ s', (execA E C (fg 105) 0 62 [] 1000 Z49) (oiS ls B n e1 e2 ov m i left x l k) = some (.normal, s') ∧ headA [] s' = oiS ls B n e1 e2 ov m i left x l (k + 1) := by
 subst hov
 have hat := Z0P (Z09 (l := l) hk)
 have hy : l.getD k 0 < n := by
   have : l.getD k 0 = l[k] := by simp [hk]
   rw [this]; exact hl _ (List.getElem_mem hk)
 have hg := Z5t (Z2p h.b hy)
 have hul : (ucs B).length = n := by rw [Z05, h.b]
 have hin := Zn l
 have hb2 : (B.getD (l.getD k 0) 0).testBit x = false := h0
 have hb := b_lt h (i := l.getD k 0)
 have hle := h.le
 have hsh := ZeV (b := B.getD (l.getD k 0) 0) (i := x) (by omega)
 have hlt := Zb8 (b := B.getD (l.getD k 0) 0) (i := x) (by omega)
 have ha := Z7o hlt
 have he := ZdC (B.getD (l.getD k 0) 0) x
 rw [show l.getD k default = l.getD k 0 from rfl] at hat
 generalize l.getD k 0 = y at *
 generalize B.getD y 0 = b at *
 have g1 : (k : Int) < l.length := by omega
 have g2 : (y : Int) < n := by omega
 simp only [oiS]
 simp (disch := omega) only [Z9, Zh, Zc, Za, Z4, Z2, Z3, Z0, Zd, Zo, Zj, stp, just, Rd.bind, Rd.run, Rd.opt, upds, tsz, rdCells, fieldOf, Zb, aLoad, Z6, aNum, aBin, aInt, Nat.reduceAdd, Nat.reduceLT, Nat.reduceBEq, Nat.reduceEqDiff, Nat.reduceLeDiff, ↓reduceIte, Ze, Nat.zero_add, beq_iff_eq, decide_true, Z5, and_true, Int.natCast_nonneg, Int.toNat_natCast, List.elem_cons, List.elem_nil, List.length_cons, List.length_nil, List.getElem?_cons_zero, List.getElem?_cons_succ, seqN, bindN, regN, Nat.mul_one, beq_self_eq_true, Bool.false_eq_true, T_3, T_36, Z2h, ZO, Z1c, beq_self_eq_true, ZkP, Zce, Zcz, ZjP, Zkk, Zjq, Z078, Zx6, Zzn, ZyH, Zzl, ZZ7, ZAa, Zxm, Zyt, Zx1, Zyo, Zx9, Zxg, ZA1, Zz1, Zzb, Z040, Zy0, ZzZ, Z007, Z06e, Z0c2, Z0bm, ZZg, Z0aj, Z04Z, Z0vs, Z0gR, Z0hA, Z0jc, ZY5, Zjz, Zks, g1, g2, hat, hg, hul, hin, hsh, ha, he, hb2, ZK (show k < 1000000 by omega)]
 exact ⟨_, rfl, rfl⟩
theorem Z0BW {C : Callee} {ls : List Ld} {B : List Nat} {n : Nat} {e1 e2 : Bool} {ov : AV} {m i left x : Nat} {l : List Nat} (h : TrOk ls B n) (hx : x < n) (hl : ∀ i ∈ l, i < n) (h6 : l.length ≤ 6) (k : Nat) (hk : k < l.length) (h0 : bit B (l.getD k 0) x = true) :
   ∃ H', (execA E C (fg 105) 0 62 [] 1000 Z49) (oiS ls B n e1 e2 ov m i left x l k) = some (.ret, ([(4, .int .i64 21)], H')) := by
 have hat := Z0P (Z09 (l := l) hk)
 have hy : l.getD k 0 < n := by
   have : l.getD k 0 = l[k] := by simp [hk]
   rw [this]; exact hl _ (List.getElem_mem hk)
 have hg := Z5t (Z2p h.b hy)
 have hul : (ucs B).length = n := by rw [Z05, h.b]
 have hin := Zn l
 have hb2 : (B.getD (l.getD k 0) 0).testBit x = true := h0
 have hb := b_lt h (i := l.getD k 0)
 have hle := h.le
 have hsh := ZeV (b := B.getD (l.getD k 0) 0) (i := x) (by omega)
 have hlt := Zb8 (b := B.getD (l.getD k 0) 0) (i := x) (by omega)
 have ha := Z7o hlt
 have he := ZdC (B.getD (l.getD k 0) 0) x
 rw [show l.getD k default = l.getD k 0 from rfl] at hat
 generalize l.getD k 0 = y at *
 generalize B.getD y 0 = b at *
 have g1 : (k : Int) < l.length := by omega
 have g2 : (y : Int) < n := by omega
 simp only [oiS]
 simp (disch := omega) only [Z01, Z9, ZT, Zc, Za, Z4, Z2, Z3, Z0, Zd, Zo, Zj, stp, just, Rd.bind, Rd.run, Rd.opt, upds, tsz, rdCells, fieldOf, Zb, aLoad, Z6, aNum, aBin, aInt, Nat.reduceAdd, Nat.reduceLT, Nat.reduceBEq, Nat.reduceEqDiff, Nat.reduceLeDiff, ↓reduceIte, Ze, Nat.zero_add, beq_iff_eq, decide_true, Z5, and_true, Int.natCast_nonneg, Int.toNat_natCast, List.elem_cons, List.elem_nil, List.length_cons, List.length_nil, List.getElem?_cons_zero, List.getElem?_cons_succ, seqN, bindN, regN, Nat.mul_one, beq_self_eq_true, Bool.false_eq_true, T_3, T_36, Z2h, ZO, Z1c, beq_self_eq_true, ZkP, Zce, Zcz, ZjP, Zkk, Zjq, Z078, Zx6, Zzn, ZyH, Zzl, ZZ7, ZAa, Zxm, Zyt, Zx1, Zyo, Zx9, Zxg, ZA1, Zz1, Zzb, Z040, Zy0, ZzZ, Z007, Z06e, Z0c2, Z0bm, ZZg, Z0aj, Z04Z, ZY5, Zjz, Zks, g1, g2, hat, hg, hul, hin, hsh, ha, he, hb2]
 exact ⟨_, rfl⟩
def IV (l : List Int) (a : AV) : Prop := (l = [] ∧ a = .nilsl) ∨ ∃ ex, a = .imm (ics l) l.length ex
theorem Z55 {l : List Int} {a : AV} (h : IV l a) (n : Nat) : snap (n + 1) a = .pure (a, []) := by
 rcases h with ⟨_, rfl⟩ | ⟨e, rfl⟩ <;> rfl
theorem ZJW {i : Nat} (h : i < 6) : 1 <<< i < 64 := by
 have : i = 0 ∨ i = 1 ∨ i = 2 ∨ i = 3 ∨ i = 4 ∨ i = 5 := by omega
 rcases this with e | e | e | e | e | e <;> rw [e] <;> decide
theorem Z01F {s i n : Nat} (hn : n ≤ 6) (hs : s < 2 ^ n) : ∀ k ∈ lst (s &&& i), k < n := Z4S hn (ZQl hs)
abbrev odS (ls : List Ld) (B : List Nat) (n : Nat) (e1 e2 ex : Bool) (o : List Int) (left i : Nat) : St :=
 ([(20, .int .i64 i), (19, .int .i64 o.length), (18, .imm (ics o) o.length ex), (5, .int .u64 (left : Int)), (2, .ptr 2 0 2)], [(2, ⟨.box, trA ls B n e1 e2⟩)])
structure LiC (C : Callee) : Prop where
 nil : ∀ (site : Nat → Nat) seen, aBack site true seen (thaw C 97 [.int .u64 0] [] 0) = .pure (.nilsl, [])
 ref : ∀ (site : Nat → Nat) seen (s : Nat), s < 64 → s ≠ 0 → aBack site true seen (thaw C 97 [.int .u64 (s : Int)] [] 0) = back1 (site 0) seen (fun k => .ref k 0 (lst s).length (lst s).length (lst s).length 1 false) ⟨.row, ins (lst s)⟩
theorem liC (d : Nat) : LiC (callA E fg 1000 (d + 4)) := ⟨fun site seen => ZUJ (d := d) (site := site) (seen := seen), fun site seen s h h0 => Zmn (d := d) (s := s) (site := site) (seen := seen) h h0⟩
theorem Z0GK {C : Callee} (hC : LiC C) {ls : List Ld} {B : List Nat} {n : Nat} {e1 e2 ex : Bool} {o : List Int} {left : Nat} (h : TrOk ls B n) (hl : left < 2 ^ n) (hm : o.length < 900) (i : Nat) (hi : i < o.length) {x : Nat} (hx : o[i]? = some (x : Int)) (hxn : x < n) (hb : left.testBit x = true) (h0 : (lst (left &&& (63 - 1 <<< x))).any (fun k => bit B k x) = false) :
   ∃ s', (execA E C (fg 105) 0 62 [] 1000 Z3Z) (odS ls B n e1 e2 ex o left i) = some (.normal, s') ∧ headA [] s' = odS ls B n e1 e2 ex o (left &&& (63 - 1 <<< x)) (i + 1) := by
 have hle := h.le
 have l64 := lt64 hle hl
 have hat := Z38 hx
 have hil := ZC o
 have hsh := ZeV (b := left) (i := x) (by omega)
 have hlt := Zb8 (b := left) (i := x) (by omega)
 have ha := Z7o hlt
 have he := ZYS left x
 have hshl := Zic (i := x) (by omega)
 have han := Z9K l64 (ZJW (show x < 6 by omega))
 have hlen : (cls lc ls).length = n * 5 := by rw [Zv ZJ, h.l]
 have g1 : (i : Int) < o.length := by omega
 have g2 : ¬ (x : Int) ≥ n := by omega
 have g3 : (x : Int) < n := by omega
 have l2 : left &&& (63 - 1 <<< x) < 64 := Nat.lt_of_le_of_lt Nat.and_le_left l64
 have hln := Z01F (i := 63 - 1 <<< x) hle hl
 have hl6 := Z2m (left &&& (63 - 1 <<< x))
 simp only [odS]
 by_cases hz : left &&& (63 - 1 <<< x) = 0
 · have hr := hC.nil
   have hloop := Z0e1 (f := (execA E C (fg 105) 0 62 [] 1000 Z49)) (s0 := ([(47, .int .i64 0), (46, .int .i64 0), (45, .nilsl), (20, .int .i64 i), (19, .int .i64 o.length), (18, .imm (ics o) o.length ex), (7, .int .i64 (x : Int)), (5, .int .u64 0), (2, .ptr 2 0 2)], [(2, ⟨.box, trA ls B n e1 e2⟩)])) rfl
     (e := .exit 3) (se := ([(48, .bool false), (47, .int .i64 0), (46, .int .i64 0), (45, .nilsl), (20, .int .i64 i), (19, .int .i64 o.length), (18, .imm (ics o) o.length ex), (7, .int .i64 (x : Int)), (5, .int .u64 0), (2, .ptr 2 0 2)], [(2, ⟨.box, trA ls B n e1 e2⟩)]))
     (by simp (disch := omega) only [ZG, Z9, Zc, Za, Z4, Z2, Z3, Z0, Zo, stp, just, Rd.bind, Rd.run, Rd.opt, upds, aBin, aInt, Nat.reduceEqDiff, Nat.reduceLeDiff, ↓reduceIte, decide_false, Z5, List.elem_nil, seqN, bindN, regN, Int.lt_irrefl, Bool.false_eq_true, ZkP, Zce, Zcz, ZjP, Zkk, Zjq, Zjz, Zks]) (by simp)
   rw [hz] at han ⊢
   simp (disch := omega) only [Z9, Zz, Zh, ↓gd, ZN, Bool.not_false, Zc, Za, Z4, Z2, Z3, Z0, Zd, Zo, Zj, stp, opPick, just, Rd.bind, Rd.run, Rd.opt, upds, tsz, rdCells, fieldOf, Zb, aLoad, Z6, aNum, aLen, Zf, aBin, aInt, Nat.reduceAdd, Nat.reduceLT, Nat.reduceBEq, Nat.reduceEqDiff, Nat.reduceLeDiff, ↓reduceIte, reduceCtorEq, Ze, decide_eq_false_iff_not, Nat.zero_add, Nat.add_zero, beq_iff_eq, List.getElem?_toArray, Bool.not_false, decide_true, decide_false, Z5, and_true, Int.natCast_nonneg, Int.toNat_natCast, aCall, snaps, List.append_nil, List.elem_cons, List.elem_nil, List.length_cons, List.length_nil, List.getElem?_cons_zero, seqN, bindN, regN, Zw, Nat.mul_one, beq_self_eq_true, Bool.false_eq_true, T_3, T_36, Z0X, ZO, beq_self_eq_true, Z6D, Z4K, Z4L, Z8i, Z7p, Z7E, ZaT, Z8k, Z88, Z7G, Z87, ZaL, Z6X, Z8B, Z6E, Z8W, Z7P, Z6F, Z5I, Z6q, Z79, Z8m, Z6p, Zb3, Z8h, Z7M, Zat, ZaO, Zax, Z6Y, Z8V, Z5G, Z7K, Zf4, Zfe, ZeB, Zjb, Zci, Zcr, Zja, ZkC, Zik, Zko, ZaM, ZaQ, ZaC, Zb5, Zt6, Zh2, Zh0, ZhQ, ZgD, ZgJ, ZhL, ZwN, Zho, ZgK, ZgV, ZhK, ZhT, ZtS, Zu8, ZtH, ZuK, ZaW, Zas, ZaZ, Z01s, ZxV, ZxM, ZzF, Zaz, Z5T, Z8w, g1, g2, hat, hil, hsh, ha, he, hb, hshl, han, hr, hloop, if_pos, cl0, ZK (show i < 1000000 by omega)]
   exact ⟨_, rfl, rfl⟩
 · have hr := fun site seen => hC.ref site seen _ l2 hz
   have hin := Zn (lst (left &&& (63 - 1 <<< x)))
   have hloop := loopN (f := (execA E C (fg 105) 0 62 [] 1000 Z49)) (fun k => oiS ls B n e1 e2 (.imm (ics o) o.length ex) o.length i (left &&& (63 - 1 <<< x)) x (lst (left &&& (63 - 1 <<< x))) k) (lst (left &&& (63 - 1 <<< x))).length
     (fun k hk => Z0rX rfl h hxn hln hl6 k hk (by
       have := List.any_eq_false.1 h0 ((lst (left &&& (63 - 1 <<< x))).getD k 0) (by
         have : (lst (left &&& (63 - 1 <<< x))).getD k 0 = (lst (left &&& (63 - 1 <<< x)))[k] := by simp [hk]
         rw [this]; exact List.getElem_mem hk)
       simpa using this)) rfl (by omega)
     (e := .exit 3) (se := ([(48, .bool false), (47, .int .i64 (lst (left &&& (63 - 1 <<< x))).length), (46, .int .i64 (lst (left &&& (63 - 1 <<< x))).length), (45, .ref 45 0 (lst (left &&& (63 - 1 <<< x))).length (lst (left &&& (63 - 1 <<< x))).length (lst (left &&& (63 - 1 <<< x))).length 1 false), (20, .int .i64 i), (19, .int .i64 o.length), (18, .imm (ics o) o.length ex), (7, .int .i64 (x : Int)), (5, .int .u64 (left &&& (63 - 1 <<< x) : Nat)), (2, .ptr 2 0 2)],
       [(2, ⟨.box, trA ls B n e1 e2⟩), (45, ⟨.row, ins (lst (left &&& (63 - 1 <<< x)))⟩)]))
     (by
       simp only [oiS]
       generalize lst (left &&& (63 - 1 <<< x)) = l at *
       generalize left &&& (63 - 1 <<< x) = s at *
       simp (disch := omega) only [ZG, Z9, Zc, Za, Z4, Z2, Z3, Z0, Zo, stp, just, Rd.bind, Rd.run, Rd.opt, upds, aBin, aInt, Nat.reduceEqDiff, Nat.reduceLeDiff, ↓reduceIte, decide_false, Z5, List.elem_nil, seqN, bindN, regN, Int.lt_irrefl, Bool.false_eq_true, ZkP, Zce, Zcz, ZjP, Zkk, Zjq, Zjz, Zks]) (by simp)
   simp only [oiS, cl0] at hloop
   generalize lst (left &&& (63 - 1 <<< x)) = l at *
   generalize left &&& (63 - 1 <<< x) = s at *
   simp (disch := omega) only [Z9, Zz, Zh, ↓gd, ZN, Bool.not_false, Zc, Za, Z4, Z2, Z3, Z0, Zk, Zd, Zq, Zi, Zo, Zj, stp, opPick, just, Rd.bind, Rd.run, Rd.opt, upds, tsz, rdCells, fieldOf, Zb, aLoad, Z6, aNum, aLen, Zf, aBin, aInt, Nat.reduceAdd, Nat.reduceLT, Nat.reduceBEq, Nat.reduceEqDiff, Nat.reduceLeDiff, ↓reduceIte, reduceCtorEq, Ze, decide_eq_false_iff_not, Nat.zero_add, Nat.add_zero, beq_iff_eq, List.nil_append, List.getElem?_toArray, Bool.not_false, decide_true, decide_false, Z5, and_true, Int.natCast_nonneg, Int.toNat_natCast, aCall, snaps, List.append_nil, List.elem_cons, List.elem_nil, List.length_cons, List.length_nil, List.getElem?_cons_zero, Zs, seqN, bindN, regN, Zw, Z0Z, Nat.mul_one, Nat.zero_mul, beq_self_eq_true, Bool.false_eq_true, T_3, T_36, Z0X, ZO, beq_self_eq_true, Z6D, Z4K, Z4L, Z8i, Z7p, Z7E, ZaT, Z8k, Z88, Z7G, Z87, ZaL, Z6X, Z8B, Z6E, Z8W, Z7P, Z6F, Z5I, Z6q, Z79, Z8m, Z6p, Zb3, Z8h, Z7M, Zat, ZaO, Zax, Z6Y, Z8V, Z5G, Z7K, Zf4, Zfe, ZeB, Zjb, Zci, Zcr, Zja, ZkC, Zik, Zko, ZaM, ZaQ, ZaC, Zb5, Zt6, Zh2, Zh0, ZhQ, ZgD, ZgJ, ZhL, ZwN, Zho, ZgK, ZgV, ZhK, ZhT, ZtS, Zu8, ZtH, ZuK, ZaW, Zas, ZaZ, Z01s, ZxV, ZxM, ZzF, Zaz, Z5T, Z8w, g1, g2, hat, hil, hsh, ha, he, hb, hshl, han, hr, hin, hloop, if_pos, ZK (show i < 1000000 by omega)]
   exact ⟨_, rfl, rfl⟩
theorem Z0C9 {C : Callee} (hC : LiC C) {ls : List Ld} {B : List Nat} {n : Nat} {e1 e2 ex : Bool} {o : List Int} {left : Nat} (h : TrOk ls B n) (hl : left < 2 ^ n) (hm : o.length < 900) (i : Nat) (hi : i < o.length) {x : Int} (hx : o[i]? = some x) (h0 : odE B n left x ≠ 0) :
   ∃ H', (execA E C (fg 105) 0 62 [] 1000 Z3Z) (odS ls B n e1 e2 ex o left i) = some (.ret, ([(4, .int .i64 (odE B n left x))], H')) := by
 have hle := h.le
 have l64 := lt64 hle hl
 have hat := Z38 hx
 have hil := ZC o
 have hlen : (cls lc ls).length = n * 5 := by rw [Zv ZJ, h.l]
 have g1 : (i : Int) < o.length := by omega
 simp only [odS]
 by_cases c1 : x < 0
 · have e : odE B n left x = 2 := by unfold odE; rw [if_pos (.inl c1)]
   rw [e]
   simp (disch := omega) only [Z01, Z9, ZT, ↓gd, ZN, Bool.not_false, Zc, Za, Z4, Z2, Z3, Z0, Zo, Zj, stp, opPick, just, Rd.bind, Rd.run, Rd.opt, upds, tsz, rdCells, aLoad, Z6, aNum, aBin, aInt, Nat.reduceLT, Nat.reduceBEq, Nat.reduceEqDiff, Nat.reduceLeDiff, ↓reduceIte, reduceCtorEq, Bool.not_false, decide_true, Z5, and_true, Int.natCast_nonneg, Int.toNat_natCast, List.elem_cons, List.elem_nil, seqN, bindN, regN, Nat.mul_one, beq_self_eq_true, Bool.false_eq_true, T_3, T_36, beq_self_eq_true, Z6D, Z4K, Z4L, Z8i, Z7p, Z7E, ZaT, Z8k, Z88, Z7G, Z87, ZaL, Z6X, Z8B, Z6E, Z8W, Z7P, Z6F, Z5I, Z6q, Z79, Z8m, Z6p, Zb3, Z8h, Z7M, Zat, ZaO, Zax, Z6Y, Z8V, Z5G, Z7K, ZaM, ZaQ, ZaC, Zb5, ZaW, Zas, ZaZ, Zaz, Z5T, Z8w, g1, c1, hat, hil]
   exact ⟨_, rfl⟩
 · by_cases c2 : (n : Int) ≤ x
   · have e : odE B n left x = 2 := by unfold odE; rw [if_pos (.inr c2)]
     have c3 : x ≥ n := c2
     rw [e]
     simp (disch := omega) only [Z01, Z9, ZT, ↓gd, ZN, Zc, Za, Z4, Z2, Z3, Z0, Zd, Zo, Zj, stp, opPick, just, Rd.bind, Rd.run, Rd.opt, upds, tsz, rdCells, fieldOf, Zb, aLoad, Z6, aNum, aLen, Zf, aBin, aInt, Nat.reduceAdd, Nat.reduceLT, Nat.reduceBEq, Nat.reduceEqDiff, Nat.reduceLeDiff, ↓reduceIte, Ze, Nat.zero_add, Nat.add_zero, List.getElem?_toArray, decide_true, decide_false, Z5, and_true, Int.natCast_nonneg, Int.toNat_natCast, List.elem_cons, List.elem_nil, List.length_cons, List.length_nil, List.getElem?_cons_zero, seqN, bindN, regN, Nat.mul_one, beq_self_eq_true, Bool.false_eq_true, T_3, T_36, Z0X, ZO, beq_self_eq_true, Z6D, Z4K, Z4L, Z8i, Z7p, Z7E, ZaT, Z8k, Z88, Z7G, Z87, ZaL, Z6X, Z8B, Z6E, Z8W, Z7P, Z6F, Z5I, Z6q, Z79, Z8m, Z6p, Zb3, Z8h, Z7M, Zat, ZaO, Zax, Z6Y, Z8V, Z5G, Z7K, ZaM, ZaQ, ZaC, Zb5, ZaW, Zas, ZaZ, Zaz, Z5T, Z8w, g1, c1, c3, hat, hil]
     exact ⟨_, rfl⟩
   · obtain ⟨y, rfl⟩ : ∃ y : Nat, x = y := ⟨x.toNat, by omega⟩
     have c3 : ¬ (y : Int) ≥ n := by omega
     have hyn : y < n := by omega
     have hsh := ZeV (b := left) (i := y) (by omega)
     have hlt := Zb8 (b := left) (i := y) (by omega)
     have ha := Z7o hlt
     have he := ZYS left y
     by_cases hb : left.testBit y = false
     · have e : odE B n left y = 6 := by unfold odE; rw [if_neg (by omega), if_pos (by simpa using hb)]
       rw [e]
       simp (disch := omega) only [Z01, Z9, ZT, ↓gd, ZN, Bool.not_false, Zc, Za, Z4, Z2, Z3, Z0, Zd, Zo, Zj, stp, opPick, just, Rd.bind, Rd.run, Rd.opt, upds, tsz, rdCells, fieldOf, Zb, aLoad, Z6, aNum, aLen, Zf, aBin, aInt, Nat.reduceAdd, Nat.reduceLT, Nat.reduceBEq, Nat.reduceEqDiff, Nat.reduceLeDiff, ↓reduceIte, Ze, decide_eq_false_iff_not, Nat.zero_add, Nat.add_zero, beq_iff_eq, List.getElem?_toArray, Bool.not_false, decide_true, decide_false, Z5, and_true, Int.natCast_nonneg, Int.toNat_natCast, List.elem_cons, List.elem_nil, List.length_cons, List.length_nil, List.getElem?_cons_zero, seqN, bindN, regN, Nat.mul_one, beq_self_eq_true, Bool.false_eq_true, T_3, T_36, Z0X, ZO, beq_self_eq_true, Z6D, Z4K, Z4L, Z8i, Z7p, Z7E, ZaT, Z8k, Z88, Z7G, Z87, ZaL, Z6X, Z8B, Z6E, Z8W, Z7P, Z6F, Z5I, Z6q, Z79, Z8m, Z6p, Zb3, Z8h, Z7M, Zat, ZaO, Zax, Z6Y, Z8V, Z5G, Z7K, Zf4, Zfe, ZeB, Zjb, Zci, Zcr, Zja, ZkC, Zik, Zko, ZaM, ZaQ, ZaC, Zb5, ZaW, Zas, ZaZ, Zaz, Z5T, Z8w, g1, c3, hat, hil, hsh, ha, he, hb, if_pos]
       exact ⟨_, rfl⟩
     · have hany : (lst (left &&& (63 - 1 <<< y))).any (fun k => bit B k y) = true := by
         unfold odE at h0
         rw [if_neg (by omega), if_neg (by simpa using hb)] at h0
         split at h0
         · rename_i h1; simpa using h1
         · simp at h0
       have e : odE B n left y = 21 := by unfold odE; rw [if_neg (by omega), if_neg (by simpa using hb), if_pos (by simpa using hany)]
       have hb' : left.testBit y = true := by simpa using hb
       rw [e]
       have hshl := Zic (i := y) (by omega)
       have han := Z9K l64 (ZJW (show y < 6 by omega))
       have l2 : left &&& (63 - 1 <<< y) < 64 := Nat.lt_of_le_of_lt Nat.and_le_left l64
       have hln := Z01F (i := 63 - 1 <<< y) hle hl
       have hl6 := Z2m (left &&& (63 - 1 <<< y))
       have hz : left &&& (63 - 1 <<< y) ≠ 0 := by
         intro hz; rw [hz] at hany; simp [show lst 0 = [] from rfl] at hany
       have hr := fun site seen => hC.ref site seen _ l2 hz
       have hin := Zn (lst (left &&& (63 - 1 <<< y)))
       generalize lst (left &&& (63 - 1 <<< y)) = l at *
       generalize left &&& (63 - 1 <<< y) = s at *
       have hk : fst1 l.length (fun k => bit B (l.getD k 0) y) < l.length := by
         obtain ⟨z, hz1, hz2⟩ := List.any_eq_true.1 hany
         obtain ⟨j, hj, rfl⟩ := List.mem_iff_getElem.1 hz1
         have := ZEH l.length (fun k => bit B (l.getD k 0) y)
         have h3 : (List.range l.length).any (fun k => bit B (l.getD k 0) y) = true := List.any_eq_true.2 ⟨j, List.mem_range.2 hj, by simpa [hj] using hz2⟩
         rw [h3] at this
         exact of_decide_eq_true this.symm
       have hat2 := Z6r (p := fun k => bit B (l.getD k 0) y) hk
       obtain ⟨H', hbad⟩ := Z0BW (C := C) (e1 := e1) (e2 := e2) (ov := .imm (ics o) o.length ex) (m := o.length) (i := i) (left := s) h hyn hln hl6 _ hk hat2
       have hloop := loopN (f := (execA E C (fg 105) 0 62 [] 1000 Z49)) (fun k => oiS ls B n e1 e2 (.imm (ics o) o.length ex) o.length i s y l k) (fst1 l.length (fun k => bit B (l.getD k 0) y))
         (fun k hk' => Z0rX rfl h hyn hln hl6 k (by omega) (Z73 (p := fun k => bit B (l.getD k 0) y) hk')) rfl (by omega) hbad (by simp)
       simp only [oiS, cl0] at hloop
       simp (disch := omega) only [Z01, Z9, Zh, ZT, ↓gd, ZN, Bool.not_false, Zc, Za, Z4, Z2, Z3, Z0, Zk, Zd, Zq, Zi, Zo, Zj, stp, opPick, just, Rd.bind, Rd.run, Rd.opt, upds, tsz, rdCells, fieldOf, Zb, aLoad, Z6, aNum, aLen, Zf, aBin, aInt, Nat.reduceAdd, Nat.reduceLT, Nat.reduceBEq, Nat.reduceEqDiff, Nat.reduceLeDiff, ↓reduceIte, reduceCtorEq, Ze, decide_eq_false_iff_not, Nat.zero_add, Nat.add_zero, beq_iff_eq, List.nil_append, List.getElem?_toArray, Bool.not_false, decide_true, decide_false, Z5, and_true, Int.natCast_nonneg, Int.toNat_natCast, aCall, snaps, List.append_nil, List.elem_cons, List.elem_nil, List.length_cons, List.length_nil, List.getElem?_cons_zero, Zs, seqN, bindN, regN, Zw, Z0Z, Nat.mul_one, Nat.zero_mul, beq_self_eq_true, Bool.false_eq_true, T_3, T_36, Z0X, ZO, beq_self_eq_true, Z6D, Z4K, Z4L, Z8i, Z7p, Z7E, ZaT, Z8k, Z88, Z7G, Z87, ZaL, Z6X, Z8B, Z6E, Z8W, Z7P, Z6F, Z5I, Z6q, Z79, Z8m, Z6p, Zb3, Z8h, Z7M, Zat, ZaO, Zax, Z6Y, Z8V, Z5G, Z7K, Zf4, Zfe, ZeB, Zjb, Zci, Zcr, Zja, ZkC, Zik, Zko, ZaM, ZaQ, ZaC, Zb5, Zt6, Zh2, Zh0, ZhQ, ZgD, ZgJ, ZhL, ZwN, Zho, ZgK, ZgV, ZhK, ZhT, ZtS, Zu8, ZtH, ZuK, ZaW, Zas, ZaZ, Zaz, Z5T, Z8w, g1, c3, hat, hil, hsh, ha, he, hb', hshl, han, hr, hin, hloop, if_pos]
       exact ⟨_, rfl⟩
end Go.AM.YtgfnbmfjbjopkaaDoor
end
noncomputable section
namespace Go.AM.YtgfnbmfjbjopkaaDoor
open Go Go.AM Go.AM.Mule
theorem ZK6 {B : List Nat} {n left : Nat} {x : Int} (h : odE B n left x = 0) : ∃ y : Nat, x = y ∧ y < n ∧ left.testBit y = true ∧ (lst (left &&& (63 - 1 <<< y))).any (fun k => bit B k y) = false := by
 unfold odE at h
 split at h
 · simp at h
 · rename_i h1
   split at h
   · simp at h
   · rename_i h2
     split at h
     · simp at h
     · rename_i h3
       refine ⟨x.toNat, by omega, by omega, by simpa using h2, by simpa using h3⟩
theorem Z0w9 {d : Nat} {ls : List Ld} {B : List Nat} {n : Nat} {e1 e2 : Bool} {o : List Int} {a : AV} (h : TrOk ls B n) (ha : IV o a) (hm : o.length < 900) :
   rsOf (bodyA E (callA E fg 1000 (d + 4)) fg 1000 105 [.agg (trA ls B n e1 e2), a] [] 0) = some (.int .i64 (ordersE B n o)) := by
 have hlen : (cls lc ls).length = n * 5 := by rw [Zv ZJ, h.l]
 have hall := fun (site : Nat → Nat) seen => Z8n (d := d + 3) (site := site) (seen := seen) (ls := ls) (B := B) (e1 := e1) (e2 := e2) h.le
 have hli := liC d
 generalize callA E fg 1000 (d + 4) = C at *
 rcases ha with ⟨rfl, rfl⟩ | ⟨ex, rfl⟩
 · have e : ordersE B n [] = 5 := by
     have := h.ne
     unfold ordersE; rw [if_pos]; simp; omega
   have g : ¬ (0 : Int) = (n : Int) := by have := h.ne; omega
   rw [e]
   simp (disch := omega) only [Z01, Z9, Zp, Zc, Za, Z4, Z2, Z3, Z0, Zk, Zd, Zq, Zm, Zj, stp, opBox, just, Rd.bind, Rd.run, Rd.opt, upds, acells, rdCells, fieldOf, Zb, aLoad, resA, resL, fresh, aLen, Zf, aBin, aInt, Nat.reduceAdd, Nat.reduceBEq, Nat.reduceEqDiff, Nat.reduceLeDiff, ↓reduceIte, reduceCtorEq, Ze, Nat.zero_add, Nat.add_zero, bne_iff_ne, ne_eq, List.getElem?_toArray, not_false_eq_true, Z5, Option.map_some, List.elem_cons, List.elem_nil, List.length_cons, List.length_nil, List.getElem?_cons_zero, seqN, bindN, regN, beq_self_eq_true, Bool.false_eq_true, T_36, Z0X, ZO, beq_self_eq_true, Zrr, Zfr, ZfN, Zfn, ZrG, ZfX, Zgo, Zf6, Zgx, ZfM, ZeP, Zgs, Zp7, Zgb, ZfT, Zpv, Zrz, ZpV, ZpO, ZoZ, Zo4, Zoa, ZBE, g]
 · have hil := ZC o
   by_cases hn : o.length = n
   · have g : ((o.length : Int) = (n : Int)) := by omega
     have hE : ordersE B n o = firstE o.length fun i => odE B n (odR n (o.take i)) (o.getD i 0) := by unfold ordersE; rw [if_neg (by simpa using hn)]
     rw [hE]
     have hle := Zec o.length (fun i => odE B n (odR n (o.take i)) (o.getD i 0) != 0)
     have hround : ∀ i, i < fst1 o.length (fun i => odE B n (odR n (o.take i)) (o.getD i 0) != 0) → ∃ s', (execA E C (fg 105) 0 62 [] 1000 Z3Z) (odS ls B n e1 e2 ex o (odR n (o.take i)) i) = some (.normal, s') ∧ headA [] s' = odS ls B n e1 e2 ex o (odR n (o.take (i + 1))) (i + 1) := by
       intro i hi
       have h0 := Z73 hi
       have hx : o[i]? = some (o.getD i 0) := Z09 (l := o) (by omega)
       obtain ⟨y, hy, h1, h2, h3⟩ := ZK6 (by simpa using h0 : odE B n (odR n (o.take i)) (o.getD i 0) = 0)
       rw [List.take_add_one, hx, Option.toList_some, ZVR, hy]
       rw [hy] at hx
       exact Z0GK hli h (ZqS n _) hm i (by omega) hx h1 h2 h3
     unfold firstE
     by_cases hlt : fst1 o.length (fun i => odE B n (odR n (o.take i)) (o.getD i 0) != 0) < o.length
     · rw [if_pos hlt]
       have hat := Z6r hlt
       generalize fst1 o.length (fun i => odE B n (odR n (o.take i)) (o.getD i 0) != 0) = k at *
       obtain ⟨H', hb⟩ := Z0C9 hli (e1 := e1) (e2 := e2) (ex := ex) h (ZqS n (o.take k)) hm k hlt (Z09 (l := o) hlt) (by simpa using hat)
       have hloop := loopN (f := (execA E C (fg 105) 0 62 [] 1000 Z3Z)) (fun i => odS ls B n e1 e2 ex o (odR n (o.take i)) i) k hround rfl (by omega) hb (by simp)
       simp only [odS, List.take_zero] at hloop
       rw [show odR n [] = 2 ^ n - 1 from rfl] at hloop
       simp only [cl0] at hloop
       simp (disch := omega) only [Z01, Z9, ZT, Zp, Zc, Za, Z4, Z2, Z3, Z0, Zk, Zd, Zq, Zm, Zj, stp, opBox, just, Rd.bind, Rd.run, Rd.opt, upds, acells, rdCells, fieldOf, Zb, aLoad, resA, resL, fresh, aLen, Zf, aBin, aInt, Nat.reduceAdd, Nat.reduceBEq, Nat.reduceEqDiff, Nat.reduceLeDiff, ↓reduceIte, reduceCtorEq, Ze, Nat.zero_add, Nat.add_zero, bne_iff_ne, ne_eq, List.getElem?_toArray, not_true_eq_false, Z5, aCall, snaps, List.append_nil, Option.map_some, List.elem_cons, List.elem_nil, List.length_cons, List.length_nil, List.getElem?_cons_zero, List.drop_zero, List.take_succ_cons, List.take_nil, seqN, bindN, regN, Z0a, ZE, Nat.le_refl, beq_self_eq_true, Bool.false_eq_true, T_36, Z0X, ZO, beq_self_eq_true, Zrr, Zfr, ZfN, Zfn, ZrG, ZfX, Zgo, Zf6, Zgx, ZfM, ZeP, Zgs, Zp7, Zgb, ZfT, Zpv, Zrz, ZpV, ZpO, ZoZ, Z0aG, ZIs, ZRq, ZW6, ZSR, Z05N, ZSo, ZLd, ZHQ, ZGd, ZXO, Z06K, Z04H, Z03c, Z02y, Zo4, Zoa, ZBE, eq_true g, hall, hloop]
       rfl
     · rw [if_neg hlt]
       have e : fst1 o.length (fun i => odE B n (odR n (o.take i)) (o.getD i 0) != 0) = o.length := by omega
       rw [e] at hround
       have hloop := loopN (f := (execA E C (fg 105) 0 62 [] 1000 Z3Z)) (fun i => odS ls B n e1 e2 ex o (odR n (o.take i)) i) o.length hround rfl (by omega)
         (e := .exit 0) (se := ([(21, .bool false), (20, .int .i64 o.length), (19, .int .i64 o.length), (18, .imm (ics o) o.length ex), (5, .int .u64 (odR n o : Nat)), (2, .ptr 2 0 2)], [(2, ⟨.box, trA ls B n e1 e2⟩)]))
         (by
           simp only [odS, List.take_length]
           simp (disch := omega) only [ZG, Z9, Zc, Za, Z4, Z2, Z3, Z0, Zo, stp, just, Rd.bind, Rd.run, Rd.opt, upds, aBin, aInt, Nat.reduceEqDiff, Nat.reduceLeDiff, ↓reduceIte, decide_false, Z5, List.elem_nil, seqN, bindN, regN, Int.lt_irrefl, Bool.false_eq_true, Z6D, Z4K, Z4L, Z8i, Z7p, Z7E, Z5T, Z8w]) (by simp)
       simp only [odS, List.take_zero] at hloop
       rw [show odR n [] = 2 ^ n - 1 from rfl] at hloop
       simp only [cl0] at hloop
       simp (disch := omega) only [Z9, Zz, Zp, Zc, Za, Z4, Z0e, Z2, Z3, Z0, Zk, Zd, Zq, Zm, Zo, Zj, stp, opBox, just, Rd.bind, Rd.run, Rd.opt, upds, acells, rdCells, fieldOf, Zb, aLoad, resA, resL, fresh, aLen, Zf, aBin, aInt, Nat.reduceAdd, Nat.reduceBEq, Nat.reduceEqDiff, Nat.reduceLeDiff, ↓reduceIte, reduceCtorEq, Ze, Nat.zero_add, Nat.add_zero, bne_iff_ne, ne_eq, List.getElem?_toArray, not_true_eq_false, Z5, aCall, snaps, List.append_nil, Option.map_some, List.elem_cons, List.elem_nil, List.length_cons, List.length_nil, List.getElem?_cons_zero, List.drop_zero, List.take_succ_cons, List.take_nil, seqN, bindN, regN, Z0a, ZE, Nat.le_refl, beq_self_eq_true, Bool.false_eq_true, T_36, Z0X, ZO, beq_self_eq_true, Zrr, Zfr, ZfN, Zfn, ZrG, ZfX, Zgo, Zf6, Zgx, ZfM, ZeP, Zgs, Zp7, Zgb, ZfT, Zpv, Zrz, ZpV, ZpO, ZoZ, Z0aG, ZIs, ZRq, ZW6, ZSR, Z05N, ZSo, ZLd, ZHQ, ZGd, ZXO, Z06K, Z04H, Z0yW, Z0if, Z0kx, Z0yI, Z0sk, Z03c, Z02y, Zo4, Zoa, ZBE, eq_true g, hall, hloop]
   · have e : ordersE B n o = 5 := by unfold ordersE; rw [if_pos (by simpa using hn)]
     have g : ¬ ((o.length : Int) = (n : Int)) := by omega
     rw [e]
     simp (disch := omega) only [Z01, Z9, Zp, Zc, Za, Z4, Z2, Z3, Z0, Zk, Zd, Zq, Zm, Zj, stp, opBox, just, Rd.bind, Rd.run, Rd.opt, upds, acells, rdCells, fieldOf, Zb, aLoad, resA, resL, fresh, aLen, Zf, aBin, aInt, Nat.reduceAdd, Nat.reduceBEq, Nat.reduceEqDiff, Nat.reduceLeDiff, ↓reduceIte, reduceCtorEq, Ze, Nat.zero_add, Nat.add_zero, bne_iff_ne, ne_eq, List.getElem?_toArray, not_false_eq_true, Z5, Option.map_some, List.elem_cons, List.elem_nil, List.length_cons, List.length_nil, List.getElem?_cons_zero, seqN, bindN, regN, beq_self_eq_true, Bool.false_eq_true, T_36, Z0X, ZO, beq_self_eq_true, Zrr, Zfr, ZfN, Zfn, ZrG, ZfX, Zgo, Zf6, Zgx, ZfM, ZeP, Zgs, Zp7, Zgb, ZfT, Zpv, Zrz, ZpV, ZpO, ZoZ, Zo4, Zoa, ZBE, g]
theorem ZFT {d : Nat} {site : Nat → Nat} {seen : List Nat} {ls : List Ld} {B : List Nat} {n : Nat} {e1 e2 : Bool} {o : List Int} {a : AV} (h : TrOk ls B n) (ha : IV o a) (hm : o.length < 900) :
   aBack site true seen (thaw (callA E fg 1000 (d + 5)) 105 [.agg (trA ls B n e1 e2), a] [] 0) = .pure (.int .i64 (ordersE B n o), []) := Z0J (Z0O (Z0w9 (d := d) h ha hm))
def validE (ls : List Ld) (es : List Pr) (o : List Int) : Int := if chk ls es ≠ 0 then chk ls es else ordersE (sets ls.length es) ls.length o
end Go.AM.YtgfnbmfjbjopkaaDoor
end
noncomputable section
namespace Go.AM
theorem ZbF {f : St → XR} {hd : St → St} {e : Ex} {P : Nat → St → Prop} {Q : St → Prop} (hne : e ≠ .normal) : ∀ (n F k : Nat) (s0 : St), P k (hd s0) → n < F → (∀ i s, k ≤ i → i < k + n → P i s → ∃ s', f s = some (.normal, s') ∧ P (i + 1) (hd s')) → (∀ s, P (k + n) s → ∃ s', f s = some (e, s') ∧ Q s') → ∃ se, iterA f hd F s0 = some (e, se) ∧ Q se
 | 0, F + 1, k, s0, h0, _, _, he => by
   rw [Nat.add_zero] at he
   obtain ⟨s', h1, h2⟩ := he _ h0
   refine ⟨s', ?_, h2⟩
   rw [Z2T, h1]
   cases e with
   | normal => exact absurd rfl hne
   | ret => rfl
   | exit i => rfl
 | n + 1, F + 1, k, s0, h0, hF, h, he => by
   obtain ⟨s', h1, h2⟩ := h k _ (Nat.le_refl _) (by omega) h0
   obtain ⟨se, g1, g2⟩ := ZbF (P := P) (Q := Q) hne n F (k + 1) s' h2 (by omega) (fun i s a b => h i s (by omega) (by omega)) (by rw [show k + 1 + n = k + (n + 1) by omega]; exact he)
   refine ⟨se, ?_, g2⟩
   rw [Z2T, h1, ZlK]
   exact g1
 | _, 0, _, _, _, hF, _, _ => absurd hF (by omega)
end Go.AM
namespace Go.AM.YtgfnbmfjbjopkaaDoor
open Go Go.AM Go.AM.Mule
def cntN (ls : List Ld) (B : List Nat) (lim : Int) (s : Nat) : Nat := cntD (bit B) (hiF ls) (cF ls) lim (lst s).length (lst s)
theorem Z002 {T : Nat → Nat → Bool} {d : Nat → Int} {c : Nat → Int → Int} {lim : Int} : ∀ (m : Nat) (S : List Nat), S.length ≤ 6 → cntD T d c lim m S ≤ 6 ^ m
 | 0, _, _ => by simp [cntD]
 | m + 1, [], _ => by simp only [cntD]; exact Nat.one_le_pow _ _ (by omega)
 | m + 1, x :: r, h => by
   simp only [cntD]
   have key : ∀ l : List Nat, ((l.map fun i => cntD T d c lim m ((x :: r).erase i)).sum) ≤ l.length * 6 ^ m := by
     intro l
     induction l with
     | nil => simp
     | cons a l ih =>
       have := Z002 (T := T) (d := d) (c := c) (lim := lim) m ((x :: r).erase a) (Nat.le_trans (List.length_erase_le ..) h)
       simp only [List.map_cons, List.sum_cons, List.length_cons, Nat.succ_mul]
       omega
   refine Nat.le_trans (key _) ?_
   have h1 : ((lastsL T (x :: r)).filter fun i => decide (c i (days d (x :: r)) ≤ lim)).length ≤ 6 := Nat.le_trans (List.length_filter_le ..) (Nat.le_trans (List.length_filter_le ..) h)
   rw [Nat.pow_succ, Nat.mul_comm]
   exact Nat.mul_le_mul_left _ h1
theorem ZwH (ls B lim) (s : Nat) : cntN ls B lim s ≤ 46656 := by
 have h := Z2m s
 refine Nat.le_trans (Z002 _ _ h) ?_
 exact Nat.pow_le_pow_right (n := 6) (by omega) h
theorem Zzt (ls B lim) : cntN ls B lim 0 = 1 := rfl
def delS (s i : Nat) : Nat := s &&& (63 - 1 <<< i)
theorem Z0r5 {ls : List Ld} {B : List Nat} {lim : Int} {s : Nat} (hs : s < 64) (h0 : s ≠ 0) : cntN ls B lim s = (((lsL B s).filter fun i => decide (cF ls i (daysS ls s) ≤ lim)).map fun i => cntN ls B lim (delS s i)).sum := by
 have hp := Z0tN hs h0
 have he : ∀ i ∈ lsL B s, lst (delS s i) = (lst s).erase i ∧ (lst (delS s i)).length + 1 = (lst s).length := by
   intro i hi
   have hm := Zdq hi
   have e := Za7 s hs i (ZGV hm)
   refine ⟨e, ?_⟩
   show (lst (s &&& _)).length + 1 = _
   rw [e, List.length_erase_of_mem hm]; omega
 unfold cntN
 obtain ⟨m, hm⟩ : ∃ m, (lst s).length = m + 1 := ⟨(lst s).length - 1, by omega⟩
 rw [hm]
 have e1 : cntD (bit B) (hiF ls) (cF ls) lim (m + 1) (lst s) = (((lastsL (bit B) (lst s)).filter fun i => decide (cF ls i (days (hiF ls) (lst s)) ≤ lim)).map fun i => cntD (bit B) (hiF ls) (cF ls) lim m ((lst s).erase i)).sum := by
   cases hl : lst s with
   | nil => rw [hl] at hm; simp at hm
   | cons x r => simp only [cntD]
 rw [e1]
 show ((List.filter (fun i => decide (cF ls i (daysS ls s) ≤ lim)) (lsL B s)).map _).sum = _
 congr 1
 apply List.map_congr_left
 intro i hi
 obtain ⟨a, b⟩ := he i (List.mem_filter.1 hi).1
 rw [a, List.length_erase_of_mem (Zdq (List.mem_filter.1 hi).1), hm]
 rfl
theorem Z0EZ {s i : Nat} (h : s < 64) (hi : i ∈ lst s) : delS s i < s := by
 have h1 : delS s i ≤ s := Nat.and_le_left
 have h2 : delS s i ≠ s := by
   intro e
   have := Za7 s h i (ZGV hi)
   rw [show s &&& (63 - 1 <<< i) = s from e] at this
   have h3 := congrArg List.length this
   rw [List.length_erase_of_mem hi] at h3
   have := List.length_pos_of_mem hi
   omega
 omega
def psum (ls : List Ld) (B : List Nat) (lim : Int) (s j : Nat) : Nat := ((((lsL B s).take j).filter fun i => decide (cF ls i (daysS ls s) ≤ lim)).map fun i => cntN ls B lim (delS s i)).sum
theorem ZgP {ls : List Ld} {B : List Nat} {lim : Int} {s j i : Nat} (h : (lsL B s)[j]? = some i) : psum ls B lim s (j + 1) = psum ls B lim s j + if cF ls i (daysS ls s) ≤ lim then cntN ls B lim (delS s i) else 0 := by
 unfold psum
 rw [List.take_add_one, h, Option.toList_some, List.filter_append, List.map_append, List.sum_append]
 congr 1
 by_cases hc : cF ls i (daysS ls s) ≤ lim
 · rw [if_pos hc]; simp [hc]
 · rw [if_neg hc]; simp [hc]
theorem Zig (ls B lim) (s : Nat) : ∀ j, psum ls B lim s j ≤ j * 46656
 | 0 => by simp [psum]
 | j + 1 => by
   by_cases hj : j < (lsL B s).length
   · rw [ZgP (List.getElem?_eq_getElem hj)]
     have := Zig ls B lim s j
     have := ZwH ls B lim (delS s (lsL B s)[j])
     split <;> omega
   · have e : psum ls B lim s (j + 1) = psum ls B lim s j := by
       unfold psum; rw [List.take_of_length_le (by omega), List.take_of_length_le (by omega)]
     have := Zig ls B lim s j
     omega
theorem ZUx {ls : List Ld} {B : List Nat} {lim : Int} {s : Nat} (hs : s < 64) (h0 : s ≠ 0) : psum ls B lim s (lsL B s).length = cntN ls B lim s := by
 rw [Z0r5 hs h0]; unfold psum; rw [List.take_length]
structure Part (N : Nat) (F : Nat → Nat) (s v : Nat) (os : List Nat) : Prop where
 len : os.length = N
 lt : ∀ t, t < s → os.getD t 0 = F t
 at_ : os.getD s 0 = v
 gt : ∀ t, s < t → t < N → os.getD t 0 = 0
theorem ZHs {N : Nat} {F : Nat → Nat} {s v w : Nat} {os : List Nat} (h : Part N F s v os) (hs : s < N) : Part N F s w (os.set s w) := by
 have hl : s < os.length := by rw [h.len]; exact hs
 refine ⟨by rw [List.length_set, h.len], fun t ht => ?_, ?_, fun t h1 h2 => ?_⟩
 · rw [Z2R _ _ _ _ hl, if_neg (by omega)]; exact h.lt t ht
 · rw [Z2R _ _ _ _ hl, if_pos rfl]
 · rw [Z2R _ _ _ _ hl, if_neg (by omega)]; exact h.gt t h1 h2
end Go.AM.YtgfnbmfjbjopkaaDoor
end
end
