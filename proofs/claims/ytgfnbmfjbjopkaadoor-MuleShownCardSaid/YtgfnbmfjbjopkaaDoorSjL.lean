/- A part of the proof of muleShown_card: ShM. Own work of this project; texts printed by own programs among it. -/
import Derived.KernelRfl
import Derived.Test.YtgfnbmfjbjopkaaDoorSjK
set_option maxRecDepth 1000000
set_option maxHeartbeats 16000000
noncomputable section
noncomputable section
namespace Go.AM.YtgfnbmfjbjopkaaDoor
open Go Go.AM Go.AM.Mule
abbrev fxI (l : List Int) (z : Int) : Nat := l.findIdx fun y => decide (z = y)
abbrev ixV (l : List Int) (z : Int) : Int := if fxI l z < l.length then (fxI l z : Int) else -1
abbrev xiS (l : List Int) (z : Int) (ex : Bool) (i : Nat) : St := ([(8, .int .i64 i), (7, .int .i64 l.length), (1, .int .i64 z), (0, .imm (ics l) l.length ex)], [])
theorem Z0bT {C : Callee} {l : List Int} {z : Int} {ex : Bool} (hl : l.length < 900) :
   rsOf (bodyA E C fg 1000 82 [.imm (ics l) l.length ex, .int .i64 z] [] 0) = some (.int .i64 (ixV l z)) := by
 have hle := List.findIdx_le_length (xs := l) (p := fun y => decide (z = y))
 have hlen : (ics l).length = l.length := Zj l
 have hlo : ∀ i, i < fxI l z → ∃ s', (execA E C (fg 82) 0 19 [] 1000 Z4y) (xiS l z ex i) = some (.normal, s') ∧ headA [] s' = xiS l z ex (i + 1) := by
   intro i hi
   have hi' : i < l.findIdx fun y => decide (z = y) := hi
   have hil : i < l.length := by omega
   have hp := List.not_of_lt_findIdx hi'
   have hat := Z1V (List.getElem?_eq_getElem hil)
   generalize l[i] = y at *
   have hq : ¬ z = y := by simpa using hp
   have g1 : (i : Int) < l.length := by omega
   simp (disch := omega) only [ZF, stp, just, Rd.bind, Rd.run, Rd.opt, upds, tsz, rdCells, aLoad, Z2, aNum, aBin, aInt, Nat.reduceLT, Nat.reduceBEq, Nat.reduceEqDiff, Nat.reduceLeDiff, ↓reduceIte, reduceCtorEq, ZT, F_82, g1, hat, hlen, hq, Zc (show i < 1000000 by omega)]
   exact ⟨_, rfl, rfl⟩
 unfold ixV
 by_cases hlt : fxI l z < l.length
 · rw [if_pos hlt]
   have hlt' : (l.findIdx fun y => decide (z = y)) < l.length := hlt
   have hp := List.findIdx_getElem (xs := l) (p := fun y => decide (z = y)) (w := hlt')
   have hat := Z1V (List.getElem?_eq_getElem hlt')
   have hq : z = l[l.findIdx fun y => decide (z = y)] := by simpa using hp
   clear hp
   rw [← hq] at hat
   clear hq
   generalize hm : fxI l z = m at *
   rw [show (l.findIdx fun y => decide (z = y)) = m from hm] at hat hle
   have g1 : (m : Int) < l.length := by omega
   have hloop := loopN (f := (execA E C (fg 82) 0 19 [] 1000 Z4y)) (xiS l z ex) m hlo rfl (by omega)
     (e := .ret) (se := ([(4, .int .i64 m)], []))
     (by simp (disch := omega) only [ZF, stp, just, Rd.bind, Rd.run, Rd.opt, upds, tsz, rdCells, aLoad, Z2, aNum, aBin, aInt, Nat.reduceLT, Nat.reduceBEq, Nat.reduceEqDiff, Nat.reduceLeDiff, ↓reduceIte, reduceCtorEq, ZT, F_82, xiS, g1, hat, hlen]) (by simp)
   simp only [xiS, cl0] at hloop
   simp (disch := omega) only [ZF, Z7, stp, just, Rd.bind, Rd.run, upds, resA, resL, aLen, Z4, Nat.reduceBEq, Nat.reduceEqDiff, Nat.reduceLeDiff, ↓reduceIte, reduceCtorEq, ZT, F_82, hloop]
 · rw [if_neg hlt]
   have e : fxI l z = l.length := by
     have : fxI l z ≤ l.length := hle
     omega
   have hloop := loopN (f := (execA E C (fg 82) 0 19 [] 1000 Z4y)) (xiS l z ex) l.length (fun i hi => hlo i (by omega)) rfl (by omega)
     (e := .exit 0) (se := ([(9, .bool false), (8, .int .i64 l.length), (7, .int .i64 l.length), (1, .int .i64 z), (0, .imm (ics l) l.length ex)], []))
     (by simp (disch := omega) only [ZF, stp, just, Rd.bind, Rd.run, Rd.opt, upds, aBin, aInt, Nat.reduceEqDiff, Nat.reduceLeDiff, ↓reduceIte, F_82, xiS]) (by simp)
   simp only [xiS, cl0] at hloop
   simp (disch := omega) only [ZF, Z7, stp, just, Rd.bind, Rd.run, upds, resA, resL, aLen, Z4, Nat.reduceBEq, Nat.reduceEqDiff, Nat.reduceLeDiff, Int.reduceNeg, ↓reduceIte, reduceCtorEq, ZT, F_82, hloop]
theorem Z0i0 {C : Callee} {z : Int} : rsOf (bodyA E C fg 1000 82 [.nilsl, .int .i64 z] [] 0) = some (.int .i64 (-1)) := by
 have hloop := Zew (f := (execA E C (fg 82) 0 19 [] 1000 Z4y)) (s0 := ([(8, .int .i64 0), (7, .int .i64 0), (1, .int .i64 z), (0, .nilsl)], [])) rfl
   (e := .exit 0) (se := ([(9, .bool false), (8, .int .i64 0), (7, .int .i64 0), (1, .int .i64 z), (0, .nilsl)], []))
   (by simp (disch := omega) only [ZF, stp, just, Rd.bind, Rd.run, Rd.opt, upds, aBin, aInt, Nat.reduceEqDiff, Nat.reduceLeDiff, ↓reduceIte, F_82]) (by simp)
 simp (disch := omega) only [ZF, Z7, stp, just, Rd.bind, Rd.run, upds, resA, resL, aLen, Z4, Nat.reduceBEq, Nat.reduceEqDiff, Nat.reduceLeDiff, Int.reduceNeg, ↓reduceIte, reduceCtorEq, ZT, F_82, hloop]
theorem Z04d {d : Nat} {l : List Int} {z : Int} {a : AV} {site : Nat → Nat} {seen : List Nat} (ha : IV l a) (hl : l.length < 900) :
   aBack site true seen (thaw (callA E fg 1000 (d + 1)) 82 [a, .int .i64 z] [] 0) = .pure (.int .i64 (ixV l z), []) := by
 rcases ha with ⟨rfl, rfl⟩ | ⟨ex, rfl⟩
 · exact ZE (ZV (Z0i0 (C := callA E fg 1000 d)))
 · exact ZE (ZV (Z0bT (C := callA E fg 1000 d) hl))
theorem Z00f (l : List Int) (z : Int) : decide (ixV l z ≥ 0) = decide (z ∈ l) := by
 refine decide_eq_decide.2 ?_
 have : (fxI l z < l.length) ↔ z ∈ l := by
   unfold fxI
   rw [List.findIdx_lt_length]
   simp
 unfold ixV
 rw [← this]
 split <;> omega
theorem Z0fW {d : Nat} {l : List Int} {z : Int} {a : AV} (ha : IV l a) (hl : l.length < 900) :
   rsOf (bodyA E (callA E fg 1000 (d + 1)) fg 1000 75 [a, .int .i64 z] [] 0) = some (.bool (decide (z ∈ l))) := by
 have hc := fun (site : Nat → Nat) seen => Z04d (d := d) (site := site) (seen := seen) (z := z) ha hl
 rw [← Z00f]
 generalize ixV l z = w at *
 have hs := Z8T ha
 generalize callA E fg 1000 (d + 1) = C at *
 simp (disch := omega) only [ZF, Z7, stp, just, Rd.bind, Rd.run, Rd.opt, upds, resA, resL, aBin, aInt, Nat.reduceBEq, Nat.reduceEqDiff, Nat.reduceLeDiff, ↓reduceIte, reduceCtorEq, aCall, snaps, F_75, hc, hs 198]
theorem ZDD {d : Nat} {l : List Int} {z : Int} {a : AV} {site : Nat → Nat} {seen : List Nat} (ha : IV l a) (hl : l.length < 900) :
   aBack site true seen (thaw (callA E fg 1000 (d + 2)) 75 [a, .int .i64 z] [] 0) = .pure (.bool (decide (z ∈ l)), []) := Z1B (ZV (Z0fW ha hl))
theorem Z021 {C : Callee} {l : List Int} {ex : Bool} (h0 : 0 < l.length) (hl : l.length < 900) :
   ∃ H', bodyA E C fg 1000 77 [.imm (ics l) l.length ex] [] 0 = some (.ref 5 0 l.length l.length l.length 1 false, H') ∧ hget H' 5 = some ⟨.row, ics l⟩ := by
 have hlen : (ics l).length = l.length := Zj l
 have htk : List.take l.length (ics l) = ics l := ZKg l
 have hno : ¬ 0 + l.length ≤ 0 := by omega
 have hno2 : ¬ l.length ≤ 0 := by omega
 have hne : ¬ l.length = 0 := by omega
 generalize ics l = L at *
 generalize l.length = n at *
 refine ⟨[(5, ⟨.row, L⟩)], ?_, rfl⟩
 simp (disch := omega) only [ZF, Z7, stp, just, Rd.bind, Rd.run, upds, zeroCells, tsz, elemT, resA, resL, fresh, Z4, aBin, Nat.reduceAdd, Nat.reduceLT, Nat.reduceBEq, Nat.reduceEqDiff, Nat.reduceLeDiff, ↓reduceIte, reduceCtorEq, Zd, Zu, partsOf, fillA, repC, Zo, aAppend, srcOf, window, snaps, ZT, F_77, aNil, hlen, hno2, hne, Z2r (show n ≤ 1000000 by omega)]
theorem ZVZ {d : Nat} {l : List Int} {ex : Bool} {site : Nat → Nat} {seen : List Nat} (h0 : 0 < l.length) (hl : l.length < 900) :
   aBack site true seen (thaw (callA E fg 1000 (d + 1)) 77 [.imm (ics l) l.length ex] [] 0) = Z0g (site 0) seen (fun k => .ref k 0 l.length l.length l.length 1 false) ⟨.row, ics l⟩ := by
 obtain ⟨H', h1, h2⟩ := Z021 (C := callA E fg 1000 d) (ex := ex) h0 hl
 exact Z6n h1 h2 (Zj _)
end Go.AM.YtgfnbmfjbjopkaaDoor
end
noncomputable section
namespace Go.AM.YtgfnbmfjbjopkaaDoor
open Go Go.AM Go.AM.Mule
structure Z6 (zs : List Int) : Prop where
 l : zs.length = 6
 b : ∀ (i : Nat) (z : Int), zs[i]? = some z → 0 ≤ z ∧ z ≤ 255
theorem Zzt (zs : List Int) : (u8s zs).length = zs.length := by simp [u8s]
theorem Z0iS {zs : List Int} {i : Nat} {z : Int} (h : zs[i]? = some z) : (u8s zs)[i]? = some (.int .u8 z) := by simp [u8s, h]
theorem Z2c (zs : List Int) : ∀ a ∈ u8s zs, ∃ k z, a = AV.int k z := by simp [u8s]
def pV (k : Nat) (m : Nat) : AV := if m = 0 then .nilsl else .ref k 0 m m (m * 2) 2 false
def pH (k : Nat) (st : BS) (es : List Pr) : AHeap := if es.length = 0 then [] else [(k, ⟨st, cls bc es⟩)]
theorem pVH (k : Nat) (st : BS) (es : List Pr) : (es = [] ∧ pV k es.length = .nilsl ∧ pH k st es = []) ∨ (pV k es.length = .ref k 0 es.length es.length (es.length * 2) 2 false ∧ pH k st es = [(k, ⟨st, cls bc es⟩)]) := by
 by_cases h : es.length = 0
 · exact .inl ⟨List.length_eq_zero_iff.1 h, if_pos h, if_pos h⟩
 · exact .inr ⟨if_neg h, if_neg h⟩
def shL (zs : List Int) (n : Nat) : List Int := (zs.take n).map fun z => z % (n + 1)
abbrev s1S (zs : List Int) (ls : List Ld) (es : List Pr) (n : Nat) (m st c : Int) (i : Nat) : St :=
 ([(32, .int .i64 i), (31, .int .i64 n), (30, .ref 6 0 n 6 6 1 true), (13, .ptr 13 0 1), (12, .int .i64 n), (11, .ptr 11 0 2), (4, .int .u8 c), (3, .int .u8 st), (2, .int .u8 m)],
   (6, ⟨.box, u8s zs⟩) :: (11, ⟨.box, [.ref 25 0 n n (n * 5) 5 false, pV 169 es.length]⟩) :: (13, ⟨.box, [oV 43 1 i]⟩) :: (25, ⟨.row, cls lc ls⟩) :: (oH 43 (ics ((shL zs n).take i)) ++ pH 169 .row es))
theorem Z0o3 {C : Callee} {zs : List Int} {ls : List Ld} {es : List Pr} {n : Nat} {m st c : Int} (hz : Z6 zs) (hn : n ≤ 5) (i : Nat) (hi : i < n) :
   ∃ s', (execA E C (fg 13) 0 144 [] 1000 Z6a) (s1S zs ls es n m st c i) = some (.normal, s') ∧ headA [] s' = s1S zs ls es n m st c (i + 1) := by
 have hzl := hz.l
 have hx : zs[i]? = some (zs.getD i 0) := ZU (by omega)
 obtain ⟨b1, b2⟩ := hz.b _ _ hx
 have hsl : ((shL zs n).take i).length = i := by simp [shL]; omega
 have e : (shL zs n).take (i + 1) = (shL zs n).take i ++ [zs.getD i 0 % (n + 1)] := by
   rw [List.take_add_one]
   congr 1
   rw [shL, List.getElem?_map, List.getElem?_take, if_pos hi, hx]; rfl
 have hat := Z0iS hx
 have hlen : (u8s zs).length = 6 := by rw [Zzt, hzl]
 have hsn := Zab ((shL zs n).take i) (zs.getD i 0 % (n + 1))
 have hne : oH 43 (ics ((shL zs n).take i ++ [zs.getD i 0 % (n + 1)])) = [(43, ⟨.row, ics ((shL zs n).take i ++ [zs.getD i 0 % (n + 1)])⟩)] := Z6z _ (by rw [Zj]; simp)
 have hil : (ics ((shL zs n).take i)).length = i := by rw [Zj, hsl]
 have htk : List.take i (ics ((shL zs n).take i)) = ics ((shL zs n).take i) := List.take_of_length_le (by omega)
 generalize zs.getD i 0 = z at *
 have g1 : (i : Int) < n := by omega
 have w1 : wrp .i64 z = z := ZC (by omega)
 have w2 : wrp .i64 ((n : Int) + 1) = (n : Int) + 1 := ZC (by omega)
 have r1 : z.tmod ((n : Int) + 1) = z % ((n : Int) + 1) := Int.tmod_eq_emod_of_nonneg b1
 have r2 := Int.emod_nonneg z (show (n : Int) + 1 ≠ 0 by omega)
 have r3 := Int.emod_lt_of_pos z (show 0 < (n : Int) + 1 by omega)
 have z5 : ¬ ((n : Int) + 1 = 0) := by omega
 have w3 : wrp .i64 (z % ((n : Int) + 1)) = z % ((n : Int) + 1) := ZC (by omega)
 simp only [s1S]
 rw [e, hne, ← hsn]
 generalize z % ((n : Int) + 1) = y at *
 cases i with
 | zero =>
   rw [List.take_zero] at *
   have w1' : wrp .i64 (0 + 1) = 1 := rfl
   have z1 : ((0 : Nat) : Int) = 0 := rfl
   have z2 : ((0 + 1 : Nat) : Int) = 1 := rfl
   have l0 : ics ([] : List Int) = [] := rfl
   simp only [oV, oH, z1, z2, l0, List.nil_append, List.cons_append] at g1 ⊢
   rcases pVH 169 .row es with ⟨_, e1, e2⟩ | ⟨e1, e2⟩ <;> rw [e1, e2]
   · simp (disch := omega) only [ZF, stp, justO, just, Rd.bind, Rd.run, Rd.opt, upds, acells, zeroCells, tsz, elemT, rdCells, aLoad, aStore, opStore, fresh, Z2, aNum, Z4, aBin, aInt, putC, evO, Nat.reduceAdd, Nat.reduceLT, Nat.reduceBEq, Nat.reduceEqDiff, Nat.reduceLeDiff, ↓reduceIte, reduceCtorEq, stpT, Rd.foot, writing, Ze, Tr.empty, Zg, apartT, disj, Zd, Zu, partsOf, fillA, repC, Zo, aAppend, srcOf, window, snaps, aConv, Int.reduceLE, Int.reduceToNat, ZT, F_13, g1, hat, hlen, w1', w1, w2, r1, z5, Z2r (show 1 ≤ 1000000 by omega)]
     exact ⟨_, rfl, Zp (Zm _ (Z2c zs)) rfl rfl⟩
   · simp (disch := omega) only [ZF, stp, justO, just, Rd.bind, Rd.run, Rd.opt, upds, acells, zeroCells, tsz, elemT, rdCells, aLoad, aStore, opStore, fresh, Z2, aNum, Z4, aBin, aInt, putC, evO, Nat.reduceAdd, Nat.reduceLT, Nat.reduceBEq, Nat.reduceEqDiff, Nat.reduceLeDiff, ↓reduceIte, reduceCtorEq, stpT, Rd.foot, writing, Ze, Tr.empty, Zg, apartT, disj, Zd, Zu, partsOf, fillA, repC, Zo, aAppend, srcOf, window, snaps, aConv, Int.reduceLE, Int.reduceToNat, ZT, F_13, g1, hat, hlen, w1', w1, w2, r1, z5, Z2r (show 1 ≤ 1000000 by omega)]
     exact ⟨_, rfl, Zp (Zm _ (Z2c zs)) rfl rfl⟩
 | succ i =>
   have hno : ¬ i + 1 + 1 ≤ i + 1 := by omega
   have h1 : oH 43 (ics ((shL zs n).take (i + 1))) = [(43, ⟨.row, ics ((shL zs n).take (i + 1))⟩)] := Z6z _ (by omega)
   rw [h1]
   generalize ics ((shL zs n).take (i + 1)) = L at *
   simp only [oV, List.nil_append, List.cons_append]
   rcases pVH 169 .row es with ⟨_, e1, e2⟩ | ⟨e1, e2⟩ <;> rw [e1, e2]
   · simp (disch := omega) only [ZF, stp, justO, just, Rd.bind, Rd.run, Rd.opt, upds, acells, zeroCells, tsz, elemT, rdCells, aLoad, aStore, opStore, fresh, Z2, aNum, Z4, aBin, aInt, putC, evO, Nat.reduceAdd, Nat.reduceLT, Nat.reduceBEq, Nat.reduceEqDiff, Nat.reduceLeDiff, ↓reduceIte, reduceCtorEq, stpT, Rd.foot, writing, Ze, Tr.empty, Zg, apartT, disj, Zd, Zu, partsOf, fillA, repC, Zo, aAppend, srcOf, window, snaps, aConv, ZT, F_13, g1, hat, hlen, hil, htk, hno, w1, w2, r1, z5, Z2r (show i + 1 + 1 ≤ 1000000 by omega), Zc (show i + 1 < 1000000 by omega)]
     exact ⟨_, rfl, Zp (Zm _ (Z2c zs)) rfl rfl⟩
   · simp (disch := omega) only [ZF, stp, justO, just, Rd.bind, Rd.run, Rd.opt, upds, acells, zeroCells, tsz, elemT, rdCells, aLoad, aStore, opStore, fresh, Z2, aNum, Z4, aBin, aInt, putC, evO, Nat.reduceAdd, Nat.reduceLT, Nat.reduceBEq, Nat.reduceEqDiff, Nat.reduceLeDiff, ↓reduceIte, reduceCtorEq, stpT, Rd.foot, writing, Ze, Tr.empty, Zg, apartT, disj, Zd, Zu, partsOf, fillA, repC, Zo, aAppend, srcOf, window, snaps, aConv, ZT, F_13, g1, hat, hlen, hil, htk, hno, w1, w2, r1, z5, Z2r (show i + 1 + 1 ≤ 1000000 by omega), Zc (show i + 1 < 1000000 by omega)]
     exact ⟨_, rfl, Zp (Zm _ (Z2c zs)) rfl rfl⟩
def prP (L : List Int) (x : Int) (i : Nat) (q : Pr) : Bool := decide (q.2 = x) && !decide (q.1 ∈ L.take i)
theorem Z03y {d : Nat} {L : List Int} {x : Int} {i n : Nat} {ex : Bool} {q : Pr} (hl : L.length = n) (hn : n ≤ 5) (hi : i ≤ n) :
   rsOf (bodyA E (callA E fg 1000 (d + 2)) fg 1000 76 [.agg (bc q), .iptr [.int .i64 x] 0, .iptr [.imm (ics L) n ex] 0, .iptr [.int .i64 (i : Int)] 0] [] 0) = some (.bool (prP L x i q)) := by
 obtain ⟨a, b⟩ := q
 have hlen : (ics L).length = n := by rw [Zj, hl]
 have htl : (L.take i).length = i := by rw [List.length_take]; omega
 have hc := fun (site : Nat → Nat) seen e => ZDD (d := d) (site := site) (seen := seen) (l := L.take i) (z := a) (a := .imm (ics (L.take i)) i e) (.inr ⟨e, by rw [htl]⟩) (by omega)
 rw [← ZnA] at hc
 have g1 : (i : Int) ≤ n := by omega
 unfold prP
 simp only
 generalize callA E fg 1000 (d + 2) = C at *
 by_cases h1 : b = x
 · subst h1
   have h2 : (b == b) = true := by simp
   rw [decide_eq_true rfl, Bool.true_and]
   simp (disch := omega) only [ZF, Z7, stp, opPick, opBox, justO, just, Rd.bind, Rd.run, Rd.opt, upds, acells, tsz, rdCells, aLoad, resA, resL, fresh, Z2, aNum, aBin, aInt, Nat.reduceAdd, Nat.reduceBEq, Nat.reduceEqDiff, Nat.reduceLeDiff, ↓reduceIte, reduceCtorEq, stpT, ↓gdT, Rd.foot, writing, Ze, Tr.empty, Zg, apartT, disj, window, aUn, aCall, snaps, aSlice, aBounds, bMax, bHigh, bLow, Int.reduceLE, Int.reduceToNat, ZT, F_76, bc, hlen, g1, hc, if_pos]
 · have h2 : (b == x) = false := by rw [beq_eq_false_iff_ne]; exact h1
   rw [decide_eq_false h1, Bool.false_and]
   simp (disch := omega) only [ZF, Z7, stp, opPick, opBox, just, Rd.bind, Rd.run, Rd.opt, upds, acells, tsz, rdCells, aLoad, resA, resL, fresh, Z2, aNum, aBin, aInt, Nat.reduceAdd, Nat.reduceBEq, Nat.reduceEqDiff, Nat.reduceLeDiff, ↓reduceIte, reduceCtorEq, stpT, ↓gdT, Rd.foot, writing, Ze, Tr.empty, Zg, apartT, disj, Int.reduceLE, Int.reduceToNat, ZT, F_76, bc, h2, if_pos]
structure ShC (C : Callee) (es : List Pr) (L : List Int) (n : Nat) : Prop where
 cf : ∀ (site : Nat → Nat) seen a x (i : Nat) ex, SV bc es a → i ≤ n → aBack site true seen (thaw C 42 [a, .clo 76 [.iptr [.int .i64 x] 0, .iptr [.imm (ics L) n ex] 0, .iptr [.int .i64 (i : Int)] 0]] [] 0) = .pure (.bool (es.any (prP L x i)), [])
 ci : ∀ (site : Nat → Nat) seen z (i : Nat) e, i ≤ n → aBack site true seen (thaw C 75 [.imm (List.take i (ics L)) i e, .int .i64 z] [] 0) = .pure (.bool (decide (z ∈ L.take i)), [])
theorem shC {es : List Pr} {L : List Int} {n : Nat} (hl : L.length = n) (hn : n ≤ 5) (he : es.length < 900) (d : Nat) : ShC (callA E fg 1000 (d + 5)) es L n := by
 refine ⟨fun site seen a x i ex ha hi => Z05q (d := d + 3) (site := site) (seen := seen) ⟨fun _ => rfl, fun site q hq => ?_, rfl⟩ (fun n => rfl) ha he, fun site seen z i e hi => ?_⟩
 · have := Z1B (site := site) (seen := []) (ZV (Z03y (d := d) (L := L) (x := x) (i := i) (n := n) (ex := ex) (q := q) hl hn hi))
   simp only [opCallV, ZZF, aCall, List.cons_append, List.nil_append, List.append_nil, snaps, snap, bc, Rd.bind]
   exact this
 · rw [ZnA]
   have htl : (L.take i).length = i := by rw [List.length_take]; omega
   exact ZDD (d := d + 3) (.inr ⟨e, by rw [htl]⟩) (by omega)
def wE (es : List Pr) (L : List Int) (n : Nat) (i : Nat) : Int :=
 if L.getD i 0 = n then 2 else if decide (L.getD i 0 ∈ L.take i) = true then 6 else if es.any (prP L (L.getD i 0) i) = true then 21 else 0
def wN (es : List Pr) (L : List Int) (n : Nat) (w0 : Int) : Nat → Int
 | 0 => w0
 | i + 1 => if wN es L n w0 i ≠ 0 then wN es L n w0 i else wE es L n i
abbrev s2S (ls : List Ld) (es : List Pr) (L : List Int) (n off m : Nat) (st c w : Int) (i : Nat) : St :=
 ([(55, .int .i64 i), (54, .int .i64 m), (53, .ref 43 off m m n 1 false), (16, .int .i64 w), (13, .ptr 13 0 1), (12, .int .i64 n), (11, .ptr 11 0 2), (4, .int .u8 c), (3, .int .u8 st)],
   (11, ⟨.box, [.ref 25 0 n n (n * 5) 5 false, pV 169 es.length]⟩) :: (13, ⟨.box, [.ref 43 off m m n 1 false]⟩) :: (25, ⟨.row, cls lc ls⟩) :: (43, ⟨.row, ics L⟩) :: pH 169 .row es)
theorem ZFj {C : Callee} {ls : List Ld} {es : List Pr} {L : List Int} {n off m : Nat} {st c w : Int} (hl : L.length = n) (hn : n ≤ 5) (hm : off + m = n) (hw : w ≠ 0) (i : Nat) (hi : i < m) :
   ∃ s', (execA E C (fg 13) 0 144 [] 1000 Z2n) (s2S ls es L n off m st c w i) = some (.normal, s') ∧ headA [] s' = s2S ls es L n off m st c w (i + 1) := by
 have hx : L[off + i]? = some (L.getD (off + i) 0) := ZU (by omega)
 have hat := Z1V hx
 have hlen : (ics L).length = n := by rw [Zj, hl]
 have g1 : (i : Int) < m := by omega
 have hb : (w != 0) = true := by simpa using hw
 simp only [s2S]
 rcases pVH 169 .row es with ⟨_, e1, e2⟩ | ⟨e1, e2⟩ <;> rw [e1, e2]
 · simp (disch := omega) only [ZF, stp, opBox, just, Rd.bind, Rd.run, Rd.opt, upds, acells, zeroCells, tsz, rdCells, aLoad, aStore, opStore, fresh, Z2, aNum, aBin, aInt, putC, Nat.reduceAdd, Nat.reduceLT, Nat.reduceBEq, Nat.reduceEqDiff, Nat.reduceLeDiff, ↓reduceIte, stpT, Rd.foot, aCall, snaps, aSlice, aBounds, bMax, bHigh, bLow, ZT, F_13, g1, hat, hlen, hb, if_pos, Zc (show i < 1000000 by omega)]
   exact ⟨_, rfl, rfl⟩
 · simp (disch := omega) only [ZF, stp, opBox, just, Rd.bind, Rd.run, Rd.opt, upds, acells, zeroCells, tsz, rdCells, aLoad, aStore, opStore, fresh, Z2, aNum, aBin, aInt, putC, Nat.reduceAdd, Nat.reduceLT, Nat.reduceBEq, Nat.reduceEqDiff, Nat.reduceLeDiff, ↓reduceIte, stpT, Rd.foot, aCall, snaps, aSlice, aBounds, bMax, bHigh, bLow, ZT, F_13, g1, hat, hlen, hb, if_pos, Zc (show i < 1000000 by omega)]
   exact ⟨_, rfl, rfl⟩
theorem Z0kj {C : Callee} {ls : List Ld} {es : List Pr} {L : List Int} {n : Nat} {st c : Int} (hC : ShC C es L n) (hl : L.length = n) (hn : n ≤ 5) (i : Nat) (hi : i < n) :
   ∃ s', (execA E C (fg 13) 0 144 [] 1000 Z2n) (s2S ls es L n 0 n st c 0 i) = some (.normal, s') ∧ headA [] s' = s2S ls es L n 0 n st c (wE es L n i) (i + 1) := by
 have hx : L[i]? = some (L.getD i 0) := ZU (by omega)
 have hat := Z1V hx
 have hlen : (ics L).length = n := by rw [Zj, hl]
 have g1 : (i : Int) < n := by omega
 have g2 : (i : Int) ≤ n := by omega
 have hci := fun site seen z e => hC.ci site seen z i e (by omega)
 have hcf := fun site seen a x ex ha => hC.cf site seen a x i ex ha (by omega)
 have tk : List.take n (ics L) = ics L := List.take_of_length_le (by omega)
 simp only [s2S]
 unfold wE
 generalize L.getD i 0 = x at *
 by_cases c1 : x = n
 · rw [if_pos c1]
   rcases pVH 169 .row es with ⟨_, e1, e2⟩ | ⟨e1, e2⟩ <;> rw [e1, e2]
   · simp (disch := omega) only [ZF, stp, opBox, just, Rd.bind, Rd.run, Rd.opt, upds, acells, zeroCells, tsz, rdCells, aLoad, aStore, opStore, fresh, Z2, aNum, aBin, aInt, putC, Nat.reduceAdd, Nat.reduceLT, Nat.reduceBEq, Nat.reduceEqDiff, Nat.reduceLeDiff, ↓reduceIte, stpT, Rd.foot, aCall, snaps, aSlice, aBounds, bMax, bHigh, bLow, ZT, F_13, g1, hat, hlen, c1, if_pos, Zc (show i < 1000000 by omega)]
     exact ⟨_, rfl, rfl⟩
   · simp (disch := omega) only [ZF, stp, opBox, just, Rd.bind, Rd.run, Rd.opt, upds, acells, zeroCells, tsz, rdCells, aLoad, aStore, opStore, fresh, Z2, aNum, aBin, aInt, putC, Nat.reduceAdd, Nat.reduceLT, Nat.reduceBEq, Nat.reduceEqDiff, Nat.reduceLeDiff, ↓reduceIte, stpT, Rd.foot, aCall, snaps, aSlice, aBounds, bMax, bHigh, bLow, ZT, F_13, g1, hat, hlen, c1, if_pos, Zc (show i < 1000000 by omega)]
     exact ⟨_, rfl, rfl⟩
 · rw [if_neg c1]
   have hci := fun site seen e => hci site seen x e
   cases c2 : decide (x ∈ L.take i) with
   | true =>
     rw [if_pos rfl]
     rw [c2] at hci
     rcases pVH 169 .row es with ⟨_, e1, e2⟩ | ⟨e1, e2⟩ <;> rw [e1, e2]
     · simp (disch := omega) only [ZF, stp, opBox, just, Rd.bind, Rd.run, Rd.opt, upds, acells, zeroCells, tsz, rdCells, fieldOf, Z3, aLoad, aStore, opStore, fresh, Z2, aNum, aBin, aInt, putC, Nat.reduceAdd, Nat.reduceLT, Nat.reduceBEq, Nat.reduceEqDiff, Nat.reduceLeDiff, ↓reduceIte, stpT, Rd.foot, writing, Ze, Tr.empty, Zg, apartT, disj, aCall, snaps, aSlice, aBounds, bMax, bHigh, bLow, ZT, F_13, g1, g2, hat, hlen, c1, hci, if_pos, Zc (show i < 1000000 by omega)]
       exact ⟨_, rfl, rfl⟩
     · simp (disch := omega) only [ZF, stp, opBox, just, Rd.bind, Rd.run, Rd.opt, upds, acells, zeroCells, tsz, rdCells, fieldOf, Z3, aLoad, aStore, opStore, fresh, Z2, aNum, aBin, aInt, putC, Nat.reduceAdd, Nat.reduceLT, Nat.reduceBEq, Nat.reduceEqDiff, Nat.reduceLeDiff, ↓reduceIte, stpT, Rd.foot, writing, Ze, Tr.empty, Zg, apartT, disj, aCall, snaps, aSlice, aBounds, bMax, bHigh, bLow, ZT, F_13, g1, g2, hat, hlen, c1, hci, if_pos, Zc (show i < 1000000 by omega)]
       exact ⟨_, rfl, rfl⟩
   | false =>
     rw [if_neg (by simp)]
     rw [c2] at hci
     cases c3 : es.any (prP L x i) with
     | true =>
       rw [if_pos rfl]
       rcases pVH 169 .row es with ⟨e0, e1, e2⟩ | ⟨e1, e2⟩ <;> rw [e1, e2]
       · rw [e0] at c3; simp at c3
       · have hcf1 := fun site seen ex ex' => hcf site seen (.imm (cls bc es) es.length ex) x ex' (.inr ⟨ex, rfl⟩)
         have hcl : (cls bc es).length = es.length * 2 := Z9 Z00 es
         have tcb : List.take (es.length * 2) (cls bc es) = cls bc es := List.take_of_length_le (by omega)
         rw [c3] at hcf1
         simp (disch := omega) only [ZF, stp, opBox, just, Rd.bind, Rd.run, Rd.opt, upds, acells, zeroCells, tsz, rdCells, fieldOf, Z3, aLoad, aStore, opStore, fresh, Z2, aNum, aBin, aInt, putC, Nat.reduceAdd, Nat.reduceLT, Nat.reduceBEq, Nat.reduceEqDiff, Nat.reduceLeDiff, ↓reduceIte, stpT, Rd.foot, writing, Ze, Tr.empty, Zg, apartT, disj, aCall, snaps, aSlice, aBounds, bMax, bHigh, bLow, ZT, F_13, g1, g2, hat, hlen, c1, hci, tk, hcl, tcb, hcf1, if_pos, Zc (show i < 1000000 by omega)]
         exact ⟨_, rfl, rfl⟩
     | false =>
       rw [if_neg (by simp)]
       rcases pVH 169 .row es with ⟨e0, e1, e2⟩ | ⟨e1, e2⟩ <;> rw [e1, e2]
       · have hcf1 := fun site seen ex' => hcf site seen .nilsl x ex' (.inl ⟨e0, rfl⟩)
         rw [c3] at hcf1
         simp (disch := omega) only [ZF, stp, opBox, just, Rd.bind, Rd.run, Rd.opt, upds, acells, zeroCells, tsz, rdCells, fieldOf, Z3, aLoad, aStore, opStore, fresh, Z2, aNum, aBin, aInt, putC, Nat.reduceAdd, Nat.reduceLT, Nat.reduceBEq, Nat.reduceEqDiff, Nat.reduceLeDiff, ↓reduceIte, stpT, Rd.foot, writing, Ze, Tr.empty, Zg, apartT, disj, aCall, snaps, aSlice, aBounds, bMax, bHigh, bLow, ZT, F_13, g1, g2, hat, hlen, c1, hci, tk, hcf1, if_pos, Zc (show i < 1000000 by omega)]
         exact ⟨_, rfl, rfl⟩
       · have hcf1 := fun site seen ex ex' => hcf site seen (.imm (cls bc es) es.length ex) x ex' (.inr ⟨ex, rfl⟩)
         have hcl : (cls bc es).length = es.length * 2 := Z9 Z00 es
         have tcb : List.take (es.length * 2) (cls bc es) = cls bc es := List.take_of_length_le (by omega)
         rw [c3] at hcf1
         simp (disch := omega) only [ZF, stp, opBox, just, Rd.bind, Rd.run, Rd.opt, upds, acells, zeroCells, tsz, rdCells, fieldOf, Z3, aLoad, aStore, opStore, fresh, Z2, aNum, aBin, aInt, putC, Nat.reduceAdd, Nat.reduceLT, Nat.reduceBEq, Nat.reduceEqDiff, Nat.reduceLeDiff, ↓reduceIte, stpT, Rd.foot, writing, Ze, Tr.empty, Zg, apartT, disj, aCall, snaps, aSlice, aBounds, bMax, bHigh, bLow, ZT, F_13, g1, g2, hat, hlen, c1, hci, tk, hcl, tcb, hcf1, if_pos, Zc (show i < 1000000 by omega)]
         exact ⟨_, rfl, rfl⟩
end Go.AM.YtgfnbmfjbjopkaaDoor
end
noncomputable section
namespace Go.AM.YtgfnbmfjbjopkaaDoor
open Go Go.AM Go.AM.Mule
theorem Z2R (e : Nat → Int) (k : Nat) : firstE (k + 1) e = if firstE k e ≠ 0 then firstE k e else e k := by
 have hf : fst1 (k + 1) (fun i => e i != 0) = if fst1 k (fun i => e i != 0) < k then fst1 k (fun i => e i != 0) else (if e k != 0 then 0 else 1) + k := by
   unfold fst1
   rw [List.range_succ, List.findIdx_append, List.length_range]
   congr 2
   cases h : e k != 0 <;> simp [List.findIdx_cons, h]
 have hle := Z2B k (fun i => e i != 0)
 by_cases h : fst1 k (fun i => e i != 0) < k
 · have h1 := Z2f h
   have hk : firstE k e = e (fst1 k fun i => e i != 0) := if_pos h
   have hz : firstE k e ≠ 0 := by rw [hk]; simpa using h1
   rw [if_pos hz, hk]
   unfold firstE
   rw [hf, if_pos h, if_pos (by omega)]
 · have hk : firstE k e = 0 := if_neg h
   rw [if_neg (by simp [hk])]
   unfold firstE
   rw [hf, if_neg h]
   by_cases h2 : e k = 0
   · have : (e k != 0) = false := by simp [h2]
     rw [this, h2]
     exact if_neg (by simp; omega)
   · have : (e k != 0) = true := by simpa using h2
     rw [this, if_pos rfl, if_pos (by omega), Nat.zero_add]
theorem Zxy (es : List Pr) (L : List Int) (n : Nat) : ∀ m, wN es L n 0 m = firstE m (wE es L n)
 | 0 => rfl
 | m + 1 => by rw [wN, Zxy es L n m, Z2R]
theorem Zit {E : List (Nat × Nat)} {a b : Nat} (h : Mule.Reach E a b) : ∃ m, (m, b) ∈ E ∧ (a = m ∨ Mule.Reach E a m) := by
 cases h with
 | single e => exact ⟨a, e, .inl rfl⟩
 | tail h e => exact ⟨_, e, .inr h⟩
theorem ZaB {ls : List Ld} {es : List Pr} {n : Nat} {L : List Int} (hn : ls.length = n) (hk : chk ls es = 0) (hb : ∀ x ∈ L, 0 ≤ x ∧ x ≤ n) : ∀ i, i ≤ L.length →
   firstE i (fun i => odE (sets n es) n (odR n (L.take i)) (L.getD i 0)) = firstE i (wE es L n) ∧
   (firstE i (wE es L n) = 0 → ∃ ps, L.take i = toI ps ∧ (∀ x ∈ ps, x < n) ∧ ∀ y ∈ ps, ∀ a, Mule.Reach (es.map tN) a y → a ∈ ps)
 | 0, _ => ⟨rfl, fun _ => ⟨[], rfl, by simp, by simp⟩⟩
 | i + 1, hi => by
   obtain ⟨h1, h2⟩ := ZaB hn hk hb i (by omega)
   obtain ⟨tr, ord, hr, hE⟩ := Z36 hk
   rw [hn] at tr ord hr hE
   have hn6 := tr.le
   rw [Z2R, Z2R, h1]
   by_cases hz : firstE i (wE es L n) = 0
   · obtain ⟨ps, p1, p2, p3⟩ := h2 hz
     rw [if_neg (by simp [hz]), if_neg (by simp [hz])]
     have hx := ZU (l := L) (i := i) (by omega)
     rw [show L.getD i default = L.getD i 0 from rfl] at hx
     obtain ⟨b1, b2⟩ := hb _ (List.mem_of_getElem? hx)
     have ht : L.take (i + 1) = L.take i ++ [L.getD i 0] := by rw [List.take_add_one, hx]; rfl
     have hlst : lst (odR n (toI ps)) = leftL n ps := by
       have := Zu4 hn6 p2 ps.length (Nat.le_refl _)
       rwa [List.take_length] at this
     have h64 : odR n (toI ps) < 64 := Nat.lt_of_lt_of_le (Zff n _) (Nat.pow_le_pow_right (n := 2) (by omega) hn6)
     have hmem : ∀ y : Nat, ((y : Int) ∈ L.take i) ↔ y ∈ ps := by
       intro y
       rw [p1]
       constructor
       · intro hy
         obtain ⟨z, hz, e⟩ := List.mem_map.1 hy
         have : z = y := by omega
         rw [← this]; exact hz
       · intro hy; exact List.mem_map.2 ⟨y, hy, rfl⟩
     have hpair := Zm6 hk
     suffices hv : ∃ v, odE (sets n es) n (odR n (L.take i)) (L.getD i 0) = v ∧ wE es L n i = v ∧ (v = 0 → ∃ ps, L.take (i + 1) = toI ps ∧ (∀ x ∈ ps, x < n) ∧ ∀ y ∈ ps, ∀ a, Mule.Reach (es.map tN) a y → a ∈ ps) by
       obtain ⟨v, v1, v2, v3⟩ := hv
       rw [v1, v2]
       exact ⟨rfl, v3⟩
     unfold wE odE
     rw [p1] at hmem ht ⊢
     generalize L.getD i 0 = x at *
     by_cases c1 : x = n
     · exact ⟨2, if_pos (by omega), if_pos c1, fun h => by simp at h⟩
     · obtain ⟨y, rfl⟩ : ∃ y : Nat, x = y := ⟨x.toNat, by omega⟩
       have hy : y < n := by omega
       rw [if_neg c1, if_neg (show ¬ ((y : Int) < 0 ∨ (n : Int) ≤ y) by omega), Int.toNat_natCast]
       by_cases c2 : y ∈ ps
       · refine ⟨6, if_pos (by
           cases e : (odR n (toI ps)).testBit y with
           | false => rfl
           | true =>
             have := (Z2D h64).2 e
             rw [hlst] at this
             exact absurd c2 (Z6l.1 this).2), if_pos (by rw [decide_eq_true_iff]; exact (hmem y).2 c2), fun h => by simp at h⟩
       · have hyl : y ∈ lst (odR n (toI ps)) := by rw [hlst]; exact Z6l.2 ⟨hy, c2⟩
         have n1 : ¬ (decide ((y : Int) ∈ toI ps) = true) := by rw [decide_eq_true_iff]; exact fun h => c2 ((hmem y).1 h)
         have n2 : ¬ ((odR n (toI ps)).testBit y = false) := by rw [(Z2D h64).1 hyl]; simp
         rw [if_neg n1, if_neg n2]
         have hl2 : lst (odR n (toI ps) &&& (63 - 1 <<< y)) = leftL n (ps ++ [y]) := by
           rw [Zig _ h64 _ (by omega), hlst, ZhA]
         have hany : ((lst (odR n (toI ps) &&& (63 - 1 <<< y))).any (fun k => bit (sets n es) k y) = true) ↔ (es.any (prP L (y : Int) i) = true) := by
           rw [hl2, List.any_eq_true, List.any_eq_true]
           constructor
           · rintro ⟨k, k1, k2⟩
             obtain ⟨k3, k4⟩ := Z6l.1 k1
             have k5 : k ∉ ps := fun h => k4 (by simp [h])
             obtain ⟨m, m1, m2⟩ := Zit ((hr k y).1 k2)
             obtain ⟨q, q1, q2⟩ := List.mem_map.1 m1
             obtain ⟨a, b, rfl, _, _⟩ := hpair q q1
             simp only [tN, Int.toNat_natCast, Prod.mk.injEq] at q2
             obtain ⟨rfl, rfl⟩ := q2
             refine ⟨_, q1, ?_⟩
             unfold prP
             have hna : a ∉ ps := by
               intro ha
               rcases m2 with rfl | m2
               · exact k5 ha
               · exact k5 (p3 a ha k m2)
             rw [p1]
             simp only [decide_true, Bool.true_and, Bool.not_eq_true', decide_eq_false_iff_not]
             exact fun h => hna ((hmem a).1 h)
           · rintro ⟨q, q1, q2⟩
             obtain ⟨a, b, rfl, ha, hb2⟩ := hpair q q1
             unfold prP at q2
             rw [p1] at q2
             simp only [Bool.and_eq_true, decide_eq_true_eq, Bool.not_eq_true', decide_eq_false_iff_not] at q2
             have hby : b = y := by omega
             subst hby
             have hbit : bit (sets n es) a b = true := (hr a b).2 (.single (List.mem_map.2 ⟨_, q1, by simp [tN]⟩))
             refine ⟨a, Z6l.2 ⟨by omega, fun h => ?_⟩, hbit⟩
             rcases List.mem_append.1 h with h | h
             · exact q2.2 ((hmem a).2 h)
             · have : a = b := by simpa using h
               rw [this, ord.irr] at hbit
               exact absurd hbit (by simp)
         by_cases c3 : es.any (prP L (y : Int) i) = true
         · exact ⟨21, if_pos (hany.2 c3), if_pos c3, fun h => by simp at h⟩
         · refine ⟨0, if_neg (fun h => c3 (hany.1 h)), if_neg c3, fun _ => ⟨ps ++ [y], by rw [ht]; simp [toI], ?_, ?_⟩⟩
           · intro z hz
             rcases List.mem_append.1 hz with h | h
             · exact p2 z h
             · have : z = y := by simpa using h
               omega
           · intro z hz a ha
             rcases List.mem_append.1 hz with h | h
             · exact List.mem_append_left _ (p3 z h a ha)
             · have : z = y := by simpa using h
               subst this
               obtain ⟨m, m1, m2⟩ := Zit ha
               obtain ⟨q, q1, q2⟩ := List.mem_map.1 m1
               obtain ⟨u, v, rfl, _, _⟩ := hpair q q1
               simp only [tN, Int.toNat_natCast, Prod.mk.injEq] at q2
               obtain ⟨rfl, rfl⟩ := q2
               have hu : u ∈ ps := by
                 refine Classical.byContradiction fun hc => c3 (List.any_eq_true.2 ⟨_, q1, ?_⟩)
                 unfold prP
                 rw [p1]
                 simp only [decide_true, Bool.true_and, Bool.not_eq_true', decide_eq_false_iff_not]
                 exact fun h => hc ((hmem u).1 h)
               rcases m2 with rfl | m2
               · exact List.mem_append_left _ hu
               · exact List.mem_append_left _ (p3 u hu a m2)
   · rw [if_pos hz, if_pos hz]
     exact ⟨rfl, fun h => absurd h hz⟩
theorem ZyL {ls : List Ld} {es : List Pr} {n : Nat} {L : List Int} (hn : ls.length = n) (hk : chk ls es = 0) (hl : L.length = n) (hb : ∀ x ∈ L, 0 ≤ x ∧ x ≤ n) : wN es L n 0 n = validE ls es L := by
 unfold validE ordersE
 have h1 := (ZaB hn hk hb L.length (Nat.le_refl _)).1
 rw [if_neg (by simpa using hk), if_neg (by omega), hn, Zxy]
 rw [hl] at h1 ⊢
 exact h1.symm
theorem ZyC {ls : List Ld} {es : List Pr} {L : List Int} (hk : chk ls es = 0) (hl : L.length ≠ ls.length) : validE ls es L = 5 := by
 unfold validE ordersE
 rw [if_neg (by simpa using hk), if_pos hl]
theorem ZYt (l : List Nat) : nats (toI l) = l := by
 unfold nats toI
 rw [List.map_map]
 have : l.map (Int.toNat ∘ fun (i : Nat) => (i : Int)) = l.map id := List.map_congr_left fun _ _ => rfl
 rw [this, List.map_id]
theorem ZDa {n s : Nat} (hn : n ≤ 6) (hs : s < 2 ^ n) {r : List Int} {i : Nat} (hi : i < (lst s).length) : bdE n (toI (lst s) ++ r) i = 0 := by
 have hg : ∀ j, j < (lst s).length → (toI (lst s) ++ r).getD j 0 = ((lst s).getD j 0 : Nat) := by
   intro j hj
   have : ((toI (lst s)) ++ r)[j]? = (toI (lst s))[j]? := List.getElem?_append_left (by simpa [toI] using hj)
   rw [List.getD_eq_getElem?_getD, this]
   simp [toI, hj]
 have hlt : ∀ j (hj : j < (lst s).length), (lst s).getD j 0 < n := fun j hj => by
   have : (lst s).getD j 0 = (lst s)[j] := by simp [hj]
   rw [this]; exact Z1C hn hs _ (List.getElem_mem hj)
 have h1 := hlt i hi
 unfold bdE
 rw [hg i hi, if_neg (by omega)]
 cases i with
 | zero => rw [if_neg (by simp only [lastI]; omega)]
 | succ i =>
   have h2 : (lst s).getD i 0 < (lst s).getD (i + 1) 0 := by
     have e1 : (lst s).getD i 0 = (lst s)[i] := by simp [show i < (lst s).length by omega]
     have e2 : (lst s).getD (i + 1) 0 = (lst s)[i + 1] := by simp [hi]
     rw [e1, e2]
     exact (List.pairwise_iff_getElem.1 (Zdr s)) i (i + 1) (by omega) hi (by omega)
   rw [if_neg (by simp only [lastI]; rw [hg i (by omega)]; omega)]
theorem ZlJ {s : Nat} (hs : s < 64) (h0 : s ≠ 0) : 0 < (lst s).length := by
 rcases Nat.eq_zero_or_pos (lst s).length with h | h
 · exact absurd ((Z9F s hs).1 (List.length_eq_zero_iff.1 h)) h0
 · exact h
noncomputable section
variable {ls : List Ld} {es : List Pr} {n s : Nat} {k : Int}
theorem ZRd (hk : chk ls es = 0) : provE ls es k [] = 4 := by
 have : boundsE ls es [] = 4 := by
   unfold boundsE
   rw [if_neg (by simpa using hk)]; rfl
 unfold provE
 rw [this]; rfl
theorem ZMg (hn : ls.length = n) (hk : chk ls es = 0) (hs : s < 2 ^ n) (h0 : s ≠ 0) : provE ls es k (toI (lst s)) = if bndS ls (sets n es) s < k then 14 else 0 := by
 have hle : n ≤ 6 := by have := (Z36 hk).1.le; omega
 have h64 : s < 64 := Nat.lt_of_lt_of_le hs (Nat.pow_le_pow_right (n := 2) (by omega) hle)
 have hpos := ZlJ h64 h0
 have hb : boundsE ls es (toI (lst s)) = 0 := by
   unfold boundsE
   rw [if_neg (by simpa using hk), if_neg (by rw [List.length_map]; omega)]
   refine Z0A.2 fun i hi => ?_
   have := ZDa (n := n) hle hs (r := []) (i := i) (by simpa [toI] using hi)
   rw [List.append_nil] at this
   rw [hn]; exact this
 have hv : boundV ls es (toI (lst s)) = bndS ls (sets n es) s := by
   unfold boundV
   rw [if_pos hb, hn]
   congr 1
   unfold setP
   rw [List.take_of_length_le (Nat.le_refl _), ZYt, Z09u h64]
 unfold provE
 rw [if_neg (by simpa using hb), hv]
theorem Zhp (hn : ls.length = n) (hk : chk ls es = 0) (hs : s < 2 ^ n) {z : Int} {x : Int} (hx : bdE n (toI (lst s) ++ [z]) (lst s).length = x) (h0 : x ≠ 0) : provE ls es k (toI (lst s) ++ [z]) = x := by
 have hle : n ≤ 6 := by have := (Z36 hk).1.le; omega
 have hl : (toI (lst s) ++ [z]).length = (lst s).length + 1 := by simp [toI]
 have hb : boundsE ls es (toI (lst s) ++ [z]) = x := by
   unfold boundsE
   rw [if_neg (by simpa using hk), if_neg (by omega), hl, Z2R, hn]
   have : firstE (lst s).length (bdE n (toI (lst s) ++ [z])) = 0 := Z0A.2 fun i hi => ZDa hle hs hi
   rw [if_neg (by simp [this])]
   exact hx
 unfold provE
 rw [if_pos (by rw [hb]; exact h0), hb]
theorem Zkf (hn : ls.length = n) (hk : chk ls es = 0) (hs : s < 2 ^ n) : provE ls es k (toI (lst s) ++ [(n : Int)]) = 2 := by
 refine Zhp hn hk hs ?_ (by omega)
 have e : (toI (lst s) ++ [(n : Int)]).getD (lst s).length 0 = n := by simp [toI]
 unfold bdE
 rw [e, if_pos (.inr (Int.le_refl _))]
theorem ZGf (hn : ls.length = n) (hk : chk ls es = 0) (hs : s < 2 ^ n) (h0 : s ≠ 0) : provE ls es k (toI (lst s) ++ [(((lst s).getD 0 0 : Nat) : Int)]) = 7 := by
 have hle : n ≤ 6 := by have := (Z36 hk).1.le; omega
 have h64 : s < 64 := Nat.lt_of_lt_of_le hs (Nat.pow_le_pow_right (n := 2) (by omega) hle)
 have hpos := ZlJ h64 h0
 refine Zhp hn hk hs ?_ (by omega)
 have e : (toI (lst s) ++ [(((lst s).getD 0 0 : Nat) : Int)]).getD (lst s).length 0 = ((lst s).getD 0 0 : Nat) := by simp [toI]
 have e0 : (lst s).getD 0 0 = (lst s)[0] := by simp [hpos]
 have hlt : (lst s).getD 0 0 < n := by rw [e0]; exact Z1C hle hs _ (List.getElem_mem hpos)
 unfold bdE
 rw [e, if_neg (by omega)]
 obtain ⟨m, hm⟩ : ∃ m, (lst s).length = m + 1 := ⟨(lst s).length - 1, by omega⟩
 have e2 : lastI (toI (lst s) ++ [(((lst s).getD 0 0 : Nat) : Int)]) (lst s).length = ((lst s).getD m 0 : Nat) := by
   rw [hm]
   simp only [lastI]
   have : ((toI (lst s)) ++ [(((lst s).getD 0 0 : Nat) : Int)])[m]? = (toI (lst s))[m]? := List.getElem?_append_left (by simp [toI, hm])
   rw [List.getD_eq_getElem?_getD, this]
   simp [toI, show m < (lst s).length by omega]
 rw [e2, if_pos]
 have em : (lst s).getD m 0 = (lst s)[m]'(by omega) := by simp [show m < (lst s).length by omega]
 rw [e0, em]
 rcases Nat.eq_zero_or_pos m with h | h
 · subst h; omega
 · have := (List.pairwise_iff_getElem.1 (Zdr s)) 0 m hpos (by omega) h
   omega
end
end Go.AM.YtgfnbmfjbjopkaaDoor
end
noncomputable section
namespace Go.AM.YtgfnbmfjbjopkaaDoor
open Go Go.AM Go.AM.Mule
theorem Z043 {d : Nat} {site : Nat → Nat} {seen : List Nat} : aBack site true seen (thaw (callA E fg 1000 (d + 1)) 41 [.int .i64 0] [] 0) = .pure (.nilsl, []) := by
 rcases ZAy (d := d) (s := 0) (by omega) with h1 | h1
 · obtain ⟨_, H, h⟩ := h1
   exact Z0l h rfl (fun _ => rfl) rfl
 · exact absurd rfl h1.1
theorem Z01P {C : Callee} : ∃ H', bodyA E C fg 1000 77 [.nilsl] [] 0 = some (.nilsl, H') := by
 refine ⟨[], ?_⟩
 simp (disch := omega) only [ZF, Z7, stp, just, Rd.bind, Rd.run, upds, resA, resL, aBin, Nat.reduceBEq, Nat.reduceEqDiff, Nat.reduceLeDiff, ↓reduceIte, reduceCtorEq, Zo, ZT, F_77, aNil]
theorem ZWb {d : Nat} {site : Nat → Nat} {seen : List Nat} : aBack site true seen (thaw (callA E fg 1000 (d + 1)) 77 [.nilsl] [] 0) = .pure (.nilsl, []) := by
 obtain ⟨H, h⟩ := Z01P (C := callA E fg 1000 d)
 exact Z0l h rfl (fun _ => rfl) rfl
structure StC (C : Callee) (ls : List Ld) (es : List Pr) (n : Nat) : Prop where
 mem0 : ∀ (site : Nat → Nat) seen, aBack site true seen (thaw C 41 [.int .i64 0] [] 0) = .pure (.nilsl, [])
 mem : ∀ (site : Nat → Nat) seen (s : Nat), s < 64 → s ≠ 0 → aBack site true seen (thaw C 41 [.int .i64 (s : Int)] [] 0) = Z0g (site 0) seen (fun k => .ref k 0 (lst s).length (lst s).length (lst s).length 1 false) ⟨.row, ins (lst s)⟩
 cl0 : ∀ (site : Nat → Nat) seen, aBack site true seen (thaw C 77 [.nilsl] [] 0) = .pure (.nilsl, [])
 cl : ∀ (site : Nat → Nat) seen (l : List Nat) ex, 0 < l.length → l.length ≤ 6 → aBack site true seen (thaw C 77 [.imm (ins l) l.length ex] [] 0) = Z0g (site 0) seen (fun k => .ref k 0 l.length l.length l.length 1 false) ⟨.row, ins l⟩
 bd : ∀ (site : Nat → Nat) seen (s : Nat) ex b, s < 2 ^ n → s ≠ 0 → SV bc es b → aBack site true seen (thaw C 73 [.agg [.imm (cls lc ls) n ex, b], .int .i64 (s : Int)] [] 0) = .pure (.int .i64 (bndS ls (sets n es) s), [])
 pr : ∀ (site : Nat → Nat) seen ex b c k (l : List Int), SV bc es b → IV l c → l.length < 900 → aBack site true seen (thaw C 32 [.agg [.imm (cls lc ls) n ex, b], .int .i64 k, c] [] 0) = .pure (.int .i64 (provE ls es k l), [])
 works : ∀ (site : Nat → Nat) seen, aBack site true seen (thaw C 17 [] [] 0) = .pure (.bool true, [])
theorem stC {ls : List Ld} {es : List Pr} {n : Nat} (hn : ls.length = n) (hk : chk ls es = 0) (hw : ∃ H0, callA E fg 1000 40 17 [] [] 0 = some (.bool true, H0)) : StC (callA E fg 1000 40) ls es n :=
 ⟨fun _ _ => Z043 (d := 39), fun _ _ _ a b => ZAi (d := 39) a b, fun _ _ => ZWb (d := 39), fun site seen l ex h0 h6 => by
     have h := ZVZ (d := 39) (site := site) (seen := seen) (l := toI l) (ex := ex) (by rw [List.length_map]; exact h0) (by rw [List.length_map]; omega)
     rw [List.length_map, ← Z9c] at h
     exact h,
   fun _ _ _ _ _ a b c => ZyO (d := 38) hn hk c a b, fun _ _ ex b c k l hb hc hl => ZyF (d := 32) (.inr ⟨ex, by rw [hn]⟩) hb hc hl, fun site seen => Z1B hw⟩
abbrev m7S (ls : List Ld) (es : List Pr) (L : List Int) (n off m : Nat) (st c : Int) : St :=
 ([(83, .bool false), (12, .int .i64 n), (11, .ptr 11 0 2), (4, .int .u8 c), (3, .int .u8 st)],
   (11, ⟨.box, [.ref 25 0 n n (n * 5) 5 false, pV 169 es.length]⟩) :: (13, ⟨.box, [.ref 43 off m m n 1 false]⟩) :: (25, ⟨.row, cls lc ls⟩) :: (43, ⟨.row, ics L⟩) :: pH 169 .row es)
theorem Z06G {C : Callee} {ls : List Ld} {es : List Pr} {L : List Int} {n off m : Nat} {st c : Int} (hC : StC C ls es n) (hn : ls.length = n) (hk : chk ls es = 0) (h5 : n ≤ 5) (hst : 0 ≤ st ∧ st ≤ 255) (hc : 0 ≤ c ∧ c ≤ 255) :
   ∃ s', (execA E C (fg 13) 0 144 [] 1000 Z73) (m7S ls es L n off m st c) = some (.ret, s') ∧ fget s'.1 10 = .bool true := by
 have hpow : 2 ^ n ≤ 32 := Nat.pow_le_pow_right (n := 2) (by omega) (show n ≤ 5 from h5)
 have hpow1 := Nat.two_pow_pos n
 have hsh := shlI (i := n) (by omega)
 rw [Nat.one_shiftLeft] at hsh
 have e0 : (((2 ^ n : Nat) : Int)) ≠ 0 := by omega
 have q1 := Int.emod_nonneg st e0
 have q2 := Int.emod_lt_of_pos st (show 0 < ((2 ^ n : Nat) : Int) by omega)
 obtain ⟨s, hs⟩ : ∃ s : Nat, st % ((2 ^ n : Nat) : Int) = s := ⟨(st % ((2 ^ n : Nat) : Int)).toNat, by omega⟩
 have r1 : st.tmod ((2 ^ n : Nat) : Int) = (s : Int) := by rw [Int.tmod_eq_emod_of_nonneg hst.1, hs]
 have hsn : s < 2 ^ n := by omega
 have h64 : s < 64 := by omega
 have w1 : wrp .i64 st = st := ZC (by omega)
 have w2 : wrp .i64 c = c := ZC (by omega)
 have w3 : wrp .i64 (s : Int) = s := ZC (by omega)
 have r2 : c.tmod 70 = c % 70 := Int.tmod_eq_emod_of_nonneg hc.1
 have w4 : wrp .i64 (c % 70) = c % 70 := ZC (by omega)
 obtain ⟨k, hk7⟩ : ∃ k, c % 70 - 3 = k := ⟨_, rfl⟩
 have w5 : wrp .i64 (c % 70 - 3) = k := by rw [ZC (by omega), hk7]
 have z5 : ¬ ((2 ^ n : Nat) : Int) = 0 := e0
 have hlen : (cls lc ls).length = n * 5 := by rw [Z9 Zq, hn]
 have tcl : List.take (n * 5) (cls lc ls) = cls lc ls := List.take_of_length_le (by omega)
 have hcb : (cls bc es).length = es.length * 2 := Z9 Z00 es
 have tcb : List.take (es.length * 2) (cls bc es) = cls bc es := List.take_of_length_le (by omega)
 have hwk := hC.works
 obtain ⟨N, hN⟩ : ∃ N, 2 ^ n = N := ⟨_, rfl⟩
 rw [hN] at hsh r1 z5
 simp only [m7S]
 by_cases h0 : s = 0
 · subst h0
   have hm0 := hC.mem0
   have hc0 := hC.cl0
   have hp0 := fun site seen ex b hb => hC.pr site seen ex b .nilsl k [] hb (.inl ⟨rfl, rfl⟩) (by simp)
   rw [ZRd hk] at hp0
   have hp1 := fun site seen ex b e hb => hC.pr site seen ex b (.imm [.int .i64 (n : Int)] 1 e) k [(n : Int)] hb (.inr ⟨e, rfl⟩) (by simp)
   rw [show [(n : Int)] = toI (lst 0) ++ [(n : Int)] from rfl, Zkf (s := 0) hn hk (Nat.two_pow_pos n)] at hp1
   have z0 : ((0 : Nat) : Int) = 0 := rfl
   rw [z0] at r1 w3
   rcases pVH 169 .row es with ⟨ee, e1, e2⟩ | ⟨e1, e2⟩ <;> rw [e1, e2]
   · have hp0' := fun site seen ex => hp0 site seen ex .nilsl (.inl ⟨ee, rfl⟩)
     have hp1' := fun site seen ex e => hp1 site seen ex .nilsl e (.inl ⟨ee, rfl⟩)
     simp (disch := omega) only [ZF, ↓gd, stp, opPick, justO, just, Rd.bind, Rd.run, Rd.opt, upds, acells, zeroCells, tsz, elemT, rdCells, aLoad, fresh, Z2, aNum, Z4, aBin, aInt, putC, evO, Nat.reduceAdd, Nat.reduceLT, Nat.reduceBEq, Nat.reduceEqDiff, Nat.reduceLeDiff, ↓reduceIte, reduceCtorEq, stpT, Rd.foot, writing, Ze, Tr.empty, Zg, apartT, disj, Zd, Zu, partsOf, fillA, repC, Zo, aAppend, srcOf, window, aCall, snaps, aConv, Int.reduceEq, ZT, F_13, hsh, r1, r2, w1, w2, w5, z5, hlen, tcl, hm0, hc0, hp0', hp1', hwk, Z2r (show 1 ≤ 1000000 by omega)]
     refine ⟨_, rfl, ?_⟩
     rfl
   · have hp0' := fun site seen ex ex' => hp0 site seen ex (.imm (cls bc es) es.length ex') (.inr ⟨ex', rfl⟩)
     have hp1' := fun site seen ex ex' e => hp1 site seen ex (.imm (cls bc es) es.length ex') e (.inr ⟨ex', rfl⟩)
     simp (disch := omega) only [ZF, ↓gd, stp, opPick, justO, just, Rd.bind, Rd.run, Rd.opt, upds, acells, zeroCells, tsz, elemT, rdCells, aLoad, fresh, Z2, aNum, Z4, aBin, aInt, putC, evO, Nat.reduceAdd, Nat.reduceLT, Nat.reduceBEq, Nat.reduceEqDiff, Nat.reduceLeDiff, ↓reduceIte, reduceCtorEq, stpT, Rd.foot, writing, Ze, Tr.empty, Zg, apartT, disj, Zd, Zu, partsOf, fillA, repC, Zo, aAppend, srcOf, window, aCall, snaps, aConv, Int.reduceEq, ZT, F_13, hsh, r1, r2, w1, w2, w5, z5, hlen, tcl, hcb, tcb, hm0, hc0, hp0', hp1', hwk, Z2r (show 1 ≤ 1000000 by omega)]
     refine ⟨_, rfl, ?_⟩
     rfl
 · have hpos := ZlJ h64 h0
   have hl6 := Z1G s
   have hm := fun site seen => hC.mem site seen s h64 h0
   have hcl := fun site seen ex => hC.cl site seen (lst s) ex hpos hl6
   have hbd := fun site seen ex b hb => hC.bd site seen s ex b hsn h0 hb
   have hIs : ∀ e, IV (toI (lst s)) (.imm (ins (lst s)) (lst s).length e) := fun e => .inr ⟨e, by rw [Z9c, List.length_map]⟩
   have hIn : ∀ e, IV (toI (lst s) ++ [(n : Int)]) (.imm (ins (lst s) ++ [.int .i64 (n : Int)]) ((lst s).length + 1) e) := fun e => .inr ⟨e, by rw [Z9c, Zab, List.length_append, List.length_map]; rfl⟩
   have hIt : ∀ e, IV (toI (lst s) ++ [(((lst s).getD 0 0 : Nat) : Int)]) (.imm (ins (lst s) ++ [.int .i64 (((lst s).getD 0 0 : Nat) : Int)]) ((lst s).length + 1) e) := fun e => .inr ⟨e, by rw [Z9c, Zab, List.length_append, List.length_map]; rfl⟩
   have hp0 := fun site seen ex b e hb => hC.pr site seen ex b _ k _ hb (hIs e) (by rw [List.length_map]; omega)
   have hp1 := fun site seen ex b e hb => hC.pr site seen ex b _ k _ hb (hIn e) (by rw [List.length_append, List.length_map, List.length_singleton]; omega)
   have hp2 := fun site seen ex b e hb => hC.pr site seen ex b _ k _ hb (hIt e) (by rw [List.length_append, List.length_map, List.length_singleton]; omega)
   rw [ZMg hn hk hsn h0] at hp0
   rw [Zkf hn hk hsn] at hp1
   rw [ZGf hn hk hsn h0] at hp2
   have hat := Z22 (ZU (l := lst s) (i := 0) hpos)
   rw [show (lst s).getD 0 default = (lst s).getD 0 0 from rfl] at hat
   have hil := Zk (lst s)
   have htk : List.take (lst s).length (ins (lst s)) = ins (lst s) := Zhi _
   have hno : ¬ (lst s).length + 1 ≤ (lst s).length := by omega
   have g0 : ((lst s).length : Int) > 0 := by omega
   have g1 : (0 : Int) < (lst s).length := by omega
   have n0 : ¬ (s : Int) = 0 := by omega
   have n1 : (s : Int) > 0 := by omega
   have nb : ((s : Int) == 0) = false := by rw [beq_eq_false_iff_ne]; exact n0
   generalize bndS ls (sets n es) s = z at *
   generalize (lst s).getD 0 0 = y at *
   have hm1 : (lst s).length ≤ 6 := hl6
   generalize ins (lst s) = L2 at *
   generalize (lst s).length = m2 at *
   have hL3 : ∀ x : AV, (L2 ++ [x]).length = m2 + 1 := fun x => by rw [List.length_append, hil]; rfl
   have tL3 : ∀ x : AV, List.take (m2 + 1) (L2 ++ [x]) = L2 ++ [x] := fun x => List.take_of_length_le (by rw [hL3]; exact Nat.le_refl _)
   by_cases hz : z < k
   · have hz2 : ¬ z ≥ k := by omega
     rw [if_pos hz] at hp0
     rcases pVH 169 .row es with ⟨ee, e1, e2⟩ | ⟨e1, e2⟩ <;> rw [e1, e2]
     · have hp0' := fun site seen ex e => hp0 site seen ex .nilsl e (.inl ⟨ee, rfl⟩)
       have hp1' := fun site seen ex e => hp1 site seen ex .nilsl e (.inl ⟨ee, rfl⟩)
       have hp2' := fun site seen ex e => hp2 site seen ex .nilsl e (.inl ⟨ee, rfl⟩)
       have hbd' := fun site seen ex => hbd site seen ex .nilsl (.inl ⟨ee, rfl⟩)
       simp (disch := omega) only [ZF, ↓gd, stp, opPick, justO, just, Rd.bind, Rd.run, Rd.opt, upds, acells, zeroCells, tsz, elemT, rdCells, aLoad, fresh, Z2, aNum, Z4, aBin, aInt, putC, evO, Nat.reduceAdd, Nat.reduceLT, Nat.reduceBEq, Nat.reduceEqDiff, Nat.reduceLeDiff, ↓reduceIte, reduceCtorEq, stpT, Rd.foot, writing, Ze, Tr.empty, Zg, apartT, disj, Zd, Zu, partsOf, fillA, repC, Zo, aAppend, srcOf, window, aCall, snaps, aConv, Int.reduceEq, Int.reduceLE, Int.reduceToNat, ZT, F_13, hsh, r1, r2, w1, w2, w5, z5, hlen, tcl, hm, hcl, hbd', hp0', hp1', hp2', hwk, hat, hil, htk, hL3, tL3, hno, g1, n1, nb, hz2, Z2r (show m2 + 1 ≤ 1000000 by omega)]
       refine ⟨_, rfl, ?_⟩
       rfl
     · have hp0' := fun site seen ex e ex' => hp0 site seen ex (.imm (cls bc es) es.length ex') e (.inr ⟨ex', rfl⟩)
       have hp1' := fun site seen ex e ex' => hp1 site seen ex (.imm (cls bc es) es.length ex') e (.inr ⟨ex', rfl⟩)
       have hp2' := fun site seen ex e ex' => hp2 site seen ex (.imm (cls bc es) es.length ex') e (.inr ⟨ex', rfl⟩)
       have hbd' := fun site seen ex ex' => hbd site seen ex (.imm (cls bc es) es.length ex') (.inr ⟨ex', rfl⟩)
       simp (disch := omega) only [ZF, ↓gd, stp, opPick, justO, just, Rd.bind, Rd.run, Rd.opt, upds, acells, zeroCells, tsz, elemT, rdCells, aLoad, fresh, Z2, aNum, Z4, aBin, aInt, putC, evO, Nat.reduceAdd, Nat.reduceLT, Nat.reduceBEq, Nat.reduceEqDiff, Nat.reduceLeDiff, ↓reduceIte, reduceCtorEq, stpT, Rd.foot, writing, Ze, Tr.empty, Zg, apartT, disj, Zd, Zu, partsOf, fillA, repC, Zo, aAppend, srcOf, window, aCall, snaps, aConv, Int.reduceEq, Int.reduceLE, Int.reduceToNat, ZT, F_13, hsh, r1, r2, w1, w2, w5, z5, hlen, tcl, hcb, tcb, hm, hcl, hbd', hp0', hp1', hp2', hwk, hat, hil, htk, hL3, tL3, hno, g1, n1, nb, hz2, Z2r (show m2 + 1 ≤ 1000000 by omega)]
       refine ⟨_, rfl, ?_⟩
       rfl
   · have hz2 : z ≥ k := by omega
     rw [if_neg hz] at hp0
     rcases pVH 169 .row es with ⟨ee, e1, e2⟩ | ⟨e1, e2⟩ <;> rw [e1, e2]
     · have hp0' := fun site seen ex e => hp0 site seen ex .nilsl e (.inl ⟨ee, rfl⟩)
       have hp1' := fun site seen ex e => hp1 site seen ex .nilsl e (.inl ⟨ee, rfl⟩)
       have hp2' := fun site seen ex e => hp2 site seen ex .nilsl e (.inl ⟨ee, rfl⟩)
       have hbd' := fun site seen ex => hbd site seen ex .nilsl (.inl ⟨ee, rfl⟩)
       simp (disch := omega) only [ZF, ↓gd, stp, opPick, justO, just, Rd.bind, Rd.run, Rd.opt, upds, acells, zeroCells, tsz, elemT, rdCells, aLoad, fresh, Z2, aNum, Z4, aBin, aInt, putC, evO, Nat.reduceAdd, Nat.reduceLT, Nat.reduceBEq, Nat.reduceEqDiff, Nat.reduceLeDiff, ↓reduceIte, reduceCtorEq, stpT, Rd.foot, writing, Ze, Tr.empty, Zg, apartT, disj, Zd, Zu, partsOf, fillA, repC, Zo, aAppend, srcOf, window, aCall, snaps, aConv, Int.reduceEq, Int.reduceLE, Int.reduceToNat, ZT, F_13, hsh, r1, r2, w1, w2, w5, z5, hlen, tcl, hm, hcl, hbd', hp0', hp1', hp2', hwk, hat, hil, htk, hL3, tL3, hno, g1, n1, nb, hz2, Z2r (show m2 + 1 ≤ 1000000 by omega)]
       refine ⟨_, rfl, ?_⟩
       rfl
     · have hp0' := fun site seen ex e ex' => hp0 site seen ex (.imm (cls bc es) es.length ex') e (.inr ⟨ex', rfl⟩)
       have hp1' := fun site seen ex e ex' => hp1 site seen ex (.imm (cls bc es) es.length ex') e (.inr ⟨ex', rfl⟩)
       have hp2' := fun site seen ex e ex' => hp2 site seen ex (.imm (cls bc es) es.length ex') e (.inr ⟨ex', rfl⟩)
       have hbd' := fun site seen ex ex' => hbd site seen ex (.imm (cls bc es) es.length ex') (.inr ⟨ex', rfl⟩)
       simp (disch := omega) only [ZF, ↓gd, stp, opPick, justO, just, Rd.bind, Rd.run, Rd.opt, upds, acells, zeroCells, tsz, elemT, rdCells, aLoad, fresh, Z2, aNum, Z4, aBin, aInt, putC, evO, Nat.reduceAdd, Nat.reduceLT, Nat.reduceBEq, Nat.reduceEqDiff, Nat.reduceLeDiff, ↓reduceIte, reduceCtorEq, stpT, Rd.foot, writing, Ze, Tr.empty, Zg, apartT, disj, Zd, Zu, partsOf, fillA, repC, Zo, aAppend, srcOf, window, aCall, snaps, aConv, Int.reduceEq, Int.reduceLE, Int.reduceToNat, ZT, F_13, hsh, r1, r2, w1, w2, w5, z5, hlen, tcl, hcb, tcb, hm, hcl, hbd', hp0', hp1', hp2', hwk, hat, hil, htk, hL3, tL3, hno, g1, n1, nb, hz2, Z2r (show m2 + 1 ≤ 1000000 by omega)]
       refine ⟨_, rfl, ?_⟩
       rfl
end Go.AM.YtgfnbmfjbjopkaaDoor
end
noncomputable section
namespace Go.AM.YtgfnbmfjbjopkaaDoor
open Go Go.AM Go.AM.Mule
theorem Z0dz {zs : List Int} (h : zs.length = 6) : ∃ a b c d e f, zs = [a, b, c, d, e, f] := by
 match zs, h with
 | [a, b, c, d, e, f], _ => exact ⟨a, b, c, d, e, f, rfl⟩
end Go.AM.YtgfnbmfjbjopkaaDoor
end
noncomputable section
namespace Go.AM.YtgfnbmfjbjopkaaDoor
open Go Go.AM Go.AM.Mule
theorem Z091 {D : Dro} {zs : List Int} {ls : List Ld} {es : List Pr} {n : Nat} {m st c : Int} (hz : Z6 zs) :
   headA [] ([(32, .int .i64 0), (31, .int .i64 n), (30, .ref 6 0 n 6 6 1 true), (13, .ptr 13 0 1), (12, .int .i64 n), (11, .ptr 11 0 2), (4, .int .u8 c), (3, .int .u8 st), (2, .int .u8 m)],
     (5, ⟨.box, dcs D⟩) :: (6, ⟨.box, u8s zs⟩) :: (11, ⟨.box, [.ref 25 0 n n (n * 5) 5 false, pV 169 es.length]⟩) :: (13, ⟨.box, [.nilsl]⟩) :: (25, ⟨.row, cls lc ls⟩) :: pH 169 .row es) = s1S zs ls es n m st c 0 := by
 have h0 : ∀ zs, ics ((shL zs n).take 0) = [] := fun zs => rfl
 obtain ⟨a, b, c, d, e, f, rfl⟩ := Z0dz hz.l
 simp only [s1S, h0, oV, oH, List.nil_append]
 rcases pVH 169 .row es with ⟨_, e1, e2⟩ | ⟨e1, e2⟩ <;> rw [e1, e2] <;> exact Z1U (Zm _ ZP) rfl rfl
theorem Z0br {zs : List Int} {n : Nat} (hz : Z6 zs) (hn : n ≤ 6) : (shL zs n).length = n ∧ ∀ x ∈ shL zs n, 0 ≤ x ∧ x ≤ n := by
 refine ⟨by simp [shL, hz.l]; omega, fun x hx => ?_⟩
 obtain ⟨z, hz1, rfl⟩ := List.mem_map.1 hx
 have r2 := Int.emod_nonneg z (show (n : Int) + 1 ≠ 0 by omega)
 have r3 := Int.emod_lt_of_pos z (show 0 < (n : Int) + 1 by omega)
 omega
theorem ZiI {D : Dro} {zs : List Int} {many st c : Int} (h : DOk D) (hz0 : zs.length = 6 ∧ ∀ (i : Nat) (z : Int), zs[i]? = some z → 0 ≤ z ∧ z ≤ 255) (_ : 0 ≤ many ∧ many ≤ 255) (hst : 0 ≤ st ∧ st ≤ 255) (hc : 0 ≤ c ∧ c ≤ 255) (hw : ∃ H0, callA E fg 1000 40 17 [] [] 0 = some (.bool true, H0)) :
   rsOf (bodyA E (callA E fg 1000 40) fg 1000 13 [.agg (dcs D), .agg (zs.map (AV.int .u8)), .int .u8 many, .int .u8 st, .int .u8 c] [] 0) = some (.bool true) := by
 have hz : Z6 zs := ⟨hz0.1, hz0.2⟩
 rw [show zs.map (AV.int .u8) = u8s zs from rfl]
 have hm : (5 : Int) = 5 ∨ (5 : Int) = 6 := .inl rfl
 obtain ⟨n1, n2⟩ := ZiW h hm
 have h5 : nOf D 5 ≤ 5 := by omega
 have hmade0 := fun site seen he => ZGY (d := 38) (site := site) (seen := seen) h hm he
 have hmade1 := fun site seen he hs => ZHf (d := 38) (site := site) (seen := seen) h hm he hs
 have hll := Z2C h (show nOf D 5 ≤ 6 by omega)
 have hk := ZQn h n1 (show nOf D 5 ≤ 6 by omega)
 have hhead := @Z091 D
 generalize nOf D 5 = n at *
 generalize mdL D n = ls at *
 generalize mdP D n = es at *
 have h15 := (Z4N hk).2.2.1
 obtain ⟨hLl, hLb⟩ := Z0br hz (show n ≤ 6 by omega)
 have hC := stC hll hk hw
 have hSh := shC (es := es) (L := shL zs n) hLl h5 (by omega) 35
 have hval := fun site seen ex b e (o : List Int) (m : Nat) (hb : SV bc es b) (hm : o.length = m) (h9 : m < 900) => ZGU (d := 34) (site := site) (seen := seen) (ls := ls) (es := es) (a := .imm (cls lc ls) n ex) (b := b) (c := .imm (ics o) m e) (o := o) (.inr ⟨ex, by rw [hll]⟩) hb (.inr ⟨e, by rw [hm]⟩) (by omega)
 have hv1 := ZyL hll hk hLl hLb
 have hv2 : validE ls es ((shL zs n).drop 1) = 5 := ZyC hk (by rw [List.length_drop]; omega)
 have htail := fun off m => Z06G (C := callA E fg 1000 40) (L := shL zs n) (off := off) (m := m) hC hll hk h5 hst hc
 generalize callA E fg 1000 40 = C at *
 have g1 := fun i hi => Z0o3 (C := C) (ls := ls) (es := es) (m := many) (st := st) (c := c) hz h5 i hi
 have hclL : (cls lc ls).length = n * 5 := by rw [Z9 Zq, hll]
 have tcl : List.take (n * 5) (cls lc ls) = cls lc ls := List.take_of_length_le (by omega)
 have hdl := Z3F h
 have tdl : List.take 38 (dcs D) = dcs D := List.take_of_length_le (by omega)
 have hsn := Z6i h (d := 198) (by omega)
 have hzl : (u8s zs).length = 6 := by rw [Zzt, hz.l]
 have g0 : (n : Int) ≤ 6 := by omega
 have hl1 := loopS (f := (execA E C (fg 13) 0 144 [] 1000 Z6a)) (s1S zs ls es n many st c) n _ g1 (hhead hz) (by omega)
   (e := .exit 0) (se := ([(33, .bool false), (32, .int .i64 n), (31, .int .i64 n), (30, .ref 6 0 n 6 6 1 true), (13, .ptr 13 0 1), (12, .int .i64 n), (11, .ptr 11 0 2), (4, .int .u8 c), (3, .int .u8 st), (2, .int .u8 many)],
     (6, ⟨.box, u8s zs⟩) :: (11, ⟨.box, [.ref 25 0 n n (n * 5) 5 false, pV 169 es.length]⟩) :: (13, ⟨.box, [.ref 43 0 n n n 1 false]⟩) :: (25, ⟨.row, cls lc ls⟩) :: (43, ⟨.row, ics (shL zs n)⟩) :: pH 169 .row es)) (by
     have ht : (shL zs n).take n = shL zs n := List.take_of_length_le (by omega)
     have hne : oH 43 (ics (shL zs n)) = [(43, ⟨.row, ics (shL zs n)⟩)] := Z6z _ (by rw [Zj]; omega)
     have hov : oV 43 1 n = .ref 43 0 n n n 1 false := by obtain ⟨m, rfl⟩ : ∃ m, n = m + 1 := ⟨n - 1, by omega⟩; simp only [oV, Nat.mul_one]
     simp only [s1S, ht, hne, hov, List.cons_append, List.nil_append]
     generalize ics (shL zs n) = L
     rcases pVH 169 .row es with ⟨_, e1, e2⟩ | ⟨e1, e2⟩ <;> rw [e1, e2]
     · simp (disch := omega) only [ZF, stp, just, Rd.bind, Rd.run, Rd.opt, upds, aBin, aInt, Nat.reduceEqDiff, Nat.reduceLeDiff, ↓reduceIte, F_13]
     · simp (disch := omega) only [ZF, stp, just, Rd.bind, Rd.run, Rd.opt, upds, aBin, aInt, Nat.reduceEqDiff, Nat.reduceLeDiff, ↓reduceIte, F_13]) (by simp)
 have hil : (ics (shL zs n)).length = n := by rw [Zj, hLl]
 have tk : List.take n (ics (shL zs n)) = ics (shL zs n) := List.take_of_length_le (by omega)
 have gnn : ((n : Int) != n) = false := by simp
 have hzz : ∀ z : Int, (z != z) = false := fun z => by simp
 by_cases hmany : many > 240
 · -- one load is left out
   have hd1 : List.take (n - 1) (List.drop 1 (ics (shL zs n))) = ics ((shL zs n).drop 1) := by
     rw [ZOd, List.take_of_length_le (by rw [Zj, List.length_drop]; omega)]
   have hdl1 : ((shL zs n).drop 1).length = n - 1 := by rw [List.length_drop, hLl]
   have hwr : wrp .i64 ((n : Int) - 1) = ((n - 1 : Nat) : Int) := by rw [ZC (by omega)]; omega
   have gne : ¬ ((n - 1 : Nat) : Int) = n := by omega
   have gne2 : (((n - 1 : Nat) : Int) != n) = true := by simpa using gne
   have g1n : (1 : Int) ≤ n := by omega
   have hsk := fun i hi => ZFj (C := C) (ls := ls) (es := es) (L := shL zs n) (off := 1) (m := n - 1) (st := st) (c := c) (w := 5) hLl h5 (by omega) (by omega) i hi
   obtain ⟨⟨φt, Ht⟩, t1, t2⟩ := htail 1 (n - 1)
   simp only [m7S] at t1 t2
   have hva := fun site seen ex b e hb => hval site seen ex b e _ (n - 1) hb hdl1 (by omega)
   rw [hv2] at hva
   have l2 := fun s0 h0 => loopS (f := (execA E C (fg 13) 0 144 [] 1000 Z2n)) (s2S ls es (shL zs n) n 1 (n - 1) st c 5) (n - 1) s0 hsk h0 (by omega)
     (e := .exit 2) (se := ([(56, .bool false), (55, .int .i64 (n - 1 : Nat)), (54, .int .i64 (n - 1 : Nat)), (53, .ref 43 1 (n - 1) (n - 1) n 1 false), (16, .int .i64 5), (13, .ptr 13 0 1), (12, .int .i64 n), (11, .ptr 11 0 2), (4, .int .u8 c), (3, .int .u8 st)],
       (11, ⟨.box, [.ref 25 0 n n (n * 5) 5 false, pV 169 es.length]⟩) :: (13, ⟨.box, [.ref 43 1 (n - 1) (n - 1) n 1 false]⟩) :: (25, ⟨.row, cls lc ls⟩) :: (43, ⟨.row, ics (shL zs n)⟩) :: pH 169 .row es)) (by
       simp only [s2S]
       rcases pVH 169 .row es with ⟨_, e1, e2⟩ | ⟨e1, e2⟩ <;> rw [e1, e2]
       · simp (disch := omega) only [ZF, stp, just, Rd.bind, Rd.run, Rd.opt, upds, aBin, aInt, Nat.reduceEqDiff, Nat.reduceLeDiff, ↓reduceIte, F_13]
       · simp (disch := omega) only [ZF, stp, just, Rd.bind, Rd.run, Rd.opt, upds, aBin, aInt, Nat.reduceEqDiff, Nat.reduceLeDiff, ↓reduceIte, F_13]) (by simp)
   generalize hLL : shL zs n = L at *
   by_cases he : es = []
   · subst he
     have hm0 := fun site seen => hmade0 site seen rfl
     obtain ⟨e1, e2⟩ : pV 169 ([] : List Pr).length = .nilsl ∧ pH 169 .row [] = [] := ⟨rfl, rfl⟩
     rw [e1, e2] at hl1 t1
     have l2' := l2 ([(55, .int .i64 0), (54, .int .i64 (n - 1 : Nat)), (53, .ref 43 1 (n - 1) (n - 1) n 1 false), (16, .int .i64 5), (13, .ptr 13 0 1), (12, .int .i64 n), (11, .ptr 11 0 2), (4, .int .u8 c), (3, .int .u8 st)], [(6, ⟨.box, u8s zs⟩), (11, ⟨.box, [.ref 25 0 n n (n * 5) 5 false, .nilsl]⟩), (13, ⟨.box, [.ref 43 1 (n - 1) (n - 1) n 1 false]⟩), (25, ⟨.row, cls lc ls⟩), (43, ⟨.row, ics L⟩)]) (Z1U (Zm _ (Z2c zs)) rfl rfl)
     rw [e1, e2] at l2'
     have hva' := fun site seen ex e => hva site seen ex .nilsl e (.inl ⟨rfl, rfl⟩)
     simp (disch := omega) only [ZF, Z7, stp, opBox, just, Rd.bind, Rd.run, Rd.opt, upds, acells, zeroCells, tsz, rdCells, fieldOf, Z3, aLoad, aStore, opStore, resA, resL, fresh, aNum, aLen, Z4, aBin, aInt, putC, Nat.reduceAdd, Nat.reduceLT, Nat.reduceBEq, Nat.reduceEqDiff, Nat.reduceLeDiff, ↓reduceIte, reduceCtorEq, aCall, snaps, aSlice, aBounds, bMax, bHigh, bLow, Int.reduceLE, Int.reduceToNat, ZT, ZbA, Z63, Z5X, Z52, Z5P, ZdD, Z4W, Z5I, Z5p, Z5m, Z5N, Zb3, Z5F, Z57, Z5e, Z66, Z5j, ZcT, Z51, Z5J, Z6M, Z5W, Z5n, Z5z, Z62, Z5q, Z7v, Z6F, ZdO, Z6X, Z4Y, Z61, Z5b, Z77, Z4u, Z42, Z4j, Z3T, Z6I, Z6E, Z7C, Z6N, Z3N, Z4v, Z7A, Z3W, Z4s, Z4c, Z3Y, Z3U, Z7p, Z4m, Z4b, Z7e, Z7l, Z7d, Z7D, Z4t, Z4g, Z46, Z44, Z70, Z7a, Z7y, Z71, Z3P, Z4e, Z4h, Z3X, Z4f, Z48, Z6D, Z3Z, Z3R, Z7w, Z7u, Z6Y, Z7z, Z6K, Z6J, Z7s, Z79, Z6L, Z6H, ZeX, ZcW, ZaP, Zcm, Zbg, b_13, hm0, hl1, l2', t1, t2, hclL, tcl, hdl, tdl, hsn, hzl, hmany, hil, hd1, gne2, g1n, hva', if_pos]
     done
   · have hm1 := fun site seen hs => hmade1 site seen he hs
     have h0 : es.length ≠ 0 := by rw [Ne, List.length_eq_zero_iff]; exact he
     have e1 : pV 169 es.length = .ref 169 0 es.length es.length (es.length * 2) 2 false := if_neg h0
     have e2 : pH 169 .row es = [(169, ⟨.row, cls bc es⟩)] := if_neg h0
     rw [e1, e2] at hl1 t1
     have hcb := Z9 Z00 es
     have tcb : List.take (es.length * 2) (cls bc es) = cls bc es := List.take_of_length_le (by omega)
     have l2' := l2 ([(55, .int .i64 0), (54, .int .i64 (n - 1 : Nat)), (53, .ref 43 1 (n - 1) (n - 1) n 1 false), (16, .int .i64 5), (13, .ptr 13 0 1), (12, .int .i64 n), (11, .ptr 11 0 2), (4, .int .u8 c), (3, .int .u8 st)], [(6, ⟨.box, u8s zs⟩), (11, ⟨.box, [.ref 25 0 n n (n * 5) 5 false, .ref 169 0 es.length es.length (es.length * 2) 2 false]⟩), (13, ⟨.box, [.ref 43 1 (n - 1) (n - 1) n 1 false]⟩), (25, ⟨.row, cls lc ls⟩), (43, ⟨.row, ics L⟩), (169, ⟨.row, cls bc es⟩)]) (by simp only [s2S]; rw [e1, e2]; exact Z1U (Zm _ (Z2c zs)) rfl rfl)
     rw [e1, e2] at l2'
     have hva' := fun site seen ex e ex' => hva site seen ex (.imm (cls bc es) es.length ex') e (.inr ⟨ex', rfl⟩)
     simp (disch := omega) only [ZF, Z7, stp, opBox, just, Rd.bind, Rd.run, Rd.opt, upds, acells, zeroCells, tsz, rdCells, fieldOf, Z3, aLoad, aStore, opStore, resA, resL, fresh, aNum, aLen, Z4, aBin, aInt, putC, Nat.reduceAdd, Nat.reduceMul, Nat.reduceLT, Nat.reduceBEq, Nat.reduceEqDiff, Nat.reduceLeDiff, ↓reduceIte, reduceCtorEq, aCall, snaps, aSlice, aBounds, bMax, bHigh, bLow, Int.reduceLE, Int.reduceToNat, ZT, ZbA, Z63, Z5X, Z52, Z5P, ZdD, Z4W, Z5I, Z5p, Z5m, Z5N, Zb3, Z5F, Z57, Z5e, Z66, Z5j, ZcT, Z51, Z5J, Z6M, Z5W, Z5n, Z5z, Z62, Z5q, Z7v, Z6F, ZdO, Z6X, Z4Y, Z61, Z5b, Z77, Z4u, Z42, Z4j, Z3T, Z6I, Z6E, Z7C, Z6N, Z3N, Z4v, Z7A, Z3W, Z4s, Z4c, Z3Y, Z3U, Z7p, Z4m, Z4b, Z7e, Z7l, Z7d, Z7D, Z4t, Z4g, Z46, Z44, Z70, Z7a, Z7y, Z71, Z3P, Z4e, Z4h, Z3X, Z4f, Z48, Z6D, Z3Z, Z3R, Z7w, Z7u, Z6Y, Z7z, Z6K, Z6J, Z7s, Z79, Z6L, Z6H, ZeX, ZcW, ZaP, Zcm, Zbg, b_13, hm1, hl1, l2', t1, t2, hclL, tcl, hcb, tcb, hdl, tdl, hsn, hzl, hmany, hil, hd1, gne2, g1n, hva', if_pos]
     done
 · have hgo : ∀ i, i < n → ∃ s', (execA E C (fg 13) 0 144 [] 1000 Z2n) (s2S ls es (shL zs n) n 0 n st c (wN es (shL zs n) n 0 i) i) = some (.normal, s') ∧ headA [] s' = s2S ls es (shL zs n) n 0 n st c (wN es (shL zs n) n 0 (i + 1)) (i + 1) := by
     intro i hi
     rw [wN]
     by_cases hz2 : wN es (shL zs n) n 0 i = 0
     · rw [if_neg (by simp [hz2]), hz2]
       exact Z0kj hSh hLl h5 i hi
     · rw [if_pos hz2]
       exact ZFj hLl h5 (by omega) hz2 i hi
   obtain ⟨⟨φt, Ht⟩, t1, t2⟩ := htail 0 n
   simp only [m7S] at t1 t2
   have hva := fun site seen ex b e hb => hval site seen ex b e _ n hb hLl (by omega)
   rw [← hv1] at hva
   have l2 := fun s0 h0 => loopS (f := (execA E C (fg 13) 0 144 [] 1000 Z2n)) (fun i => s2S ls es (shL zs n) n 0 n st c (wN es (shL zs n) n 0 i) i) n s0 hgo h0 (by omega)
     (e := .exit 2) (se := ([(56, .bool false), (55, .int .i64 n), (54, .int .i64 n), (53, .ref 43 0 n n n 1 false), (16, .int .i64 (wN es (shL zs n) n 0 n)), (13, .ptr 13 0 1), (12, .int .i64 n), (11, .ptr 11 0 2), (4, .int .u8 c), (3, .int .u8 st)],
       (11, ⟨.box, [.ref 25 0 n n (n * 5) 5 false, pV 169 es.length]⟩) :: (13, ⟨.box, [.ref 43 0 n n n 1 false]⟩) :: (25, ⟨.row, cls lc ls⟩) :: (43, ⟨.row, ics (shL zs n)⟩) :: pH 169 .row es)) (by
       simp only [s2S]
       generalize wN es (shL zs n) n 0 n = w
       rcases pVH 169 .row es with ⟨_, e1, e2⟩ | ⟨e1, e2⟩ <;> rw [e1, e2]
       · simp (disch := omega) only [ZF, stp, just, Rd.bind, Rd.run, Rd.opt, upds, aBin, aInt, Nat.reduceEqDiff, Nat.reduceLeDiff, ↓reduceIte, F_13]
       · simp (disch := omega) only [ZF, stp, just, Rd.bind, Rd.run, Rd.opt, upds, aBin, aInt, Nat.reduceEqDiff, Nat.reduceLeDiff, ↓reduceIte, F_13]) (by simp)
   have w0 : wN es (shL zs n) n 0 0 = 0 := rfl
   simp only [w0] at l2
   generalize wN es (shL zs n) n 0 n = w at *
   generalize hLL : shL zs n = L at *
   by_cases he : es = []
   · subst he
     have hm0 := fun site seen => hmade0 site seen rfl
     obtain ⟨e1, e2⟩ : pV 169 ([] : List Pr).length = .nilsl ∧ pH 169 .row [] = [] := ⟨rfl, rfl⟩
     rw [e1, e2] at hl1 t1
     have l2' := l2 ([(55, .int .i64 0), (54, .int .i64 n), (53, .ref 43 0 n n n 1 false), (16, .int .i64 0), (13, .ptr 13 0 1), (12, .int .i64 n), (11, .ptr 11 0 2), (4, .int .u8 c), (3, .int .u8 st)], [(6, ⟨.box, u8s zs⟩), (11, ⟨.box, [.ref 25 0 n n (n * 5) 5 false, .nilsl]⟩), (13, ⟨.box, [.ref 43 0 n n n 1 false]⟩), (25, ⟨.row, cls lc ls⟩), (43, ⟨.row, ics L⟩)]) (Z1U (Zm _ (Z2c zs)) rfl rfl)
     rw [e1, e2] at l2'
     have hva' := fun site seen ex e => hva site seen ex .nilsl e (.inl ⟨rfl, rfl⟩)
     simp (disch := omega) only [ZF, Z7, stp, opBox, just, Rd.bind, Rd.run, Rd.opt, upds, acells, zeroCells, tsz, rdCells, fieldOf, Z3, aLoad, aStore, opStore, resA, resL, fresh, aNum, aLen, Z4, aBin, aInt, putC, Nat.reduceAdd, Nat.reduceLT, Nat.reduceBEq, Nat.reduceEqDiff, Nat.reduceLeDiff, ↓reduceIte, reduceCtorEq, aCall, snaps, aSlice, aBounds, bMax, bHigh, bLow, Int.reduceLE, Int.reduceToNat, ZT, ZbA, Z63, Z5X, Z52, Z5P, ZdD, Z4W, Z5I, Z5p, Z5m, Z5N, Zb3, Z5F, Z57, Z5e, Z66, Z5j, ZcT, Z51, Z5J, Z6M, Z5W, Z5n, Z5z, Z62, Z5q, Z7v, Z6F, ZdO, Z6X, Z4Y, Z61, Z5b, Z77, Z4u, Z42, Z4j, Z3T, Z6I, Z6E, Z7C, Z6N, Z3N, Z4v, Z7A, Z3W, Z4s, Z4c, Z3Y, Z3U, Z7p, Z4m, Z4b, Z7e, Z7l, Z7d, Z7D, Z4t, Z4g, Z46, Z44, Z70, Z7a, Z7y, Z71, Z3P, Z4e, Z4h, Z3X, Z4f, Z48, Z6D, Z3Z, Z3R, Z7w, Z7u, Z6Y, Z7z, Z6K, Z6J, Z7s, Z79, Z6L, Z6H, ZeX, ZcW, ZaP, Zcm, Zbg, b_13, hm0, hl1, l2', t1, t2, hclL, tcl, hdl, tdl, hsn, hzl, hmany, hil, tk, hva', if_pos]
     done
   · have hm1 := fun site seen hs => hmade1 site seen he hs
     have h0 : es.length ≠ 0 := by rw [Ne, List.length_eq_zero_iff]; exact he
     have e1 : pV 169 es.length = .ref 169 0 es.length es.length (es.length * 2) 2 false := if_neg h0
     have e2 : pH 169 .row es = [(169, ⟨.row, cls bc es⟩)] := if_neg h0
     rw [e1, e2] at hl1 t1
     have hcb := Z9 Z00 es
     have tcb : List.take (es.length * 2) (cls bc es) = cls bc es := List.take_of_length_le (by omega)
     have l2' := l2 ([(55, .int .i64 0), (54, .int .i64 n), (53, .ref 43 0 n n n 1 false), (16, .int .i64 0), (13, .ptr 13 0 1), (12, .int .i64 n), (11, .ptr 11 0 2), (4, .int .u8 c), (3, .int .u8 st)], [(6, ⟨.box, u8s zs⟩), (11, ⟨.box, [.ref 25 0 n n (n * 5) 5 false, .ref 169 0 es.length es.length (es.length * 2) 2 false]⟩), (13, ⟨.box, [.ref 43 0 n n n 1 false]⟩), (25, ⟨.row, cls lc ls⟩), (43, ⟨.row, ics L⟩), (169, ⟨.row, cls bc es⟩)]) (by simp only [s2S]; rw [e1, e2]; exact Z1U (Zm _ (Z2c zs)) rfl rfl)
     rw [e1, e2] at l2'
     have hva' := fun site seen ex e ex' => hva site seen ex (.imm (cls bc es) es.length ex') e (.inr ⟨ex', rfl⟩)
     simp (disch := omega) only [ZF, Z7, stp, opBox, just, Rd.bind, Rd.run, Rd.opt, upds, acells, zeroCells, tsz, rdCells, fieldOf, Z3, aLoad, aStore, opStore, resA, resL, fresh, aNum, aLen, Z4, aBin, aInt, putC, Nat.reduceAdd, Nat.reduceMul, Nat.reduceLT, Nat.reduceBEq, Nat.reduceEqDiff, Nat.reduceLeDiff, ↓reduceIte, reduceCtorEq, aCall, snaps, aSlice, aBounds, bMax, bHigh, bLow, Int.reduceLE, Int.reduceToNat, ZT, ZbA, Z63, Z5X, Z52, Z5P, ZdD, Z4W, Z5I, Z5p, Z5m, Z5N, Zb3, Z5F, Z57, Z5e, Z66, Z5j, ZcT, Z51, Z5J, Z6M, Z5W, Z5n, Z5z, Z62, Z5q, Z7v, Z6F, ZdO, Z6X, Z4Y, Z61, Z5b, Z77, Z4u, Z42, Z4j, Z3T, Z6I, Z6E, Z7C, Z6N, Z3N, Z4v, Z7A, Z3W, Z4s, Z4c, Z3Y, Z3U, Z7p, Z4m, Z4b, Z7e, Z7l, Z7d, Z7D, Z4t, Z4g, Z46, Z44, Z70, Z7a, Z7y, Z71, Z3P, Z4e, Z4h, Z3X, Z4f, Z48, Z6D, Z3Z, Z3R, Z7w, Z7u, Z6Y, Z7z, Z6K, Z6J, Z7s, Z79, Z6L, Z6H, ZeX, ZcW, ZaP, Zcm, Zbg, b_13, hm1, hl1, l2', t1, t2, hclL, tcl, hcb, tcb, hdl, tdl, hsn, hzl, hmany, hil, tk, hva', if_pos]
     done
end Go.AM.YtgfnbmfjbjopkaaDoor
end
noncomputable section
namespace Go.AM.YtgfnbmfjbjopkaaDoor
open Go Go.AM
theorem ZJF : isTrue (callA E fg 1000 40 17 [] [] 0) = true := by kernel_rfl
end Go.AM.YtgfnbmfjbjopkaaDoor
end
end
