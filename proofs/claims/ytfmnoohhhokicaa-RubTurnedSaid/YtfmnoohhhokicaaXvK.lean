/- A part of the proof of rubTurned_holds: RqK. Own work of this project; texts printed by own programs among it. -/
import Derived.KernelRfl
import Derived.Test.YtfmnoohhhokicaaXvJ
set_option maxRecDepth 1000000
set_option maxHeartbeats 16000000
noncomputable section
noncomputable section
namespace Go.AM.Ytfmnoohhhokicaa
open Go Go.AM Go.AM.Rub
theorem ZSe {C : Callee} {a b : Int} (h : -1000000 ≤ b - a ∧ b - a ≤ 1000000) : rsOf (bodyA E C fg 1000000 109 [.int .i64 a, .int .i64 b] [] 0) = some (.int .i64 (b - a)) := by
 have w1 : wrp .i64 (b - a) = b - a := Z0d (by omega)
 simp (disch := omega) only [ZF, Z5, stp, just, Rd.bind, Rd.run, Rd.opt, upds, resA, resL, aBin, aInt, Nat.reduceBEq, Nat.reduceEqDiff, Nat.reduceLeDiff, ↓reduceIte, reduceCtorEq, Z0aJ, w1]
theorem ZMm {d : Nat} {site : Nat → Nat} {seen : List Nat} {a b : Int} (h : -1000000 ≤ b - a ∧ b - a ≤ 1000000) : aBack site true seen (thaw (kF (d + 1)) 109 [.int .i64 a, .int .i64 b] [] 0) = .pure (.int .i64 (b - a), []) :=
 Z1P (Z1Z rfl (ZSe h))
theorem Zkg (caps args : List AV) : mutV E (.clo 109 caps) args = none := rfl
abbrev stH (l : List Int) : AHeap := [(0, ⟨.row, ics l⟩)]
theorem Z3b {l l0 : List Int} {φ : AFr} : headA (stH l0) (φ, stH l) = (φ, stH l) := Z9I (by simp [stH, Z23])
def BdI (l : List Int) : Prop := ∀ k, k < l.length → -100000 ≤ rowF l k ∧ rowF l k ≤ 100000
theorem Zm8 {l : List Int} {a k : Nat} {x : Int} (hk : k < l.length) : rowF (l.set a x) k = if a = k then x else rowF l k := by
 simp only [rowF, List.getD_eq_getElem?_getD, List.getElem?_set]
 split
 · rename_i h; subst h; rw [if_pos hk]; rfl
 · rfl
theorem ZAB {l : List Int} (h : BdI l) {j : Nat} (hj : j + 1 < l.length) : BdI (swpI l j) := by
 intro k hk
 rw [Z2l] at hk
 have a := h j (by omega)
 have b := h (j + 1) hj
 have c := h k hk
 have e : rowF (swpI l j) k = if j = k then rowF l (j + 1) else if j + 1 = k then rowF l j else rowF l k := by
   unfold swpI
   rw [Zm8 (by rw [List.length_set]; exact hk), Zm8 hk]; rfl
 rw [e]
 split
 · exact b
 · split
   · exact a
   · exact c
abbrev inS (n i j : Nat) (l : List Int) : St := ([(9, .int .i64 j), (8, .int .i64 i), (3, .clo 109 []), (2, .int .i64 n), (1, .int .i64 0), (0, .ref 0 0 n n n 1 false)], stH l)
theorem Zp6 {d B : Nat} {l0 : List Int} {i n : Nat} (h9 : n ≤ 12) : ∀ (j F : Nat) (l : List Int), l.length = n → j < n → BdI l → j < F →
   ∃ j', iterA (execA E (kF (d + 1)) (fg 133) B 53 (stH l0) 1000000 Z4m) (headA (stH l0)) F (inS n i j l) = some (.exit 2, ([(34, .bool false), (9, .int .i64 j'), (8, .int .i64 i), (3, .clo 109 []), (2, .int .i64 n), (1, .int .i64 0), (0, .ref 0 0 n n n 1 false)], stH (insI l j)))
 | j, 0, _, _, _, _, hF => by omega
 | 0, F + 1, l, hl, _, _, _ => by
   refine ⟨(0 : Nat), ?_⟩
   rw [Z01, Z3b]
   generalize kF (d + 1) = C
   simp (disch := omega) only [ZF, opPick, just, Rd.bind, Rd.run, Rd.opt, upds, aBin, aInt, Nat.reduceAdd, Nat.reduceBEq, Nat.reduceEqDiff, Nat.reduceLeDiff, ↓reduceIte, stpT, ↓gdT, Rd.foot, writing, Zj, Tr.empty, Zl, Z61, insI, cl0]
 | j + 1, F + 1, l, hl, hj, hb, hF => by
   have hlen : (ics l).length = n := by rw [Z4, hl]
   have a1 := Zz (l := l) (k := j) (by omega)
   have a2 := Zz (l := l) (k := j + 1) (by omega)
   have b1 := hb j (by omega)
   have b2 := hb (j + 1) (by omega)
   have g1 : ((j + 1 : Nat) : Int) > 0 := by omega
   have g2 : ((j + 1 : Nat) : Int) < n := by omega
   have g3 : (j : Int) < n := by omega
   have w : wrp .i64 (((j + 1 : Nat) : Int) - 1) = (j : Int) := by rw [Z0d (by omega)]; omega
   have cc := fun (site : Nat → Nat) seen => ZMm (d := d) (site := site) (seen := seen) (a := rowF l (j + 1)) (b := rowF l j) (by omega)
   simp only [insI]
   by_cases hc : l.getD (j + 1) 0 > l.getD j 0
   · rw [if_pos hc]
     obtain ⟨j', hih⟩ := Zp6 (d := d) (B := B) (l0 := l0) (i := i) h9 j F (swpI l j) (by rw [Z2l]; exact hl) (by omega) (ZAB hb (by omega)) (by omega)
     refine ⟨j', ?_⟩
     rw [← hih, Z01, Z3b]
     simp only [inS, stH]
     have hneg : rowF l j - rowF l (j + 1) < 0 := by unfold rowF; omega
     have e1 := Z35 l (j + 1) (rowF l j)
     have e2 := Z35 (l.set (j + 1) (rowF l j)) j (rowF l (j + 1))
     have e3 : (l.set (j + 1) (rowF l j)).set j (rowF l (j + 1)) = swpI l j := rfl
     rw [e3] at e2
     have l1 : (ics (l.set (j + 1) (rowF l j))).length = n := by rw [Z4, List.length_set, hl]
     generalize ics (swpI l j) = R at *
     generalize ics (l.set (j + 1) (rowF l j)) = M at *
     generalize kF (d + 1) = C at *
     simp (disch := omega) only [ZF, stp, opPick, just, Rd.bind, Rd.run, Rd.opt, upds, acells, tsz, rdCells, aLoad, aStore, opStore, Z2, aNum, aBin, aInt, putC, Nat.reduceAdd, Nat.reduceMul, Nat.reduceLT, Nat.reduceBEq, Nat.reduceEqDiff, Nat.reduceLeDiff, ↓reduceIte, reduceCtorEq, stpT, ↓gdT, Rd.foot, writing, Zj, Tr.empty, Zl, apartT, disj, aCall, snaps, opCallV, ZT, Z61, ZeB (Zkg _ _), Zjf, hlen, l1, a1, a2, g1, g2, g3, w, cc, hneg, e1, e2, if_pos]
   · rw [if_neg hc]
     refine ⟨((j + 1 : Nat)), ?_⟩
     have hneg : ¬ rowF l j - rowF l (j + 1) < 0 := by unfold rowF; omega
     rw [Z01, Z3b]
     generalize kF (d + 1) = C at *
     simp (disch := omega) only [ZF, opPick, just, Rd.bind, Rd.run, Rd.opt, upds, tsz, rdCells, aLoad, Z2, aNum, aBin, aInt, Nat.reduceAdd, Nat.reduceMul, Nat.reduceLT, Nat.reduceBEq, Nat.reduceEqDiff, Nat.reduceLeDiff, ↓reduceIte, reduceCtorEq, stpT, ↓gdT, Rd.foot, writing, Zj, Tr.empty, Zl, apartT, disj, aCall, snaps, opCallV, ZT, Z61, ZeB (Zkg _ _), Zjf, hlen, a1, a2, g1, g2, g3, w, cc, hneg]
theorem ZBC {l : List Int} (_ : BdI l) : ∀ (j : Nat) (l : List Int), j < l.length → BdI l → BdI (insI l j)
 | 0, l, _, h => h
 | j + 1, l, hj, h => by
   simp only [insI]
   split
   · exact ZBC h j (swpI l j) (by rw [Z2l]; omega) (ZAB h hj)
   · exact h
theorem ZBE {l : List Int} (h : BdI l) : ∀ i, i < l.length → BdI (srtN l i)
 | 0, _ => h
 | i + 1, hi => ZBC h (i + 1) _ (by rw [Z2e]; exact hi) (ZBE h i (by omega))
abbrev ouS (n i : Nat) (l : List Int) : St := ([(8, .int .i64 i), (3, .clo 109 []), (2, .int .i64 n), (1, .int .i64 0), (0, .ref 0 0 n n n 1 false)], stH l)
theorem ZNZ {d B : Nat} {l : List Int} {n : Nat} (hl : l.length = n) (h0 : 0 < n) (h9 : n ≤ 12) (hb : BdI l) :
   kF (d + 2) 133 [.ref 0 0 n n n 1 false, .int .i64 0, .int .i64 n, .clo 109 []] (stH l) B = some (.tup [], stH (srtI l)) := by
 rw [Z0H rfl]
 have hloop := loopM (f := execA E (kF (d + 1)) (fg 133) B 53 (stH l) 1000000 Z5l) (E0 := stH l) (fun k => ouS n (k + 1) (srtN l k)) (n - 1) (fun k hk => by
     obtain ⟨j', hin⟩ := Zp6 (d := d) (B := B) (l0 := l) (i := k + 1) h9 (k + 1) 1000000 (srtN l k) (by rw [Z2e, hl]) (by omega) (ZBE hb k (by omega)) (by omega)
     have g1 : ((k + 1 : Nat) : Int) < n := by omega
     simp only [inS] at hin
     have e : srtN l (k + 1) = insI (srtN l k) (k + 1) := rfl
     simp only [ouS, e]
     generalize kF (d + 1) = C at *
     simp (disch := omega) only [ZF, stp, just, Rd.bind, Rd.run, Rd.opt, upds, aBin, aInt, Nat.reduceBEq, Nat.reduceEqDiff, Nat.reduceLeDiff, ↓reduceIte, Z61, g1, hin, Zn (show k + 1 < 1000000 by omega)]
     exact ⟨_, rfl, Z3b⟩) Z3b (by omega)
   (e := .exit 0) (se := ([(14, .bool false), (8, .int .i64 n), (3, .clo 109 []), (2, .int .i64 n), (1, .int .i64 0), (0, .ref 0 0 n n n 1 false)], stH (srtI l)))
   (by
     have e : srtN l (n - 1) = srtI l := by rw [← hl]; rfl
     simp only [ouS, e, show n - 1 + 1 = n by omega]
     generalize kF (d + 1) = C at *
     simp (disch := omega) only [ZF, stp, just, Rd.bind, Rd.run, Rd.opt, upds, aBin, aInt, Nat.reduceBEq, Nat.reduceEqDiff, Nat.reduceLeDiff, ↓reduceIte, Z61]) (by simp)
 have z1 : ((0 + 1 : Nat) : Int) = 1 := rfl
 have e0 : srtN l 0 = l := rfl
 simp only [ouS, z1, e0] at hloop
 have w : wrp .i64 (0 + 1) = 1 := by decide
 generalize kF (d + 1) = C at *
 simp (disch := omega) only [ZF, Z5, stp, just, Rd.bind, Rd.run, Rd.opt, upds, resA, resL, aBin, aInt, Nat.reduceAdd, Nat.reduceBEq, Nat.reduceEqDiff, Nat.reduceLeDiff, ↓reduceIte, Z61, w, hloop]
theorem ZRm {d B : Nat} {l : List Int} {n : Nat} {m : Int} (hl : l.length = n) (h0 : 0 < n) (h9 : n ≤ 12) (hb : BdI l) :
   kF (d + 3) 121 [.ref 0 0 n n n 1 false, .int .i64 0, .int .i64 n, .int .i64 m, .clo 109 []] (stH l) B = some (.tup [], stH (srtI l)) := by
 rw [Z0H rfl]
 have hi := fun B => ZNZ (d := d) (B := B) hl h0 h9 hb
 have w1 : wrp .i64 ((n : Int) - 0) = n := Z0d (by omega)
 have g : (n : Int) ≤ 12 := by omega
 simp only [stH] at hi
 generalize kF (d + 2) = C at *
 have hh := Z3b (l := l) (l0 := l) (φ := [(11, .bool true), (10, .bool true), (4, .clo 109 []), (3, .int .i64 m), (2, .int .i64 n), (1, .int .i64 0), (0, .ref 0 0 n n n 1 false)])
 simp only [stH] at hh
 simp (disch := omega) only [ZF, Z5, stp, just, Rd.bind, Rd.run, Rd.opt, upds, resA, resL, aBin, aInt, Nat.reduceAdd, Nat.reduceMul, Nat.reduceBEq, Nat.reduceEqDiff, Nat.reduceLeDiff, ↓reduceIte, reduceCtorEq, mutX, Z09s, Z01, hh, hi, w1, g]
theorem Zo9 (d : Nat) : ([1, 2, 3, 4, 5, 6].all fun n => match kF (d + 4) 111 [.int .u64 n] [] 0 with | some (.int .i64 _, _) => true | _ => false) = true := by kernel_rfl
theorem ZMT (d : Nat) {n : Nat} (h0 : 0 < n) (h6 : n ≤ 6) : ∃ m, ∀ (site : Nat → Nat) seen, aBack site true seen (thaw (kF (d + 4)) 111 [.int .u64 (n : Int)] [] 0) = .pure (.int .i64 m, []) := by
 have := List.all_eq_true.1 (Zo9 d) (n : Int) (by
   have : n = 1 ∨ n = 2 ∨ n = 3 ∨ n = 4 ∨ n = 5 ∨ n = 6 := by omega
   rcases this with rfl | rfl | rfl | rfl | rfl | rfl <;> simp)
 split at this
 · rename_i m H h
   exact ⟨m, fun site seen => Z1P ⟨H, h⟩⟩
 · exact absurd this (by simp)
theorem ZGG {d B : Nat} {l : List Int} {n : Nat} (hl : l.length = n) (h0 : 0 < n) (h6 : n ≤ 6) (hb : BdI l) :
   kF (d + 5) 108 [.ref 0 0 n n n 1 false, .clo 109 []] (stH l) B = some (.tup [], stH (srtI l)) := by
 rw [Z0H rfl]
 obtain ⟨m, hL⟩ := ZMT d h0 h6
 have hi := fun B => ZRm (d := d + 1) (B := B) (m := m) hl h0 (by omega) hb
 have w1 : wrp .u64 (n : Int) = n := ZBh (by simp only [kLo]; omega) (by simp only [kHi]; omega)
 have hlen : (ics l).length = n := by rw [Z4, hl]
 simp only [stH] at hi
 generalize kF (d + 4) = C at *
 simp (disch := omega) only [ZF, Z5, stp, justO, just, Rd.bind, Rd.run, upds, resA, resL, aLen, Z3, Nat.reduceMul, Nat.reduceBEq, Nat.reduceEqDiff, Nat.reduceLeDiff, ↓reduceIte, reduceCtorEq, mutX, aCall, snaps, aConv, ZT, Z0aX, w1, hL, hi, hlen]
theorem Zzl {d : Nat} {l : List Int} {n : Nat} (hl : l.length = n) (h0 : 0 < n) (h6 : n ≤ 6) (hb : BdI l) :
   pF (d + 6) 67 [.ref 0 0 n n n 1 false] (stH l) 64 = some (.tup [], stH (srtI l)) := by
 rw [pF_s]
 have hi := fun B => ZGG (d := d) (B := B) hl h0 h6 hb
 simp only [stH] at hi
 generalize kF (d + 5) = C at *
 simp (disch := omega) only [ZF, Z5, resA, resL, Nat.reduceAdd, Nat.reduceMul, Nat.reduceBEq, Nat.reduceEqDiff, Nat.reduceLeDiff, ↓reduceIte, reduceCtorEq, mutX, F_67, hi]
theorem Z7H {d B k : Nat} {l : List Int} {n : Nat} {H : AHeap} (hl : l.length = n) (h0 : 0 < n) (h6 : n ≤ 6) (hb : BdI l) (hH : hget H k = some ⟨.row, ics l⟩) :
   kF (d + 6) 67 [.ref k 0 n n n 1 false] H B = some (.tup [], hset H k ⟨.row, ics (srtI l)⟩) := by
 rw [Z07K rfl]
 have hr := Zzl (d := d) hl h0 h6 hb
 have hm : (mark H 1000 (refsL [.ref k 0 n n n 1 false]) []).reverse = [k] := by
   simp only [refsL, refsOf, List.append_nil, mark, hH, List.contains_nil, Bool.false_eq_true, if_false, List.reverse_cons, List.reverse_nil, List.nil_append]
 have hlen : (ics l).length = n := by rw [Z4, hl]
 have hlen2 : (ics (srtI l)).length = n := by rw [Z4]; show (srtN l _).length = n; rw [Z2e, hl]
 rw [hm]
 simp only [stH] at hr
 have h2 : newsF [(0, ⟨.row, ics (srtI l)⟩)] (.tup []) 1 = [] := rfl
 simp only [focus, AM.apart, List.elem_nil, Bool.not_false, Bool.and_self, if_true, renL, ren, posF, foc, hH, renB, hr, backF, List.length_cons, List.length_nil, Nat.zero_add, h2, baseF, freeL, outF, Nat.lt_one_iff, List.getElem?_cons_zero, List.range_one, List.append_nil, unf, Z4j, goodB, BS.open_]
 rfl
end Go.AM.Ytfmnoohhhokicaa
end
noncomputable section
namespace Go.AM
theorem ZAm : ∀ {H : AHeap} {k : Nat} {b : Blk}, (k, b) ∈ H → (hget H k).isSome = true
 | (j, c) :: t, k, b, h => by
   rw [Z4j]
   cases hj : Nat.beq j k with
   | true => rfl
   | false =>
     rcases List.mem_cons.1 h with e | h
     · injection e with e1 e2; subst e1; rw [Nat.beq_refl] at hj; exact absurd hj (by simp)
     · exact ZAm h
theorem loopE {E0 : AHeap} {f : St → XR} (st : Nat → St) (n : Nat) (h : ∀ i, i < n → ∃ s', f (st i) = some (.normal, s') ∧ headA E0 s' = st (i + 1)) (h0 : headA E0 (st 0) = st 0) (hn : n < 1000) {e : Ex} {se : St} (he : f (st n) = some (e, se)) (hne : e ≠ .normal) :
   iterA f (headA E0) 1000 (st 0) = some (e, se) :=
 Z3o st n 1000 0 (st 0) h0 hn (fun i _ hi => h i (by omega)) (by rw [Nat.zero_add]; exact he) hne
end Go.AM
end
noncomputable section
namespace Go.AM
noncomputable section
variable {k : Nat} {c : List AV} {T : AHeap}
theorem Z3G (hc : refsL c = []) : ∀ (n : Nat) (todo seen : List Nat), mark ((k, ⟨.box, c⟩) :: T) n todo seen = mark ((k, ⟨.box, []⟩) :: T) n todo seen
 | 0, _, _ => rfl
 | n + 1, [], _ => rfl
 | n + 1, i :: todo, seen => by
   simp only [mark, Z23]
   by_cases hs : seen.contains i = true
   · rw [if_pos hs, if_pos hs]; exact Z3G hc n todo seen
   · rw [if_neg hs, if_neg hs]
     by_cases e : k = i
     · rw [if_pos e, if_pos e]
       simp only [hc]
       exact Z3G hc n _ _
     · rw [if_neg e, if_neg e]
       cases hget T i with
       | none => exact Z3G hc n _ _
       | some b =>
         obtain ⟨st, cs⟩ := b
         cases st <;> exact Z3G hc n _ _
theorem Z8e (S : AHeap) : ∀ l : List Nat, allHeld ((k, ⟨.box, c⟩) :: S) l = allHeld ((k, ⟨.box, []⟩) :: S) l
 | [] => rfl
 | i :: l => by
   simp only [allHeld, Z23, Z8e S l]
   by_cases e : k = i
   · rw [if_pos e, if_pos e]; rfl
   · rw [if_neg e, if_neg e]
theorem Z9r (S : AHeap) : ∀ K : AHeap, closedH ((k, ⟨.box, c⟩) :: S) K = closedH ((k, ⟨.box, []⟩) :: S) K
 | [] => rfl
 | (i, ⟨st, cs⟩) :: K => by
   cases st <;> simp only [closedH, Z8e, Z9r S K]
theorem Z5m (hc : refsL c = []) {φ : AFr} {T' : AHeap} (hT : hget T k = none) (h : headA [] (φ, (k, ⟨.box, []⟩) :: T) = (φ, (k, ⟨.box, []⟩) :: T')) : headA [] (φ, (k, ⟨.box, c⟩) :: T) = (φ, (k, ⟨.box, c⟩) :: T') := by
 simp only [headA, Z3G hc] at h ⊢
 generalize mark ((k, ⟨.box, []⟩) :: T) 1000 (refsF φ) [] = keep at *
 simp only [keepB] at h ⊢
 have hno : ∀ b, (k, b) ∉ T := by
   intro b hb
   have := ZAm hb
   rw [hT] at this
   simp at this
 have hsub : ∀ (S : AHeap) (p : Nat × Blk), p ∈ keepB [] keep S → p ∈ S := by
   intro S
   induction S with
   | nil => intro p hp; exact hp
   | cons q S ih =>
     intro p hp
     obtain ⟨i, b⟩ := q
     simp only [keepB] at hp
     cases hcnd : (keep.elem i || (hget [] i).isSome) with
     | true =>
       rw [hcnd, cond_true] at hp
       rcases List.mem_cons.1 hp with e | hp
       · simp [e]
       · exact List.mem_cons_of_mem _ (ih p hp)
     | false =>
       rw [hcnd, cond_false] at hp
       exact List.mem_cons_of_mem _ (ih p hp)
 have hclosed : ∀ S, closedB φ ((k, ⟨.box, c⟩) :: S) = closedB φ ((k, ⟨.box, []⟩) :: S) := by
   intro S
   simp only [closedB, Z8e, closedH, hc, Z9r, refsL, allHeld]
 cases hcnd : (keep.elem k || (hget [] k).isSome) with
 | true =>
   rw [hcnd] at h
   simp only [cond_true, gcIf, hclosed] at h ⊢
   cases hcl : closedB φ ((k, ⟨.box, []⟩) :: keepB [] keep T) with
   | true =>
     rw [hcl] at h
     simp only [Prod.mk.injEq, List.cons.injEq, true_and] at h ⊢
     exact h
   | false =>
     rw [hcl] at h
     simp only [Prod.mk.injEq, List.cons.injEq, true_and] at h ⊢
     exact h
 | false =>
   rw [hcnd] at h
   simp only [cond_false, gcIf] at h ⊢
   cases hcl : closedB φ (keepB [] keep T) with
   | true =>
     rw [hcl] at h
     simp only [Prod.mk.injEq, true_and] at h
     exfalso
     exact hno ⟨.box, []⟩ (hsub T _ (by rw [h]; simp))
   | false =>
     rw [hcl] at h
     simp only [Prod.mk.injEq, List.cons.injEq, true_and] at h ⊢
     exact h
end
end Go.AM
end
noncomputable section
namespace Go.AM.Ytfmnoohhhokicaa
open Go Go.AM Go.AM.Rub
def u8s (l : List Int) : List AV := l.map (AV.int .u8)
theorem Zcy (l : List Int) : (u8s l).length = l.length := by simp [u8s]
theorem ZoL {l : List Int} {k : Nat} (h : k < l.length) : (u8s l)[k]? = some (.int .u8 (rowF l k)) := by simp [u8s, Z3i h]
theorem Z7T : ∀ l : List Int, refsL (u8s l) = []
 | [] => rfl
 | a :: l => by
   have := Z7T l
   unfold u8s at this ⊢
   simp only [List.map_cons, refsL, refsOf, this, List.append_nil]
structure Pl (zs : List Int) : Prop where
 len : zs.length = 8
 b : ∀ k, k < 8 → 0 ≤ rowF zs k ∧ rowF zs k ≤ 255
theorem Z093 {zs : List Int} (h : zs.length = 8 ∧ ∀ (i : Nat) (z : Int), zs[i]? = some z → 0 ≤ z ∧ z ≤ 255) : Pl zs := ⟨h.1, fun k hk => h.2 k _ (Z3i (by rw [h.1]; exact hk))⟩
def mdN (zs : List Int) (m : Int) : Nat := (1 + (rowF zs 0).tmod m).toNat
def mdP (zs : List Int) (t : Int) (i : Nat) : List Int := (List.range i).map fun k => (rowF zs (2 + k)).tmod (1 + (rowF zs 1).tmod t + 1)
theorem Z4x (zs : List Int) (t : Int) (i : Nat) : (mdP zs t i).length = i := by simp [mdP]
theorem ZIe (zs : List Int) (t : Int) (i : Nat) : mdP zs t (i + 1) = mdP zs t i ++ [(rowF zs (2 + i)).tmod (1 + (rowF zs 1).tmod t + 1)] := by simp [mdP, List.range_succ]
theorem Z4B {a b : Int} (ha : 0 ≤ a) (hb : 0 < b) : 0 ≤ a.tmod b ∧ a.tmod b < b := ⟨Int.tmod_nonneg _ ha, Int.tmod_lt_of_pos _ hb⟩
theorem ZzU {zs : List Int} (h : Pl zs) {m : Int} (h0 : 0 < m) (_ : m ≤ 6) : 0 < mdN zs m ∧ (mdN zs m : Int) ≤ m ∧ (mdN zs m : Int) = 1 + (rowF zs 0).tmod m := by
 have := Z4B (h.b 0 (by omega)).1 h0
 unfold mdN
 omega
theorem ZNE {zs : List Int} (h : Pl zs) {t : Int} (h0 : 0 < t) {i : Nat} (hi : i ≤ 6) {k : Nat} (hk : k < i) : 0 ≤ rowF (mdP zs t i) k ∧ rowF (mdP zs t i) k ≤ t := by
 have h1 := Z4B (h.b 1 (by omega)).1 h0
 have h2 := Z4B (a := rowF zs (2 + k)) (b := 1 + (rowF zs 1).tmod t + 1) (h.b (2 + k) (by omega)).1 (by omega)
 have e : rowF (mdP zs t i) k = (rowF zs (2 + k)).tmod (1 + (rowF zs 1).tmod t + 1) := by
   simp only [rowF, mdP, List.getD_eq_getElem?_getD, List.getElem?_map]
   rw [List.getElem?_range hk]; rfl
 rw [e]; omega
def mdR (zs : List Int) (m t : Int) : List Int := srtI (mdP zs t (mdN zs m))
theorem ZxD {zs : List Int} (h : Pl zs) {m t : Int} (hm : 0 < m) (h6 : m ≤ 6) (ht : 0 < t) (h8 : t ≤ 8) : Rw (mdN zs m) (mdR zs m t) ∧ ∀ x ∈ mdR zs m t, x ≤ t := by
 obtain ⟨n0, n1, _⟩ := ZzU h hm h6
 have hl := Z4x zs t (mdN zs m)
 obtain ⟨hp, hd⟩ := ZfB (l := mdP zs t (mdN zs m)) (by omega)
 have hx : ∀ x ∈ srtI (mdP zs t (mdN zs m)), 0 ≤ x ∧ x ≤ t := by
   intro x hx
   have hx := hp.mem_iff.1 hx
   obtain ⟨k, hk, rfl⟩ := List.getElem_of_mem hx
   have := ZNE h ht (i := mdN zs m) (by omega) (k := k) (by omega)
   rw [show rowF (mdP zs t (mdN zs m)) k = (mdP zs t (mdN zs m))[k] by simp [rowF, hk]] at this
   exact this
 exact ⟨⟨by show (srtI _).length = _; rw [hp.length_eq, hl], ZfF (fun x h => by have := hx x h; omega) hd⟩, fun x h => (hx x h).2⟩
abbrev mdS (zs : List Int) (n : Nat) (t : Int) (i : Nat) : St :=
 ([(19, .int .i64 i), (18, .int .i64 n), (17, .ref 3 2 n 6 8 1 true), (7, oV 35 1 i), (3, .ptr 3 0 8), (2, .int .i64 t)], (3, ⟨.box, u8s zs⟩) :: oH 35 (ics (mdP zs t i)))
theorem Z0a3 {C : Callee} {zs : List Int} {n : Nat} {t : Int} (h : Pl zs) (hn : n ≤ 6) (h0 : 0 < t) (h8 : t ≤ 8) (i : Nat) (hi : i < n) :
   ∃ s', (execA E C (fg 56) 0 40 [] 1000000 Z6c) (mdS zs n t i) = some (.normal, s') ∧ headA [] s' = mdS zs n t (i + 1) := by
 have hlz : (u8s zs).length = 8 := by rw [Zcy, h.len]
 have hat := ZoL (l := zs) (k := 2 + i) (by rw [h.len]; omega)
 have hat1 := ZoL (l := zs) (k := 1) (by rw [h.len]; omega)
 have b1 := h.b 1 (by omega)
 have b2 := h.b (2 + i) (by omega)
 have m1 := Z4B b1.1 h0
 have m2 := Z4B (a := rowF zs (2 + i)) (b := 1 + (rowF zs 1).tmod t + 1) b2.1 (by omega)
 have hsn := Z4Y (mdP zs t i) ((rowF zs (2 + i)).tmod (1 + (rowF zs 1).tmod t + 1))
 have hrl : (ics (mdP zs t i)).length = i := by rw [Z4, Z4x]
 have g1 : (i : Int) < n := by omega
 have t0 : ¬ t = 0 := by omega
 have hz := Z7T zs
 simp only [mdS]
 rw [Z20 (show 0 < i + 1 by omega), ZdG (l := mdP zs t (i + 1)) (by rw [Z4x]; omega), ZIe, ← hsn]
 have w1 : wrp .i64 (rowF zs (2 + i)) = rowF zs (2 + i) := Z0d (by omega)
 have w2 : wrp .i64 (rowF zs 1) = rowF zs 1 := Z0d (by omega)
 generalize rowF zs (2 + i) = x at *
 generalize rowF zs 1 = y at *
 generalize u8s zs = Z at *
 generalize hq : y.tmod t = q at *
 have w3 : wrp .i64 (1 + q) = 1 + q := Z0d (by omega)
 have w4 : wrp .i64 (1 + q + 1) = 1 + q + 1 := Z0d (by omega)
 have q0 : ¬ 1 + q + 1 = 0 := by omega
 rcases Nat.eq_zero_or_pos i with hp | hp
 · subst hp
   have e0 : ics (mdP zs t 0) = [] := rfl
   rw [e0, Z7h]
   have oh0 : oH 35 [] = [] := rfl
   rw [oh0]
   simp (disch := omega) only [ZF, stp, justO, just, Rd.bind, Rd.run, Rd.opt, upds, acells, zeroCells, tsz, elemT, rdCells, fieldOf, Z0m, aLoad, fresh, Z2, aNum, Z3, aBin, aInt, putC, evO, Nat.reduceAdd, Nat.reduceLT, Nat.reduceBEq, Nat.reduceEqDiff, Nat.reduceLeDiff, ↓reduceIte, reduceCtorEq, Z9, ZI, partsOf, fillA, repC, ZU, aAppend, srcOf, window, snaps, aConv, Int.reduceLE, Int.reduceToNat, ZT, F_56, hlz, hat, hat1, t0, q0, hq, w1, w2, w3, w4, cl0, if_pos, Z4E (show 1 ≤ 1000000 by omega)]
   exact ⟨_, rfl, Z5m hz rfl rfl⟩
 · rw [Z20 hp, ZdG (by rw [Z4x]; exact hp)]
   have htk : List.take i (ics (mdP zs t i)) = ics (mdP zs t i) := List.take_of_length_le (by omega)
   have hno : ¬ i + 1 ≤ i := by omega
   generalize ics (mdP zs t i) = L at *
   simp (disch := omega) only [ZF, stp, justO, just, Rd.bind, Rd.run, Rd.opt, upds, acells, zeroCells, tsz, elemT, rdCells, fieldOf, Z0m, aLoad, fresh, Z2, aNum, Z3, aBin, aInt, putC, evO, Nat.reduceAdd, Nat.reduceLT, Nat.reduceBEq, Nat.reduceEqDiff, Nat.reduceLeDiff, ↓reduceIte, reduceCtorEq, Z9, ZI, partsOf, fillA, repC, ZU, aAppend, srcOf, window, snaps, aConv, ZT, F_56, g1, hlz, hat, hat1, t0, q0, hq, w1, w2, w3, w4, hrl, htk, hno, Z4E (show i + 1 ≤ 1000000 by omega), Zn (show i < 1000000 by omega)]
   exact ⟨_, rfl, Z5m hz rfl rfl⟩
theorem ZKZ {d : Nat} {zs : List Int} {m t : Int} (h : Pl zs) (hm : 0 < m) (h6 : m ≤ 6) (h0 : 0 < t) (h8 : t ≤ 8) :
   ∃ H, bodyA E (kF (d + 6)) fg 1000000 56 [.agg (u8s zs), .int .i64 m, .int .i64 t] [] 0 = some (.ref 35 0 (mdN zs m) (mdN zs m) (mdN zs m) 1 false, H) ∧ hget H 35 = some ⟨.row, ics (mdR zs m t)⟩ := by
 obtain ⟨n0, n1, n2⟩ := ZzU h hm h6
 have hlz : (u8s zs).length = 8 := by rw [Zcy, h.len]
 have hat0 := ZoL (l := zs) (k := 0) (by rw [h.len]; omega)
 have b0 := h.b 0 (by omega)
 have hz := Z7T zs
 have hpl := Z4x zs t (mdN zs m)
 have hso := fun B => Z7H (d := d) (B := B) (k := 35) (l := mdP zs t (mdN zs m)) (n := mdN zs m) (H := [(3, ⟨.box, u8s zs⟩), (35, ⟨.row, ics (mdP zs t (mdN zs m))⟩)]) hpl n0 (by omega) (fun k hk => by
   have := ZNE h h0 (i := mdN zs m) (by omega) (k := k) (by omega)
   omega) rfl
 have hh : ∀ b : Blk, hset [(3, ⟨.box, u8s zs⟩), (35, ⟨.row, ics (mdP zs t (mdN zs m))⟩)] 35 b = [(3, ⟨.box, u8s zs⟩), (35, b)] := fun _ => rfl
 simp only [hh] at hso
 have er : srtI (mdP zs t (mdN zs m)) = mdR zs m t := rfl
 rw [er] at hso
 have hloop := loopM (f := execA E (kF (d + 6)) (fg 56) 0 40 [] 1000000 Z6c) (E0 := []) (mdS zs (mdN zs m) t) (mdN zs m) (fun i hi => Z0a3 h (by omega) h0 h8 i hi) (Z5m hz rfl rfl) (by omega)
   (e := .exit 0) (se := ([(20, .bool false), (19, .int .i64 (mdN zs m)), (18, .int .i64 (mdN zs m)), (17, .ref 3 2 (mdN zs m) 6 8 1 true), (7, .ref 35 0 (mdN zs m) (mdN zs m) (mdN zs m) 1 false), (3, .ptr 3 0 8), (2, .int .i64 t)], [(3, ⟨.box, u8s zs⟩), (35, ⟨.row, ics (mdP zs t (mdN zs m))⟩)]))
   (by
     simp only [mdS]
     rw [Z20 n0, ZdG (by rw [hpl]; exact n0)]
     simp (disch := omega) only [ZF, stp, just, Rd.bind, Rd.run, Rd.opt, upds, aBin, aInt, Nat.reduceEqDiff, Nat.reduceLeDiff, ↓reduceIte, F_56]) (by simp)
 have e0 : oH 35 (ics (mdP zs t 0)) = [] := rfl
 simp only [mdS, cl0, e0, Z7h] at hloop
 have w1 : wrp .i64 (rowF zs 0) = rowF zs 0 := Z0d (by omega)
 have w2 : wrp .i64 (1 + (rowF zs 0).tmod m) = (mdN zs m : Int) := by rw [← n2]; exact Z0d (by omega)
 have hm0 : ¬ m = 0 := by omega
 have sp := fun d => Z4T (u8s zs) (d + 10) (by simp [u8s]) (by rw [hlz]; omega)
 generalize kF (d + 6) = C at *
 generalize mdN zs m = n at *
 generalize mdR zs m t = R at *
 generalize ics (mdP zs t n) = L at *
 generalize rowF zs 0 = x at *
 generalize u8s zs = Z at *
 have g1 : (0 : Int) ≤ n ∧ (n : Int) ≤ 6 := by omega
 simp (disch := omega) only [ZF, Z5, stp, opBox, justO, just, Rd.bind, Rd.run, Rd.opt, upds, acells, tsz, rdCells, fieldOf, Z0m, aLoad, resA, resL, fresh, aNum, aLen, Z3, aBin, aInt, Nat.reduceAdd, Nat.reduceMul, Nat.reduceLT, Nat.reduceBEq, Nat.reduceEqDiff, Nat.reduceLeDiff, ↓reduceIte, reduceCtorEq, mutX, aConv, aSlice, aBounds, bMax, bHigh, bLow, ZT, F_56, hlz, hat0, w1, w2, hm0, g1, hloop, hso, if_pos]
 exact ⟨_, rfl, rfl⟩
theorem ZDJ {d : Nat} {site : Nat → Nat} {seen : List Nat} {zs : List Int} {m t : Int} (h : Pl zs) (hm : 0 < m) (h6 : m ≤ 6) (h0 : 0 < t) (h8 : t ≤ 8) : aBack site true seen (thaw (kF (d + 7)) 56 [.agg (u8s zs), .int .i64 m, .int .i64 t] [] 0) =
   Z0l (site 0) seen (fun k => .ref k 0 (mdN zs m) (mdN zs m) (mdN zs m) 1 false) ⟨.row, ics (mdR zs m t)⟩ := by
 obtain ⟨H, h1, h2⟩ := ZKZ (d := d) h hm h6 h0 h8
 exact Z21 (by rw [Z0H rfl]; exact h1) h2 (by rw [Z4]; exact (ZxD h hm h6 h0 h8).1.len)
end Go.AM.Ytfmnoohhhokicaa
end
noncomputable section
namespace Go.AM.Ytfmnoohhhokicaa
open Go Go.AM Go.AM.Rub
def lcs (L : List (List Int)) : List AV := L.map fun l => .imm (ics l) l.length false
theorem ZQ (L : List (List Int)) : (lcs L).length = L.length := by simp [lcs]
theorem Z5k {L : List (List Int)} {k : Nat} {l : List Int} (h : L[k]? = some l) : (lcs L)[k]? = some (.imm (ics l) l.length false) := by simp [lcs, h]
theorem Zo7 (L : List (List Int)) (l : List Int) : lcs L ++ [.imm (ics l) l.length false] = lcs (L ++ [l]) := by simp [lcs]
theorem Zfz (L : List (List Int)) : (lcs L).take L.length = lcs L := List.take_of_length_le (by rw [ZQ]; exact Nat.le_refl _)
theorem Zm6 {n : Nat} (h : n ≤ 1000000) : roomOk E.T 22 n = true := by
 simp only [roomOk, T_22, decide_eq_true_eq]; exact ⟨by decide, rfl, by omega⟩
theorem Z3j {k : Nat} {L : List (List Int)} (h : 0 < L.length) : oH k (lcs L) = [(k, ⟨.row, lcs L⟩)] := ZNJ k (by rw [ZQ]; exact h)
def LV (L : List (List Int)) (a : AV) : Prop := (L = [] ∧ a = .nilsl) ∨ ∃ ex, a = .imm (lcs L) L.length ex
theorem ZA4 {C : Callee} {l : List Int} {n : Nat} {ex : Bool} (hl : l.length = n) (h0 : 0 < n) (h9 : n ≤ 1000) : ∃ H, bodyA E C fg 1000000 66 [.imm (ics l) n ex] [] 0 = some (.ref 5 0 n n n 1 false, H) ∧ hget H 5 = some ⟨.row, ics l⟩ := by
 have hlen : (ics l).length = n := by rw [Z4, hl]
 have htk : List.take n (ics l) = ics l := List.take_of_length_le (by omega)
 have hn0 : ¬ n = 0 := by omega
 have hn1 : ¬ n ≤ 0 := by omega
 simp (disch := omega) only [ZF, Z5, stp, just, Rd.bind, Rd.run, upds, zeroCells, tsz, elemT, resA, resL, fresh, Z3, aBin, Nat.reduceAdd, Nat.reduceLT, Nat.reduceBEq, Nat.reduceEqDiff, Nat.reduceLeDiff, ↓reduceIte, reduceCtorEq, Z9, ZI, partsOf, fillA, repC, ZU, aAppend, srcOf, window, snaps, ZT, F_66, aNil, srcOf, hlen, hn0, hn1, Z4E (show n ≤ 1000000 by omega)]
 exact ⟨_, rfl, rfl⟩
theorem ZbT {d : Nat} {site : Nat → Nat} {seen : List Nat} {l : List Int} {n : Nat} {ex : Bool} (hl : l.length = n) (h0 : 0 < n) (h9 : n ≤ 1000) : aBack site true seen (thaw (kF (d + 1)) 66 [.imm (ics l) n ex] [] 0) =
   Z0l (site 0) seen (fun k => .ref k 0 n n n 1 false) ⟨.row, ics l⟩ := by
 obtain ⟨H, h1, h2⟩ := ZA4 (C := kF d) (ex := ex) hl h0 h9
 exact Z21 (by rw [Z0H rfl]; exact h1) h2 (by rw [Z4, hl])
structure PrC (C : Callee) (f : Nat) (c : AV) (p : List Int → Bool) (L : List (List Int)) : Prop where
 fi : ∃ x, fInfo E f = some x
 mt : ∀ caps args, mutV E (.clo f caps) args = none
 run : ∀ l ∈ L, ∀ (site : Nat → Nat) seen, aBack site true seen (thaw C f [.imm (ics l) l.length false, .iptr [c] 0] [] 0) = .pure (.bool (p l), [])
abbrev ixS (a : AV) (n f : Nat) (c : AV) (i : Nat) : St := ([(8, .int .i64 i), (7, .int .i64 n), (1, .clo f [.iptr [c] 0]), (0, a)], [])
def ixL (p : List Int → Bool) (L : List (List Int)) : Int := if L.findIdx p < L.length then (L.findIdx p : Int) else -1
theorem Z00W {C : Callee} {f : Nat} {c a : AV} {p : List Int → Bool} {L : List (List Int)} (hC : PrC C f c p L) (ha : LV L a) (hl : L.length ≤ 900000) :
   rsOf (bodyA E C fg 1000000 64 [a, .clo f [.iptr [c] 0]] [] 0) = some (.int .i64 (ixL p L)) := by
 obtain ⟨⟨fi, hfi⟩, hm, hr⟩ := hC
 rcases ha with ⟨rfl, rfl⟩ | ⟨ex, rfl⟩
 · have hloop := Z8Y (f := (execA E C (fg 64) 0 19 [] 1000000 Z3M)) (E0 := []) (s0 := ixS .nilsl 0 f c 0) rfl (e := .exit 0) (se := ([(9, .bool false), (8, .int .i64 0), (7, .int .i64 0), (1, .clo f [.iptr [c] 0]), (0, .nilsl)], []))
     (by simp (disch := omega) only [ZF, stp, just, Rd.bind, Rd.run, Rd.opt, upds, aBin, aInt, Nat.reduceEqDiff, Nat.reduceLeDiff, ↓reduceIte, F_64, ixS, cl0]) (by simp)
   simp only [ixS, cl0] at hloop
   have e : ixL p [] = -1 := rfl
   rw [e]
   simp (disch := omega) only [ZF, Z5, stp, just, Rd.bind, Rd.run, upds, resA, resL, aLen, Z3, Nat.reduceBEq, Nat.reduceEqDiff, Nat.reduceLeDiff, Int.reduceNeg, ↓reduceIte, reduceCtorEq, ZT, F_64, hloop]
 · have hlen := ZQ L
   have hgo : ∀ i, i < L.length → L.findIdx p > i → ∃ s', (execA E C (fg 64) 0 19 [] 1000000 Z3M) (ixS (.imm (lcs L) L.length ex) L.length f c i) = some (.normal, s') ∧ headA [] s' = ixS (.imm (lcs L) L.length ex) L.length f c (i + 1) := by
     intro i hi hp
     have hk : L[i]? = some L[i] := List.getElem?_eq_getElem hi
     have hat := Z5k hk
     have hrr := hr L[i] (List.getElem_mem hi)
     have hno := List.not_of_lt_findIdx hp
     rw [show p L[i] = false by simpa using hno] at hrr
     have g1 : (i : Int) < L.length := by omega
     simp (disch := omega) only [ZF, stp, just, Rd.bind, Rd.run, Rd.opt, upds, tsz, rdCells, aLoad, Z2, aNum, aBin, aInt, Nat.reduceMul, Nat.reduceLT, Nat.reduceBEq, Nat.reduceEqDiff, Nat.reduceLeDiff, ↓reduceIte, reduceCtorEq, aCall, snaps, opCallV, ZT, F_64, ixS, g1, hat, hlen, Z3r (hm _ _), hfi, hrr, Zn (show i < 1000000 by omega)]
     exact ⟨_, rfl, rfl⟩
   unfold ixL
   by_cases hlt : L.findIdx p < L.length
   · rw [if_pos hlt]
     have hk : L[L.findIdx p]? = some L[L.findIdx p] := List.getElem?_eq_getElem hlt
     have hat := Z5k hk
     have hrr := hr _ (List.getElem_mem hlt)
     rw [List.findIdx_getElem (w := hlt)] at hrr
     have hloop := loopM (f := (execA E C (fg 64) 0 19 [] 1000000 Z3M)) (E0 := []) (ixS (.imm (lcs L) L.length ex) L.length f c) (L.findIdx p) (fun i hi => hgo i (by omega) hi) rfl (by omega) (e := .ret) (se := ([(4, .int .i64 (L.findIdx p : Nat))], []))
       (by
         generalize L.findIdx p = m at *
         have g1 : (m : Int) < L.length := by omega
         simp (disch := omega) only [ZF, stp, just, Rd.bind, Rd.run, Rd.opt, upds, tsz, rdCells, aLoad, Z2, aNum, aBin, aInt, Nat.reduceMul, Nat.reduceLT, Nat.reduceBEq, Nat.reduceEqDiff, Nat.reduceLeDiff, ↓reduceIte, reduceCtorEq, aCall, snaps, opCallV, ZT, F_64, ixS, g1, hat, hlen, Z3r (hm _ _), hfi, hrr]) (by simp)
     simp only [ixS, cl0] at hloop
     simp (disch := omega) only [ZF, Z5, stp, just, Rd.bind, Rd.run, upds, resA, resL, aLen, Z3, Nat.reduceBEq, Nat.reduceEqDiff, Nat.reduceLeDiff, ↓reduceIte, reduceCtorEq, ZT, F_64, hloop]
   · rw [if_neg hlt]
     have hle := List.findIdx_le_length (xs := L) (p := p)
     have hloop := loopM (f := (execA E C (fg 64) 0 19 [] 1000000 Z3M)) (E0 := []) (ixS (.imm (lcs L) L.length ex) L.length f c) L.length (fun i hi => hgo i hi (by omega)) rfl (by omega) (e := .exit 0) (se := ([(9, .bool false), (8, .int .i64 L.length), (7, .int .i64 L.length), (1, .clo f [.iptr [c] 0]), (0, .imm (lcs L) L.length ex)], []))
       (by simp (disch := omega) only [ZF, stp, just, Rd.bind, Rd.run, Rd.opt, upds, aBin, aInt, Nat.reduceEqDiff, Nat.reduceLeDiff, ↓reduceIte, F_64, ixS]) (by simp)
     simp only [ixS, cl0] at hloop
     simp (disch := omega) only [ZF, Z5, stp, just, Rd.bind, Rd.run, upds, resA, resL, aLen, Z3, Nat.reduceBEq, Nat.reduceEqDiff, Nat.reduceLeDiff, Int.reduceNeg, ↓reduceIte, reduceCtorEq, ZT, F_64, hloop]
theorem ZOT {d : Nat} {f : Nat} {c a : AV} {p : List Int → Bool} {L : List (List Int)} (hC : PrC (kF d) f c p L) (ha : LV L a) (hl : L.length ≤ 900000) {site : Nat → Nat} {seen : List Nat} :
   aBack site true seen (thaw (kF (d + 1)) 64 [a, .clo f [.iptr [c] 0]] [] 0) = .pure (.int .i64 (ixL p L), []) :=
 Z1P (Z1Z rfl (Z00W hC ha hl))
theorem ZTV (p : List Int → Bool) (L : List (List Int)) : decide (ixL p L ≥ 0) = L.any p := by
 unfold ixL
 by_cases h : L.findIdx p < L.length
 · rw [if_pos h, decide_eq_true (by omega)]
   rw [eq_comm, List.any_eq_true]
   exact List.findIdx_lt_length.1 h
 · rw [if_neg h, decide_eq_false (by omega), eq_comm, List.any_eq_false]
   intro x hx hp
   exact h (List.findIdx_lt_length.2 ⟨x, hx, hp⟩)
theorem ZSJ {d : Nat} {f : Nat} {c a : AV} {p : List Int → Bool} {L : List (List Int)} (hC : PrC (kF d) f c p L) (ha : LV L a) (hl : L.length ≤ 900000) (_ : ∀ e, snap (e + 8) c = .pure (c, [])) :
   rsOf (bodyA E (kF (d + 1)) fg 1000000 73 [a, .clo f [.iptr [c] 0]] [] 0) = some (.bool (L.any p)) := by
 have hi := fun (site : Nat → Nat) seen => ZOT (site := site) (seen := seen) hC ha hl
 have sn : ∀ e, snap (e + 1) a = .pure (a, []) := by intro e; rcases ha with ⟨_, rfl⟩ | ⟨_, rfl⟩ <;> rfl
 generalize kF (d + 1) = C at *
 rw [← ZTV]
 generalize ixL p L = z at *
 simp (disch := omega) only [ZF, Z5, stp, just, Rd.bind, Rd.run, Rd.opt, upds, resA, resL, aBin, aInt, Nat.reduceBEq, Nat.reduceEqDiff, Nat.reduceLeDiff, ↓reduceIte, reduceCtorEq, aCall, snaps, F_73, hi, sn]
theorem ZkA {d : Nat} {f : Nat} {c a : AV} {p : List Int → Bool} {L : List (List Int)} (hC : PrC (kF d) f c p L) (ha : LV L a) (hl : L.length ≤ 900000) (hs : ∀ e, snap (e + 8) c = .pure (c, [])) {site : Nat → Nat} {seen : List Nat} :
   aBack site true seen (thaw (kF (d + 2)) 73 [a, .clo f [.iptr [c] 0]] [] 0) = .pure (.bool (L.any p), []) :=
 Z1m (Z1Z rfl (ZSJ hC ha hl hs))
end Go.AM.Ytfmnoohhhokicaa
end
noncomputable section
namespace Go.AM.Rub
theorem ZD4 {l : List Int} {i j : Nat} (hij : i ≠ j) (hi : i < l.length) (hj : j < l.length) (b : Int) :
   (mvL l i j).count b = l.count b - (if rowF l i == b then 1 else 0) + (if rowF l i - 1 == b then 1 else 0) - (if rowF l j == b then 1 else 0) + (if rowF l j + 1 == b then 1 else 0) := by
 unfold mvL
 have e1 : rowF l i = l[i] := by simp [rowF, hi]
 have e2 : rowF l j = l[j] := by simp [rowF, hj]
 rw [List.count_set (h := by rw [List.length_set]; exact hj), List.count_set (h := hi), List.getElem_set_ne hij, e1, e2]
theorem ZXM {l : List Int} {i j i' j' : Nat} (hij : i ≠ j) (hij' : i' ≠ j') (hi : i < l.length) (hj : j < l.length) (hi' : i' < l.length) (hj' : j' < l.length) (e1 : rowF l i = rowF l i') (e2 : rowF l j = rowF l j') : (mvL l i j).Perm (mvL l i' j') := by
 rw [List.perm_iff_count]
 intro b
 rw [ZD4 hij hi hj, ZD4 hij' hi' hj', e1, e2]
theorem ZRQ {n : Nat} {l : List Int} (h : Rw n l) {i j : Nat} (r : Rb n l i j) : srtI (mvL l i j) = rubL l i j := by
 have hl := h.len
 have hij := r.lt
 have hj := r.lj
 obtain ⟨re, _⟩ := Z4V h r
 have a1 := re.lt
 have a2 := re.lj
 have hd := Z0r h.row
 rw [h.len] at hd
 obtain ⟨p, q⟩ := ZfB (l := mvL l i j) (by rw [ZE]; omega)
 have s1 := (Z2t (l := l) (by rw [hl]; exact hd) l.length i (by omega) (by omega)).2.2.1
 have s2 := (Z22 (l := l) (by rw [hl]; exact hd) j (by omega)).2.1
 have hr := (Z3l h r).1
 refine Z7S q (Zh1 hr.row) (p.trans ?_)
 exact ZXM (by omega) (by omega) (by omega) (by omega) (by omega) (by omega) s1.symm s2.symm
def ad (out : List (List Int)) (l : List Int) : List (List Int) := if l ∈ out then out else out ++ [l]
def rbI (row : List Int) (i : Nat) (out : List (List Int)) : Nat → List (List Int)
 | 0 => out
 | j + 1 => if rowF row i - rowF row j ≥ 2 then ad (rbI row i out j) (rubL row i j) else rbI row i out j
def rbO (row : List Int) (n : Nat) : Nat → List (List Int)
 | 0 => []
 | i + 1 => rbI row i (rbO row n i) n
theorem Z06q (out : List (List Int)) (l y : List Int) : y ∈ ad out l ↔ y ∈ out ∨ y = l := by
 unfold ad
 split
 · rename_i h
   exact ⟨.inl, fun hh => hh.elim id fun e => e ▸ h⟩
 · simp
theorem Z01G (out : List (List Int)) (l : List Int) : (ad out l).length ≤ out.length + 1 := by
 unfold ad; split <;> simp
theorem ZcY (row : List Int) (i : Nat) (out : List (List Int)) (y : List Int) : ∀ m, y ∈ rbI row i out m ↔ y ∈ out ∨ ∃ j, j < m ∧ rowF row i - rowF row j ≥ 2 ∧ y = rubL row i j
 | 0 => by simp [rbI]
 | m + 1 => by
   simp only [rbI]
   have ih := ZcY row i out y m
   split
   · rename_i h
     rw [Z06q, ih]
     constructor
     · rintro ((h1 | ⟨j, h1, h2⟩) | e)
       · exact .inl h1
       · exact .inr ⟨j, by omega, h2⟩
       · exact .inr ⟨m, by omega, h, e⟩
     · rintro (h1 | ⟨j, h1, h2⟩)
       · exact .inl (.inl h1)
       · by_cases hj : j = m
         · subst hj; exact .inr h2.2
         · exact .inl (.inr ⟨j, by omega, h2⟩)
   · rename_i h
     rw [ih]
     constructor
     · rintro (h1 | ⟨j, h1, h2⟩)
       · exact .inl h1
       · exact .inr ⟨j, by omega, h2⟩
     · rintro (h1 | ⟨j, h1, h2⟩)
       · exact .inl h1
       · refine .inr ⟨j, ?_, h2⟩
         by_cases hj : j = m
         · subst hj; exact absurd h2.1 h
         · omega
theorem ZdC (row : List Int) (i : Nat) (out : List (List Int)) : ∀ m, (rbI row i out m).length ≤ out.length + m
 | 0 => by simp [rbI]
 | m + 1 => by
   have := ZdC row i out m
   simp only [rbI]
   split
   · have := Z01G (rbI row i out m) (rubL row i m); omega
   · omega
theorem Zdg (row : List Int) (n : Nat) : ∀ i, (rbO row n i).length ≤ i * n
 | 0 => by simp [rbO]
 | i + 1 => by
   have := Zdg row n i
   have := ZdC row i (rbO row n i) n
   simp only [rbO]
   rw [Nat.succ_mul]; omega
theorem ZcS (row : List Int) (n : Nat) (y : List Int) : ∀ i, y ∈ rbO row n i ↔ ∃ k j, k < i ∧ j < n ∧ rowF row k - rowF row j ≥ 2 ∧ y = rubL row k j
 | 0 => by simp [rbO]
 | i + 1 => by
   simp only [rbO]
   rw [ZcY, ZcS row n y i]
   constructor
   · rintro (⟨k, j, h1, h2⟩ | ⟨j, h1, h2⟩)
     · exact ⟨k, j, by omega, h2⟩
     · exact ⟨i, j, by omega, h1, h2⟩
   · rintro ⟨k, j, h1, h2⟩
     by_cases hk : k = i
     · subst hk; exact .inr ⟨j, h2⟩
     · exact .inl ⟨k, j, by omega, h2⟩
def rbL (row : List Int) : List (List Int) := rbO row row.length row.length
theorem Z8E {n : Nat} {l : List Int} (h : Rw n l) {i j : Nat} (hi : i < n) (hj : j < n) (hd : rowF l i - rowF l j ≥ 2) : Rb n l i j := by
 refine ⟨?_, hj, hd⟩
 rcases Nat.lt_or_ge i j with h1 | h1
 · exact h1
 · have hdd := Z0r h.row
   rw [h.len] at hdd
   have := Z0M hdd h1 hi
   omega
theorem Zue {n : Nat} {l : List Int} (h : Rw n l) (y : List Int) : y ∈ rbL l ↔ ∃ i j, Rb n l i j ∧ y = rubL l i j := by
 unfold rbL
 rw [ZcS, h.len]
 constructor
 · rintro ⟨k, j, h1, h2, h3, h4⟩
   exact ⟨k, j, Z8E h h1 h2 h3, h4⟩
 · rintro ⟨k, j, r, e⟩
   have := r.lt
   have := r.lj
   exact ⟨k, j, by omega, r.lj, r.df, e⟩
theorem ZPv {n : Nat} {l y : List Int} (h : Rw n l) (hy : y ∈ rbL l) : Rw n y := by
 obtain ⟨i, j, r, rfl⟩ := (Zue h y).1 hy
 exact (Z3l h r).1
theorem ZTl {n : Nat} {l y : List Int} (h : Rw n l) {i : Nat} (hi : i ≤ n) (hy : y ∈ rbO l n i) : Rw n y := by
 obtain ⟨k, j, h1, h2, h3, rfl⟩ := (ZcS l n y i).1 hy
 exact (Z3l h (Z8E h (by omega) h2 h3)).1
theorem ZNW {n : Nat} {l y : List Int} (h : Rw n l) {i m : Nat} (hi : i < n) (hm : m ≤ n) (hy : y ∈ rbI l i (rbO l n i) m) : Rw n y := by
 rcases (ZcY l i (rbO l n i) y m).1 hy with h1 | ⟨j, h1, h2, rfl⟩
 · exact ZTl h (by omega) h1
 · exact (Z3l h (Z8E h hi (by omega) h2)).1
end Go.AM.Rub
end
noncomputable section
namespace Go.AM.Ytfmnoohhhokicaa
open Go Go.AM Go.AM.Rub
theorem ZTa {d : Nat} {l m : List Int} {x : Bool} (hl : l.length ≤ 1000) : rsOf (bodyA E (kF (d + 1)) fg 1000000 120 [.imm (ics l) l.length x, .iptr [.imm (ics m) m.length false] 0] [] 0) = some (.bool (decide (l = m))) := by
 have hs := fun (site : Nat → Nat) seen => Z5x (d := d) (site := site) (seen := seen) (Z8r l x) (Z8r m false) hl
 generalize kF (d + 1) = C at *
 simp (disch := omega) only [ZF, Z5, stp, just, Rd.bind, Rd.run, Rd.opt, upds, rdCells, aLoad, resA, resL, Nat.reduceBEq, Nat.reduceEqDiff, Nat.reduceLeDiff, ↓reduceIte, reduceCtorEq, aCall, snaps, ZT, Z09i, hs]
theorem pr1 (d : Nat) (m : List Int) {L : List (List Int)} (hL : ∀ l ∈ L, l.length ≤ 1000) : PrC (kF (d + 2)) 120 (.imm (ics m) m.length false) (fun l => decide (l = m)) L :=
 ⟨⟨_, ZFE⟩, fun _ _ => rfl, fun l hl _ _ => Z1m (Z1Z rfl (ZTa (hL l hl)))⟩
theorem Z05J (m : List Int) (L : List (List Int)) : L.any (fun l => decide (l = m)) = decide (m ∈ L) := by
 rw [Bool.eq_iff_iff, List.any_eq_true, decide_eq_true_eq]
 constructor
 · rintro ⟨x, hx, e⟩; rw [← of_decide_eq_true e]; exact hx
 · intro h; exact ⟨m, h, decide_eq_true rfl⟩
theorem con1 {d : Nat} {m : List Int} {a : AV} {L : List (List Int)} (ha : LV L a) (hL : ∀ l ∈ L, l.length ≤ 1000) (hl : L.length ≤ 900000) {site : Nat → Nat} {seen : List Nat} :
   aBack site true seen (thaw (kF (d + 4)) 73 [a, .clo 120 [.iptr [.imm (ics m) m.length false] 0]] [] 0) = .pure (.bool (decide (m ∈ L)), []) := by
 have := ZkA (site := site) (seen := seen) (pr1 d m hL) ha hl (fun _ => rfl)
 rw [Z05J] at this
 exact this
abbrev rbS (row : List Int) (n : Nat) (x : Bool) (i : Nat) (out : List (List Int)) (j : Nat) : St :=
 ([(14, .int .i64 j), (13, .int .i64 n), (9, .int .i64 i), (8, .int .i64 n), (4, .int .i64 i), (3, oV 50 1 out.length), (0, .imm (ics row) n x)], oH 50 (lcs out))
structure RbC (C : Callee) (row : List Int) (n : Nat) : Prop where
 cl : ∀ (site : Nat → Nat) seen x, aBack site true seen (thaw C 66 [.imm (ics row) n x] [] 0) = Z0l (site 0) seen (fun k => .ref k 0 n n n 1 false) ⟨.row, ics row⟩
 so : ∀ (H : AHeap) B k l, l.length = n → BdI l → hget H k = some ⟨.row, ics l⟩ → C 67 [.ref k 0 n n n 1 false] H B = some (.tup [], hset H k ⟨.row, ics (srtI l)⟩)
 co : ∀ (site : Nat → Nat) seen m a L, LV L a → (∀ l ∈ L, l.length ≤ 1000) → L.length ≤ 900000 → m.length = n → aBack site true seen (thaw C 73 [a, .clo 120 [.iptr [.imm (ics m) n false] 0]] [] 0) = .pure (.bool (decide (m ∈ L)), [])
theorem rbC (d : Nat) {row : List Int} {n : Nat} (hl : row.length = n) (h0 : 0 < n) (h6 : n ≤ 6) : RbC (kF (d + 6)) row n :=
 ⟨fun _ _ _ => ZbT hl h0 (by omega), fun H B k l h1 h2 h3 => Z7H h1 h0 h6 h2 h3, fun site seen m a L h1 h2 h3 h4 => by subst h4; exact con1 (d := d + 2) h1 h2 h3⟩
theorem Z08a {C : Callee} {row : List Int} {n : Nat} {x : Bool} (hC : RbC C row n) (h : Rw n row) (h6 : n ≤ 6) {i : Nat} (hi : i < n) {out : List (List Int)} (ho : out.length ≤ 100) (hol : ∀ l ∈ out, l.length ≤ 1000) (j : Nat) (hj : j < n) :
   ∃ s', (execA E C (fg 106) 0 54 [] 1000000 Z3e) (rbS row n x i out j) = some (.normal, s') ∧ headA [] s' = rbS row n x i (if rowF row i - rowF row j ≥ 2 then ad out (rubL row i j) else out) (j + 1) := by
 have hl := h.len
 have hlen : (ics row).length = n := by rw [Z4, hl]
 have a1 := Zz (l := row) (k := i) (by omega)
 have a2 := Zz (l := row) (k := j) (by omega)
 have b1 := rw_b h hi
 have b2 := rw_b h hj
 have g1 : (i : Int) < n := by omega
 have g2 : (j : Int) < n := by omega
 have w : wrp .i64 (rowF row i - rowF row j) = rowF row i - rowF row j := Z0d (by omega)
 by_cases hd : rowF row i - rowF row j ≥ 2
 · rw [if_pos hd]
   have r := Z8E h hi hj hd
   have hij := r.lt
   have hno : ¬ rowF row i - rowF row j < 2 := by omega
   have hcl := hC.cl
   have w1 : wrp .i64 (rowF row i - 1) = rowF row i - 1 := Z0d (by omega)
   have w2 : wrp .i64 (rowF row j + 1) = rowF row j + 1 := Z0d (by omega)
   have e1 := Z35 row i (rowF row i - 1)
   have l1 : (ics (row.set i (rowF row i - 1))).length = n := by rw [Z4, List.length_set, hl]
   have a3 : (ics (row.set i (rowF row i - 1)))[j]? = some (.int .i64 (rowF row j)) := by
     refine Z3y ?_
     rw [List.getElem?_set_ne (by omega)]
     exact Z3i (by omega)
   have e2 := Z35 (row.set i (rowF row i - 1)) j (rowF row j + 1)
   have e3 : (row.set i (rowF row i - 1)).set j (rowF row j + 1) = mvL row i j := rfl
   rw [e3] at e2
   have l2 : (ics (mvL row i j)).length = n := by rw [Z4, ZE, hl]
   have hso := fun (H : AHeap) B k => hC.so H B k (mvL row i j) (by rw [ZE, hl]) (fun k hk => by
     rw [ZE, hl] at hk
     rw [Z0L hij (by omega)]
     have := rw_b h hk
     unfold mvF
     split
     · omega
     · split <;> omega)
   rw [ZRQ h r] at hso
   have hrl : (rubL row i j).length = n := by show (mvL row _ _).length = n; rw [ZE, hl]
   have l3 : (ics (rubL row i j)).length = n := by rw [Z4, hrl]
   have t3 : List.take n (ics (rubL row i j)) = ics (rubL row i j) := List.take_of_length_le (by omega)
   have hsn := Zo7 out (rubL row i j)
   rw [hrl] at hsn
   have hco := fun (site : Nat → Nat) seen a ha => hC.co site seen (rubL row i j) a out ha hol (by omega) hrl
   have hlo := ZQ out
   have hto := Zfz out
   have had : ad out (rubL row i j) = if rubL row i j ∈ out then out else out ++ [rubL row i j] := rfl
   rw [had]
   generalize rubL row i j = R at *
   generalize ics R = RI at *
   generalize ics (mvL row i j) = M2 at *
   generalize ics (row.set i (rowF row i - 1)) = M1 at *
   simp only [rbS]
   cases hn : out with
   | nil =>
     subst hn
     have hco := fun (site : Nat → Nat) seen => hco site seen .nilsl (.inl ⟨rfl, rfl⟩)
     have hm : ¬ R ∈ ([] : List (List Int)) := by simp
     rw [decide_eq_false hm] at hco
     rw [if_neg hm]
     have oh0 : oH 50 (lcs []) = [] := rfl
     rw [List.nil_append] at hsn ⊢
     have hln : lcs [] = [] := rfl
     rw [hln, List.nil_append] at hsn
     rw [Z3j (L := [R]) (by simp), ← hsn, oh0, List.length_nil, Z7h, List.length_singleton, Z20 (show 0 < 1 by omega)]
     have h1 := hso [(6, ⟨.box, [.ref 28 0 n n n 1 false]⟩), (28, ⟨.row, M2⟩)] 432 28 rfl
     simp only [Z50, Z5i, Nat.reduceEqDiff, if_true, if_false, Nat.reduceLeDiff] at h1
     simp (disch := omega) only [ZF, stp, opBox, justO, just, Rd.bind, Rd.run, Rd.opt, upds, acells, zeroCells, tsz, elemT, rdCells, aLoad, aStore, opStore, fresh, Z2, aNum, Z3, aBin, aInt, putC, evO, Nat.reduceAdd, Nat.reduceMul, Nat.reduceLT, Nat.reduceBEq, Nat.reduceEqDiff, Nat.reduceLeDiff, ↓reduceIte, reduceCtorEq, stpT, Rd.foot, writing, Zj, Tr.empty, Zl, Z9, ZI, partsOf, fillA, repC, ZU, aAppend, srcOf, window, aUn, mutX, aCall, snaps, ZT, Z2b, hlen, a1, a2, a3, g1, g2, w, w1, w2, hno, hcl, e1, e2, l1, l3, t3, h1, hco, if_pos, Zm6 (show 1 ≤ 1000000 by omega), Zn (show j < 1000000 by omega)]
     exact ⟨_, rfl, rfl⟩
   | cons y ys =>
     rw [← hn]
     have h0 : 0 < out.length := by rw [hn]; simp
     have hco := fun (site : Nat → Nat) seen ex => hco site seen (.imm (lcs out) out.length ex) (.inr ⟨ex, rfl⟩)
     rw [Z20 h0, Z3j h0]
     have h1 := hso [(6, ⟨.box, [.ref 28 0 n n n 1 false]⟩), (28, ⟨.row, M2⟩), (50, ⟨.row, lcs out⟩)] 432 28 rfl
     simp only [Z50, Z5i, Nat.reduceEqDiff, if_true, if_false, Nat.reduceLeDiff] at h1
     by_cases hm : R ∈ out
     · rw [decide_eq_true hm] at hco
       rw [if_pos hm, Z20 h0, Z3j h0]
       generalize lcs out = LO at *
       generalize out.length = m at *
       simp (disch := omega) only [ZF, stp, opBox, justO, just, Rd.bind, Rd.run, Rd.opt, upds, acells, zeroCells, tsz, elemT, rdCells, aLoad, aStore, opStore, fresh, Z2, aNum, Z3, aBin, aInt, putC, evO, Nat.reduceAdd, Nat.reduceMul, Nat.reduceLT, Nat.reduceBEq, Nat.reduceEqDiff, Nat.reduceLeDiff, ↓reduceIte, reduceCtorEq, stpT, Rd.foot, writing, Zj, Tr.empty, Zl, Z9, ZI, partsOf, fillA, repC, ZU, aAppend, srcOf, window, aUn, mutX, aCall, snaps, ZT, Z2b, hlen, a1, a2, a3, g1, g2, w, w1, w2, hno, hcl, e1, e2, l1, l3, t3, h1, hco, hlo, hto, if_pos, Zn (show j < 1000000 by omega)]
       exact ⟨_, rfl, rfl⟩
     · rw [decide_eq_false hm] at hco
       rw [if_neg hm, List.length_append, List.length_singleton, Z20 (show 0 < out.length + 1 by omega), Z3j (L := out ++ [R]) (by simp), ← hsn]
       have hno2 : ¬ out.length + 1 ≤ out.length := by omega
       generalize lcs out = LO at *
       generalize out.length = m at *
       simp (disch := omega) only [ZF, stp, opBox, justO, just, Rd.bind, Rd.run, Rd.opt, upds, acells, zeroCells, tsz, elemT, rdCells, aLoad, aStore, opStore, fresh, Z2, aNum, Z3, aBin, aInt, putC, evO, Nat.reduceAdd, Nat.reduceMul, Nat.reduceLT, Nat.reduceBEq, Nat.reduceEqDiff, Nat.reduceLeDiff, ↓reduceIte, reduceCtorEq, stpT, Rd.foot, writing, Zj, Tr.empty, Zl, Z9, ZI, partsOf, fillA, repC, ZU, aAppend, srcOf, window, aUn, mutX, aCall, snaps, ZT, Z2b, hlen, a1, a2, a3, g1, g2, w, w1, w2, hno, hno2, hcl, e1, e2, l1, l3, t3, h1, hco, hlo, hto, if_pos, Zm6 (show m + 1 ≤ 1000000 by omega), Zn (show j < 1000000 by omega)]
       exact ⟨_, rfl, rfl⟩
 · rw [if_neg hd]
   have hlt : rowF row i - rowF row j < 2 := by omega
   simp only [rbS]
   cases hn : out with
   | nil =>
     have oh0 : oH 50 (lcs []) = [] := rfl
     rw [oh0, List.length_nil, Z7h]
     simp (disch := omega) only [ZF, stp, just, Rd.bind, Rd.run, Rd.opt, upds, tsz, rdCells, aLoad, Z2, aNum, aBin, aInt, Nat.reduceAdd, Nat.reduceLT, Nat.reduceBEq, Nat.reduceEqDiff, Nat.reduceLeDiff, ↓reduceIte, reduceCtorEq, stpT, Rd.foot, writing, Zj, Tr.empty, Zl, ZT, Z2b, hlen, a1, a2, g1, g2, w, hlt, Zn (show j < 1000000 by omega)]
     exact ⟨_, rfl, rfl⟩
   | cons y ys =>
     rw [← hn]
     have h0 : 0 < out.length := by rw [hn]; simp
     rw [Z20 h0, Z3j h0]
     generalize lcs out = LO at *
     generalize out.length = m at *
     simp (disch := omega) only [ZF, stp, just, Rd.bind, Rd.run, Rd.opt, upds, tsz, rdCells, aLoad, Z2, aNum, aBin, aInt, Nat.reduceAdd, Nat.reduceLT, Nat.reduceBEq, Nat.reduceEqDiff, Nat.reduceLeDiff, ↓reduceIte, reduceCtorEq, stpT, Rd.foot, writing, Zj, Tr.empty, Zl, ZT, Z2b, hlen, a1, a2, g1, g2, w, hlt, Zn (show j < 1000000 by omega)]
     exact ⟨_, rfl, rfl⟩
end Go.AM.Ytfmnoohhhokicaa
end
noncomputable section
namespace Go.AM.Rub
theorem Z5e {α : Type} [DecidableEq α] (l : α) : ∀ (ls all : List α), addN all (ls ++ [l]) = if l ∈ addN all ls then addN all ls else addN all ls ++ [l]
 | [], all => by by_cases h : l ∈ all <;> simp [addN, h]
 | x :: ls, all => by
   simp only [List.cons_append, addN]
   split
   · exact Z5e l ls all
   · exact Z5e l ls _
def bfR (a : List Int) : Nat → List (List Int)
 | 0 => [a]
 | i + 1 => match (bfR a i)[i]? with
   | some x => addN (bfR a i) (rbL x)
   | none => bfR a i
def DwR (n : Nat) (a : List Int) : List Int → Prop := fun b => Rw n b ∧ MajL a b
theorem lev {n : Nat} {a : List Int} (ha : Rw n a) : Lev (DwR n a) rbL (apL a) a := ZRR ha rbL fun _ hx y => Zue hx y
theorem Z3g {n : Nat} {a : List Int} (ha : Rw n a) : ∀ i, (∀ j, j < i → j < (bfR a j).length) → BInv (DwR n a) rbL (apL a) a (bfR a i) i
 | 0, _ => ZA5 (lev ha)
 | i + 1, h => by
   have ih := Z3g ha i fun j hj => h j (by omega)
   have hi := h i (by omega)
   have hx : (bfR a i)[i]? = some (bfR a i)[i] := List.getElem?_eq_getElem hi
   simp only [bfR, hx]
   exact (ZkB (lev ha) ih hx).1
theorem Zqa {n : Nat} {a : List Int} (ha : Rw n a) {L : List (List Int)} (hn : L.Nodup) (hs : ∀ x ∈ L, DwR n a x) : L.length ≤ 9 ^ n := by
 refine Nat.le_trans (ZfE L (rowsL n (totL a) 8) hn fun x hx => ?_) (Zfe n _ 8 (by omega))
 obtain ⟨h1, h2⟩ := hs x hx
 rw [Z5f]
 exact ⟨h1.len, (ZjP (by rw [ha.len, h1.len]) h2).symm, h1.row⟩
theorem ZKg {n : Nat} {a : List Int} (ha : Rw n a) : ∃ N, (∀ j, j < N → j < (bfR a j).length) ∧ (bfR a N).length ≤ N := by
 have key : ∀ m i : Nat, i + m = 9 ^ n + 1 → (∀ j, j < i → j < (bfR a j).length) → ∃ N, (∀ j, j < N → j < (bfR a j).length) ∧ (bfR a N).length ≤ N := by
   intro m
   induction m with
   | zero =>
     intro i hi h
     have inv := Z3g ha i h
     have := Zqa ha inv.nd inv.sub
     have := inv.le
     omega
   | succ m ih =>
     intro i hi h
     by_cases hlt : i < (bfR a i).length
     · exact ih (i + 1) (by omega) fun j hj => if e : j = i then by rw [e]; exact hlt else h j (by omega)
     · exact ⟨i, h, by omega⟩
 exact key (9 ^ n + 1) 0 (by omega) fun j hj => by omega
def reN (a : List Int) : Nat := Classical.epsilon fun N : Nat => (∀ j, j < N → j < (bfR a j).length) ∧ (bfR a N).length ≤ N
theorem Z7X {n : Nat} {a : List Int} (ha : Rw n a) : (∀ j, j < reN a → j < (bfR a j).length) ∧ (bfR a (reN a)).length ≤ reN a := by
 exact Classical.epsilon_spec (ZKg ha)
def reL (a : List Int) : List (List Int) := bfR a (reN a)
theorem Zsj {n : Nat} {a : List Int} (ha : Rw n a) : (reL a).length = reN a := by
 obtain ⟨h1, h2⟩ := Z7X ha
 have := (Z3g ha _ h1).le
 unfold reL; omega
structure Rch (n : Nat) (a : List Int) (all : List (List Int)) : Prop where
 nd : all.Nodup
 mem : ∀ y, y ∈ all ↔ Rw n y ∧ MajL a y
 hd : all[0]? = some a
 srt : ∀ (k m : Nat) (x y : List Int), k ≤ m → all[k]? = some x → all[m]? = some y → apL a x ≤ apL a y
 len : all.length ≤ 9 ^ n
 pos : 0 < all.length
theorem ZFL {n : Nat} {a : List Int} (ha : Rw n a) : Rch n a (reL a) := by
 obtain ⟨h1, _⟩ := Z7X ha
 have inv := Z3g ha _ h1
 have hl := Zsj ha
 have inv' : BInv (DwR n a) rbL (apL a) a (reL a) (reL a).length := by rw [hl]; exact inv
 refine ⟨inv.nd, ZQ6 (lev ha) inv', inv.hd, inv.srt, Zqa ha inv.nd inv.sub, ?_⟩
 exact (List.getElem?_eq_some_iff.1 inv.hd).1
theorem ZPE {n : Nat} {a : List Int} (ha : Rw n a) {i : Nat} (h : ∀ j, j < i → j < (bfR a j).length) {x : List Int} (hx : (bfR a i)[i]? = some x) {l : List Int} (hl : l ∈ rbL x) (hno : l ∉ bfR a i) : apL a l = apL a x + 1 := by
 have inv := Z3g ha i h
 have hs := (ZkB (lev ha) inv hx).2
 obtain ⟨new, e, _, _, c⟩ := Z2T (rbL x) (bfR a i)
 have hm := c l hl
 rw [List.mem_append] at hm
 exact hs new e l (hm.resolve_left hno)
theorem ZNB {a b : Nat → Int} : ∀ n, (∀ k, k < n → 0 ≤ b k ∧ 0 ≤ a k ∧ a k ≤ 8) → ap a b n ≤ 8 * n
 | 0, _ => by simp [ap, ps]
 | n + 1, h => by
   have ih := ZNB (a := a) (b := b) n fun k hk => h k (by omega)
   have := h n (by omega)
   unfold ap at ih ⊢
   simp only [ps]
   omega
theorem Z04U {n : Nat} {a b : List Int} (ha : Rw n a) (hb : Rw n b) : apL a b ≤ 8 * n := by
 have c := Z0D a b
 have h := ZNB (a := rowF a) (b := rowF b) a.length fun k hk => by
   rw [ha.len] at hk
   have h1 := ZV ha.row k (by rw [ha.len]; exact hk)
   have h2 := ZV hb.row k (by rw [hb.len]; exact hk)
   omega
 rw [ha.len] at h
 rw [ha.len] at c
 omega
end Go.AM.Rub
end
noncomputable section
namespace Go.AM.Ytfmnoohhhokicaa
open Go Go.AM Go.AM.Rub
abbrev rbT (row : List Int) (n : Nat) (x : Bool) (out : List (List Int)) (i : Nat) : St :=
 ([(9, .int .i64 i), (8, .int .i64 n), (3, oV 50 1 out.length), (0, .imm (ics row) n x)], oH 50 (lcs out))
theorem ocvL (k : Nat) (L : List (List Int)) : (L = [] ∧ oV k 1 L.length = .nilsl ∧ oH k (lcs L) = []) ∨ (0 < L.length ∧ oV k 1 L.length = .ref k 0 L.length L.length L.length 1 false ∧ oH k (lcs L) = [(k, ⟨.row, lcs L⟩)]) := by
 cases L with
 | nil => exact .inl ⟨rfl, rfl, rfl⟩
 | cons x L => exact .inr ⟨by simp, Z20 (by simp), Z3j (by simp)⟩
theorem Z036 {C : Callee} {row : List Int} {n : Nat} {x : Bool} (hC : RbC C row n) (h : Rw n row) (h6 : n ≤ 6) (i : Nat) (hi : i < n) :
   ∃ s', (execA E C (fg 106) 0 54 [] 1000000 Z4L) (rbT row n x (rbO row n i) i) = some (.normal, s') ∧ headA [] s' = rbT row n x (rbO row n (i + 1)) (i + 1) := by
 have hl := h.len
 have hlen : (ics row).length = n := by rw [Z4, hl]
 have b0 := Zdg row n i
 have hb : ∀ m, m ≤ n → (rbI row i (rbO row n i) m).length ≤ 100 := fun m hm => by
   have := ZdC row i (rbO row n i) m
   have : i * n ≤ 6 * 6 := Nat.mul_le_mul (by omega) h6
   omega
 have hloop := loopM (f := (execA E C (fg 106) 0 54 [] 1000000 Z3e)) (E0 := []) (fun j => rbS row n x i (rbI row i (rbO row n i) j) j) n (fun j hj => Z08a hC h h6 hi (hb j (by omega)) (fun l hl => by
     have := (ZNW h hi (by omega) hl).len; omega) j hj) (by
     simp only [rbS, rbI]
     rcases ocvL 50 (rbO row n i) with ⟨_, o1, o2⟩ | ⟨_, o1, o2⟩ <;> rw [o1, o2] <;> rfl) (by omega)
   (e := .exit 2) (se := ([(15, .bool false), (14, .int .i64 n), (13, .int .i64 n), (9, .int .i64 i), (8, .int .i64 n), (4, .int .i64 i), (3, oV 50 1 (rbO row n (i + 1)).length), (0, .imm (ics row) n x)], oH 50 (lcs (rbO row n (i + 1)))))
   (by
     have e : rbI row i (rbO row n i) n = rbO row n (i + 1) := rfl
     simp only [rbS, e]
     rcases ocvL 50 (rbO row n (i + 1)) with ⟨_, o1, o2⟩ | ⟨_, o1, o2⟩ <;> rw [o1, o2] <;> simp (disch := omega) only [ZF, stp, just, Rd.bind, Rd.run, Rd.opt, upds, aBin, aInt, Nat.reduceEqDiff, Nat.reduceLeDiff, ↓reduceIte, Z2b]) (by simp)
 have g1 : (i : Int) < n := by omega
 simp only [rbS, rbI, cl0] at hloop
 simp only [rbT]
 generalize rbO row n (i + 1) = L2 at *
 generalize rbO row n i = L1 at *
 rcases ocvL 50 L1 with ⟨_, o1, o2⟩ | ⟨_, o1, o2⟩ <;> rw [o1, o2] at hloop ⊢ <;> rcases ocvL 50 L2 with ⟨_, p1, p2⟩ | ⟨_, p1, p2⟩ <;> rw [p1, p2] at hloop ⊢ <;>
   simp (disch := omega) only [ZF, stp, just, Rd.bind, Rd.run, Rd.opt, upds, aLen, Z3, aBin, aInt, Nat.reduceBEq, Nat.reduceEqDiff, Nat.reduceLeDiff, ↓reduceIte, reduceCtorEq, ZT, Z2b, g1, hloop, Zn (show i < 1000000 by omega)] <;> exact ⟨_, rfl, rfl⟩
theorem ZqM {C : Callee} {row : List Int} {n : Nat} {x : Bool} (hC : RbC C row n) (h : Rw n row) (h6 : n ≤ 6) :
   (rbL row = [] ∧ ∃ H, bodyA E C fg 1000000 106 [.imm (ics row) n x] [] 0 = some (.nilsl, H)) ∨
   (0 < (rbL row).length ∧ ∃ H, bodyA E C fg 1000000 106 [.imm (ics row) n x] [] 0 = some (.ref 50 0 (rbL row).length (rbL row).length (rbL row).length 1 false, H) ∧ hget H 50 = some ⟨.row, lcs (rbL row)⟩) := by
 have hl := h.len
 have hlen : (ics row).length = n := by rw [Z4, hl]
 have eL : rbL row = rbO row n n := by unfold rbL; rw [hl]
 have hloop := loopM (f := (execA E C (fg 106) 0 54 [] 1000000 Z4L)) (E0 := []) (fun i => rbT row n x (rbO row n i) i) n (fun i hi => Z036 hC h h6 i hi) rfl (by omega)
   (e := .exit 0) (se := ([(10, .bool false), (9, .int .i64 n), (8, .int .i64 n), (3, oV 50 1 (rbL row).length), (0, .imm (ics row) n x)], oH 50 (lcs (rbL row))))
   (by
     rw [eL]
     simp only [rbT]
     rcases ocvL 50 (rbO row n n) with ⟨_, o1, o2⟩ | ⟨_, o1, o2⟩ <;> rw [o1, o2] <;> simp (disch := omega) only [ZF, stp, just, Rd.bind, Rd.run, Rd.opt, upds, aBin, aInt, Nat.reduceEqDiff, Nat.reduceLeDiff, ↓reduceIte, Z2b]) (by simp)
 have e0 : oH 50 (lcs (rbO row n 0)) = [] := rfl
 have e1 : oV 50 1 (rbO row n 0).length = .nilsl := rfl
 simp only [rbT, e0, e1, cl0] at hloop
 rcases ocvL 50 (rbL row) with ⟨hn, o1, o2⟩ | ⟨hp, o1, o2⟩ <;> rw [o1, o2] at hloop
 · refine .inl ⟨hn, ?_⟩
   simp (disch := omega) only [ZF, Z5, stp, just, Rd.bind, Rd.run, upds, resA, resL, aLen, Z3, Nat.reduceBEq, Nat.reduceEqDiff, Nat.reduceLeDiff, ↓reduceIte, reduceCtorEq, ZT, Z2b, hloop]
   exact ⟨_, rfl⟩
 · refine .inr ⟨hp, ?_⟩
   simp (disch := omega) only [ZF, Z5, stp, just, Rd.bind, Rd.run, upds, resA, resL, aLen, Z3, Nat.reduceBEq, Nat.reduceEqDiff, Nat.reduceLeDiff, ↓reduceIte, reduceCtorEq, ZT, Z2b, hloop]
   exact ⟨_, rfl, rfl⟩
theorem Zpz {d : Nat} {site : Nat → Nat} {seen : List Nat} {row : List Int} {n : Nat} {x : Bool} (h : Rw n row) (h0 : 0 < n) (h6 : n ≤ 6) : aBack site true seen (thaw (kF (d + 7)) 106 [.imm (ics row) n x] [] 0) =
   if rbL row = [] then .pure (.nilsl, []) else Z0l (site 0) seen (fun k => .ref k 0 (rbL row).length (rbL row).length (rbL row).length 1 false) ⟨.row, lcs (rbL row)⟩ := by
 rcases ZqM (x := x) (rbC d h.len h0 h6) h h6 with ⟨e, H, h1⟩ | ⟨hp, H, h1, h2⟩
 · rw [if_pos e]
   exact ZFc ⟨H, by rw [Z0H rfl]; exact h1⟩
 · rw [if_neg (fun e => by rw [e] at hp; simp at hp)]
   exact Z21 (by rw [Z0H rfl]; exact h1) h2 (ZQ _)
end Go.AM.Ytfmnoohhhokicaa
end
noncomputable section
namespace Go.AM.Ytfmnoohhhokicaa
open Go Go.AM Go.AM.Rub
theorem ZSQ {d : Nat} {l m : List Int} {x : Bool} (hl : m.length ≤ 1000) : rsOf (bodyA E (kF (d + 1)) fg 1000000 107 [.imm (ics l) l.length x, .iptr [.imm (ics m) m.length false] 0] [] 0) = some (.bool (decide (m = l))) := by
 have hs := fun (site : Nat → Nat) seen => Z5x (d := d) (site := site) (seen := seen) (Z8r m false) (Z8r l x) hl
 generalize kF (d + 1) = C at *
 simp (disch := omega) only [ZF, Z5, stp, just, Rd.bind, Rd.run, Rd.opt, upds, rdCells, aLoad, resA, resL, Nat.reduceBEq, Nat.reduceEqDiff, Nat.reduceLeDiff, ↓reduceIte, reduceCtorEq, aCall, snaps, ZT, Z0a7, hs]
theorem pr2 (d : Nat) (m : List Int) {L : List (List Int)} (hL : m.length ≤ 1000) : PrC (kF (d + 2)) 107 (.imm (ics m) m.length false) (fun l => decide (m = l)) L :=
 ⟨⟨_, ZCL⟩, fun _ _ => rfl, fun _ _ _ _ => Z1m (Z1Z rfl (ZSQ hL))⟩
theorem ZOD (m : List Int) (L : List (List Int)) : L.any (fun l => decide (m = l)) = decide (m ∈ L) := by
 rw [Bool.eq_iff_iff, List.any_eq_true, decide_eq_true_eq]
 constructor
 · rintro ⟨x, hx, e⟩; rw [of_decide_eq_true e]; exact hx
 · intro h; exact ⟨m, h, decide_eq_true rfl⟩
theorem con2 {d : Nat} {m : List Int} {a : AV} {L : List (List Int)} (ha : LV L a) (hL : m.length ≤ 1000) (hl : L.length ≤ 900000) {site : Nat → Nat} {seen : List Nat} :
   aBack site true seen (thaw (kF (d + 4)) 73 [a, .clo 107 [.iptr [.imm (ics m) m.length false] 0]] [] 0) = .pure (.bool (decide (m ∈ L)), []) := by
 have := ZkA (site := site) (seen := seen) (pr2 d m (L := L) hL) ha hl (fun _ => rfl)
 rw [ZOD] at this
 exact this
structure ReC (C : Callee) (n : Nat) : Prop where
 co : ∀ (site : Nat → Nat) seen m a L, LV L a → L.length ≤ 900000 → m.length = n → aBack site true seen (thaw C 73 [a, .clo 107 [.iptr [.imm (ics m) n false] 0]] [] 0) = .pure (.bool (decide (m ∈ L)), [])
 rb : ∀ (site : Nat → Nat) seen row x, Rw n row → aBack site true seen (thaw C 106 [.imm (ics row) n x] [] 0) = if rbL row = [] then .pure (.nilsl, []) else Z0l (site 0) seen (fun k => .ref k 0 (rbL row).length (rbL row).length (rbL row).length 1 false) ⟨.row, lcs (rbL row)⟩
theorem reC (d : Nat) {n : Nat} (h0 : 0 < n) (h6 : n ≤ 6) : ReC (kF (d + 7)) n :=
 ⟨fun site seen m a L h1 h2 h3 => by subst h3; exact con2 (d := d + 3) h1 (by omega) h2, fun site seen row x h => Zpz (d := d) h h0 h6⟩
def farL (a : List Int) (L : List (List Int)) : List Int := L.map fun b => (apL a b : Int)
theorem Zm0 (a : List Int) (L : List (List Int)) : (farL a L).length = L.length := by simp [farL]
theorem ZPt {a : List Int} {L : List (List Int)} {k : Nat} {b : List Int} (h : L[k]? = some b) : (farL a L)[k]? = some (apL a b : Int) := by simp [farL, h]
abbrev riI (a : List Int) (nbs all : List (List Int)) (i k : Nat) : St :=
 ([(24, .int .i64 k), (23, .int .i64 nbs.length), (22, .ref 22 0 nbs.length nbs.length nbs.length 1 false), (6, .int .i64 i), (5, .ref 11 0 all.length all.length all.length 1 false), (4, .ref 10 0 all.length all.length all.length 1 false)],
   [(10, ⟨.row, lcs all⟩), (11, ⟨.row, ics (farL a all)⟩), (22, ⟨.row, lcs nbs⟩)])
theorem Z08w {C : Callee} {n : Nat} {a x : List Int} {nbs all : List (List Int)} (hC : ReC C n) (ha : all.length ≤ 800000) (hn : nbs.length ≤ 100) {i : Nat} (hi : i < all.length) (hx : all[i]? = some x) (hxf : apL a x ≤ 1000) (k : Nat) {l : List Int} (hk : nbs[k]? = some l) (hl : l.length = n) (hD : l ∉ all → apL a l = apL a x + 1) :
   ∃ s', (execA E C (fg 63) 0 47 [] 1000000 Z3u) (riI a nbs all i k) = some (.normal, s') ∧ headA [] s' = riI a nbs (ad all l) i (k + 1) := by
 have hkl := (List.getElem?_eq_some_iff.1 hk).1
 have hat := Z5k hk
 rw [hl] at hat
 have hln := ZQ nbs
 have hla := ZQ all
 have hta := Zfz all
 have hfl : (ics (farL a all)).length = all.length := by rw [Z4, Zm0]
 have htf : List.take all.length (ics (farL a all)) = ics (farL a all) := List.take_of_length_le (by omega)
 have hfa := Z3y (ZPt (a := a) hx)
 have hco := fun (site : Nat → Nat) seen ex => hC.co site seen l (.imm (lcs all) all.length ex) all (.inr ⟨ex, rfl⟩) (by omega) hl
 have g1 : (k : Int) < nbs.length := by omega
 have g2 : (i : Int) < all.length := by omega
 have w : wrp .i64 ((apL a x : Int) + 1) = (apL a x : Int) + 1 := Z0d (by omega)
 have had : ad all l = if l ∈ all then all else all ++ [l] := rfl
 rw [had]
 by_cases hm : l ∈ all
 · rw [if_pos hm]
   rw [decide_eq_true hm] at hco
   simp only [riI]
   generalize ics (farL a all) = F at *
   generalize lcs all = A at *
   generalize all.length = m at *
   generalize lcs nbs = NB at *
   generalize nbs.length = nn at *
   simp (disch := omega) only [ZF, stp, opBox, justO, just, Rd.bind, Rd.run, Rd.opt, upds, acells, zeroCells, tsz, elemT, rdCells, aLoad, aStore, opStore, fresh, Z2, aNum, Z3, aBin, aInt, putC, evO, Nat.reduceAdd, Nat.reduceLT, Nat.reduceBEq, Nat.reduceEqDiff, Nat.reduceLeDiff, ↓reduceIte, reduceCtorEq, stpT, Rd.foot, Z9, ZI, partsOf, fillA, repC, ZU, aAppend, srcOf, window, aUn, aCall, snaps, ZT, F_63, hat, hln, hla, hta, hco, g1, Zn (show k < 1000000 by omega)]
   exact ⟨_, rfl, rfl⟩
 · rw [if_neg hm]
   rw [decide_eq_false hm] at hco
   have s1 := Zo7 all l
   rw [hl] at s1
   have s2 := Z4Y (farL a all) ((apL a x : Int) + 1)
   have e2 : farL a all ++ [(apL a x : Int) + 1] = farL a (all ++ [l]) := by
     have := hD hm
     simp only [farL, List.map_append, List.map_cons, List.map_nil, this]
     simp
   rw [e2] at s2
   have hno : ¬ all.length + 1 ≤ all.length := by omega
   simp only [riI, List.length_append, List.length_singleton]
   rw [← s1, ← s2]
   generalize ics (farL a all) = F at *
   generalize lcs all = A at *
   generalize all.length = m at *
   generalize lcs nbs = NB at *
   generalize nbs.length = nn at *
   simp (disch := omega) only [ZF, stp, opBox, justO, just, Rd.bind, Rd.run, Rd.opt, upds, acells, zeroCells, tsz, elemT, rdCells, aLoad, aStore, opStore, fresh, Z2, aNum, Z3, aBin, aInt, putC, evO, Nat.reduceAdd, Nat.reduceLT, Nat.reduceBEq, Nat.reduceEqDiff, Nat.reduceLeDiff, ↓reduceIte, reduceCtorEq, stpT, Rd.foot, writing, Zj, Tr.empty, Zl, apartT, disj, Z9, ZI, partsOf, fillA, repC, ZU, aAppend, srcOf, window, aUn, aCall, snaps, ZT, F_63, hat, hln, hla, hta, hfl, htf, hfa, hco, g1, g2, w, hno, Zm6 (show m + 1 ≤ 1000000 by omega), Z4E (show m + 1 ≤ 1000000 by omega), Zn (show k < 1000000 by omega)]
   exact ⟨_, rfl, rfl⟩
abbrev reS (a : List Int) (all : List (List Int)) (i : Nat) : St :=
 ([(6, .int .i64 i), (5, .ref 11 0 all.length all.length all.length 1 false), (4, .ref 10 0 all.length all.length all.length 1 false)], [(10, ⟨.row, lcs all⟩), (11, ⟨.row, ics (farL a all)⟩)])
theorem ZXB (all : List (List Int)) (ls : List (List Int)) (l : List Int) : addN all (ls ++ [l]) = ad (addN all ls) l := by
 rw [Z5e]; unfold ad; by_cases h : l ∈ addN all ls <;> simp [h]
theorem Z8k : ∀ (ls all : List (List Int)), (addN all ls).length ≤ all.length + ls.length
 | [], all => by simp [addN]
 | l :: ls, all => by
   simp only [addN, List.length_cons]
   split
   · have := Z8k ls all; omega
   · have := Z8k ls (all ++ [l]); rw [List.length_append, List.length_singleton] at this; omega
theorem Z07O {C : Callee} {n : Nat} {a : List Int} (hC : ReC C n) (h : Rw n a) (h6 : n ≤ 6) {i : Nat} (hs : ∀ j, j ≤ i → j < (bfR a j).length) :
   ∃ s', (execA E C (fg 63) 0 47 [] 1000000 Z6I) (reS a (bfR a i) i) = some (.normal, s') ∧ headA [] s' = reS a (bfR a (i + 1)) (i + 1) := by
 have inv := Z3g h i fun j hj => hs j (by omega)
 have hi := hs i (Nat.le_refl _)
 have hx : (bfR a i)[i]? = some (bfR a i)[i] := List.getElem?_eq_getElem hi
 have e : bfR a (i + 1) = addN (bfR a i) (rbL (bfR a i)[i]) := by simp only [bfR, hx]
 have hfar := fun l => ZPE h (fun j hj => hs j (by omega)) hx (l := l)
 rw [e]
 have hxr := (inv.sub _ (List.mem_of_getElem? hx)).1
 have hxf := Z04U h hxr
 have hlen := Zqa h inv.nd inv.sub
 have h9 : 9 ^ n ≤ 531441 := by have := Nat.pow_le_pow_right (n := 9) (by omega) h6; omega
 generalize bfR a i = all at *
 generalize hxx : all[i] = x at *
 clear hxx
 have hnb : (rbL x).length ≤ 100 := by
   have := Zdg x x.length x.length
   have h1 := hxr.len
   have h2 : x.length * x.length ≤ 6 * 6 := Nat.mul_le_mul (by omega) (by omega)
   unfold rbL; omega
 have hla := ZQ all
 have hat := Z5k hx
 rw [hxr.len] at hat
 have hrb := fun (site : Nat → Nat) seen y => hC.rb site seen x y hxr
 have g1 : (i : Int) < all.length := by omega
 by_cases hn : rbL x = []
 · rw [hn]
   have e2 : addN all [] = all := rfl
   rw [e2]
   simp only [if_pos hn] at hrb
   have hloop := Z8Y (f := (execA E C (fg 63) 0 47 [] 1000000 Z3u)) (E0 := []) (s0 := ([(24, .int .i64 0), (23, .int .i64 0), (22, .nilsl), (6, .int .i64 i), (5, .ref 11 0 all.length all.length all.length 1 false), (4, .ref 10 0 all.length all.length all.length 1 false)], [(10, ⟨.row, lcs all⟩), (11, ⟨.row, ics (farL a all)⟩)])) rfl
     (e := .exit 2) (se := ([(25, .bool false), (24, .int .i64 0), (23, .int .i64 0), (22, .nilsl), (6, .int .i64 i), (5, .ref 11 0 all.length all.length all.length 1 false), (4, .ref 10 0 all.length all.length all.length 1 false)], [(10, ⟨.row, lcs all⟩), (11, ⟨.row, ics (farL a all)⟩)]))
     (by simp (disch := omega) only [ZF, stp, just, Rd.bind, Rd.run, Rd.opt, upds, aBin, aInt, Nat.reduceEqDiff, Nat.reduceLeDiff, ↓reduceIte, F_63]) (by simp)
   simp only [reS]
   generalize ics (farL a all) = F at *
   generalize lcs all = A at *
   generalize all.length = m at *
   simp (disch := omega) only [ZF, stp, just, Rd.bind, Rd.run, Rd.opt, upds, tsz, rdCells, aLoad, Z2, aNum, aLen, Z3, aBin, aInt, Nat.reduceLT, Nat.reduceBEq, Nat.reduceEqDiff, Nat.reduceLeDiff, ↓reduceIte, aCall, snaps, ZT, F_63, hla, hat, hrb, hloop, g1, Zn (show i < 1000000 by omega)]
   exact ⟨_, rfl, rfl⟩
 · simp only [if_neg hn] at hrb
   have key : ∀ k, k ≤ (rbL x).length → (addN all ((rbL x).take k)).length ≤ all.length + k ∧ (∀ l ∈ all, l ∈ addN all ((rbL x).take k)) ∧ (addN all ((rbL x).take k))[i]? = some x := by
     intro k hk
     obtain ⟨new, e, _, _, _⟩ := Z2T ((rbL x).take k) all
     have hle := Z8k ((rbL x).take k) all
     rw [List.length_take] at hle
     refine ⟨by omega, fun l hl => by rw [e]; exact List.mem_append_left _ hl, ?_⟩
     rw [e, List.getElem?_append_left hi]; exact hx
   have hloop := loopM (f := (execA E C (fg 63) 0 47 [] 1000000 Z3u)) (E0 := []) (fun k => riI a (rbL x) (addN all ((rbL x).take k)) i k) (rbL x).length (fun k hk => by
       obtain ⟨q1, q2, q3⟩ := key k (by omega)
       have hk2 : (rbL x)[k]? = some (rbL x)[k] := List.getElem?_eq_getElem hk
       have h1 : (rbL x).take (k + 1) = (rbL x).take k ++ [(rbL x)[k]] := by rw [List.take_add_one, hk2]; rfl
       have hm := List.mem_of_getElem? hk2
       simp only [h1, ZXB]
       exact Z08w hC (by omega) hnb (List.getElem?_eq_some_iff.1 q3).1 q3 (by omega) k hk2 (ZPv hxr hm).len (fun hno => hfar _ hm fun hh => hno (q2 _ hh))) rfl (by omega)
     (e := .exit 2) (se := ([(25, .bool false), (24, .int .i64 (rbL x).length), (23, .int .i64 (rbL x).length), (22, .ref 22 0 (rbL x).length (rbL x).length (rbL x).length 1 false), (6, .int .i64 i), (5, .ref 11 0 (addN all (rbL x)).length (addN all (rbL x)).length (addN all (rbL x)).length 1 false), (4, .ref 10 0 (addN all (rbL x)).length (addN all (rbL x)).length (addN all (rbL x)).length 1 false)], [(10, ⟨.row, lcs (addN all (rbL x))⟩), (11, ⟨.row, ics (farL a (addN all (rbL x)))⟩), (22, ⟨.row, lcs (rbL x)⟩)]))
     (by
       simp only [riI, List.take_length]
       simp (disch := omega) only [ZF, stp, just, Rd.bind, Rd.run, Rd.opt, upds, aBin, aInt, Nat.reduceEqDiff, Nat.reduceLeDiff, ↓reduceIte, F_63]) (by simp)
   have e2 : addN all [] = all := rfl
   have hln := ZQ (rbL x)
   simp only [riI, List.take_zero, e2, cl0] at hloop
   simp only [reS]
   generalize ics (farL a (addN all (rbL x))) = F2 at *
   generalize lcs (addN all (rbL x)) = A2 at *
   generalize (addN all (rbL x)).length = m2 at *
   generalize ics (farL a all) = F at *
   generalize lcs all = A at *
   generalize all.length = m at *
   simp (disch := omega) only [ZF, stp, just, Rd.bind, Rd.run, Rd.opt, upds, tsz, rdCells, aLoad, Z2, aNum, aLen, Z3, aBin, aInt, Nat.reduceLT, Nat.reduceBEq, Nat.reduceEqDiff, Nat.reduceLeDiff, ↓reduceIte, aCall, snaps, ZT, F_63, hla, hat, hrb, hln, hloop, g1, Zn (show i < 1000000 by omega)]
   exact ⟨_, rfl, rfl⟩
theorem ZqJ {C : Callee} {n : Nat} {a : List Int} (hC : ReC C n) (h : Rw n a) (h6 : n ≤ 6) :
   ∃ H, bodyA E C fg 1000000 63 [.imm (ics a) n false] [] 0 = some (.tup [.ref 10 0 (reL a).length (reL a).length (reL a).length 1 false, .ref 11 0 (reL a).length (reL a).length (reL a).length 1 false], H) ∧ hget H 10 = some ⟨.row, lcs (reL a)⟩ ∧ hget H 11 = some ⟨.row, ics (farL a (reL a))⟩ := by
 obtain ⟨h1, h2⟩ := Z7X h
 have hl := Zsj h
 have ok := ZFL h
 have h9 : 9 ^ n ≤ 531441 := by have := Nat.pow_le_pow_right (n := 9) (by omega) h6; omega
 have := ok.len
 have hloop := loopM (f := (execA E C (fg 63) 0 47 [] 1000000 Z6I)) (E0 := []) (fun i => reS a (bfR a i) i) (reN a) (fun i hi => Z07O hC h h6 fun j hj => h1 j (by omega)) rfl (by omega)
   (e := .exit 0) (se := ([(15, .bool false), (6, .int .i64 (reN a)), (5, .ref 11 0 (reL a).length (reL a).length (reL a).length 1 false), (4, .ref 10 0 (reL a).length (reL a).length (reL a).length 1 false)], [(10, ⟨.row, lcs (reL a)⟩), (11, ⟨.row, ics (farL a (reL a))⟩)]))
   (by
     have e : bfR a (reN a) = reL a := rfl
     have hla := ZQ (reL a)
     simp only [reS, e]
     have g1 : ¬ ((reN a : Nat) : Int) < (reL a).length := by omega
     generalize ics (farL a (reL a)) = F at *
     generalize lcs (reL a) = A at *
     generalize (reL a).length = m at *
     simp (disch := omega) only [ZF, stp, just, Rd.bind, Rd.run, Rd.opt, upds, aLen, Z3, aBin, aInt, Nat.reduceBEq, Nat.reduceEqDiff, Nat.reduceLeDiff, ↓reduceIte, ZT, F_63, hla, g1]) (by simp)
 have e0 : lcs (bfR a 0) = [.imm (ics a) n false] := by show [AV.imm (ics a) a.length false] = _; rw [h.len]
 have e1 : ics (farL a (bfR a 0)) = [.int .i64 0] := by
   have : apL a a = 0 := by
     have := (lev h).d0
     exact this
   show [AV.int .i64 (apL a a : Int)] = _
   rw [this]; rfl
 have e2 : (bfR a 0).length = 1 := rfl
 simp only [reS, e0, e1, e2, cl0] at hloop
 generalize ics (farL a (reL a)) = F at *
 generalize lcs (reL a) = A at *
 generalize (reL a).length = m at *
 simp (disch := omega) only [ZF, Z5, stp, Rd.bind, Rd.run, upds, acells, zeroCells, tsz, elemT, resA, resL, fresh, putC, evO, ofV, ofV1, Nat.reduceAdd, Nat.reduceLT, Nat.reduceBEq, Nat.reduceEqDiff, Nat.reduceLeDiff, ↓reduceIte, reduceCtorEq, Z9, ZI, partsOf, fillA, repC, snaps, ZT, F_63, hloop]
 exact ⟨_, rfl, rfl, rfl⟩
theorem Zqu {d : Nat} {site : Nat → Nat} {seen : List Nat} {n : Nat} {a : List Int} (h : Rw n a) (h0 : 0 < n) (h6 : n ≤ 6) (hs : site 1 ≠ site 0) : aBack site true seen (thaw (kF (d + 8)) 63 [.imm (ics a) n false] [] 0) =
   Z2q (site 0) (site 1) seen (fun k k' => .tup [.ref k 0 (reL a).length (reL a).length (reL a).length 1 false, .ref k' 0 (reL a).length (reL a).length (reL a).length 1 false]) ⟨.row, lcs (reL a)⟩ ⟨.row, ics (farL a (reL a))⟩ := by
 obtain ⟨H, h1, h2, h3⟩ := ZqJ (reC d h0 h6) h h6
 have l1 := ZQ (reL a)
 have l2 : (ics (farL a (reL a))).length = (reL a).length := by rw [Z4, Zm0]
 have := Zzo (site := site) (seen := seen) (C := kF (d + 8)) (f := 63) (args := [.imm (ics a) n false]) (id := 10) (id' := 11) (n := (reL a).length) (n' := (reL a).length) (sz := 1) (sz' := 1) (cells := lcs (reL a)) (cells' := ics (farL a (reL a))) (H' := H) (by rw [Z0H rfl, l1, l2]; exact h1) h2 h3 (by decide) hs
 rw [l1, l2] at this
 exact this
end Go.AM.Ytfmnoohhhokicaa
end
noncomputable section
namespace Go.AM.Ytfmnoohhhokicaa
open Go Go.AM Go.AM.Rub
theorem Zle {n : Nat} {l : List Int} (h : Rw n l) (h0 : 0 < n) (h6 : n ≤ 6) : chkR l = 0 := by
 rw [Z0O, h.len]; exact ⟨h0, h6, h⟩
end Go.AM.Ytfmnoohhhokicaa
end
noncomputable section
namespace Go.AM.Ytfmnoohhhokicaa
open Go Go.AM Go.AM.Rub
abbrev dzH (A T U K : List AV) (a : List Int) : AHeap := [(21, ⟨.froz, A⟩), (37, ⟨.froz, T⟩), (70, ⟨.row, U⟩), (120, ⟨.row, K⟩), (128, ⟨.row, ics a⟩)]
abbrev dzS (A T U K : List AV) (a : List Int) (n k j : Nat) : St := ([(6, .int .i64 j), (5, .int .i64 k), (1, .clo 77 []), (0, .ref 128 0 n n n 1 false)], dzH A T U K a)
theorem Z0a0 {d : Nat} {A T U K : List AV} {a : List Int} {n k : Nat} (ha : a.length = n) (h6 : n ≤ 8) (j : Nat) (hj : j < n) (hz : rowF a j = 0) :
   ∃ s', execA E (kF (d + 1)) (fg 76) 1240 42 (dzH A T U K a) 1000000 Z4b (dzS A T U K a n k j) = some (.normal, s') ∧ headA (dzH A T U K a) s' = dzS A T U K a n k (j + 1) := by
 have hlen : (ics a).length = n := by rw [Z4, ha]
 have a1 := Zz (l := a) (k := j) (by omega)
 rw [hz] at a1
 have hcl := fun (site : Nat → Nat) seen => Zdd (d := d) (site := site) (seen := seen) (u := 0)
 rw [decide_eq_true rfl] at hcl
 have g1 : (j : Int) < n := by omega
 simp only [dzS, dzH]
 generalize kF (d + 1) = C at *
 simp (disch := omega) only [ZF, stp, justO, just, Rd.bind, Rd.run, Rd.opt, upds, tsz, rdCells, aLoad, Z2, aNum, aLen, Z3, aBin, aInt, Nat.reduceAdd, Nat.reduceMul, Nat.reduceLT, Nat.reduceBEq, Nat.reduceEqDiff, Nat.reduceLeDiff, ↓reduceIte, reduceCtorEq, aUn, aCall, snaps, opCallV, ZT, F_76, hlen, Z3r (Zki _ _), ZhO, a1, hcl, g1, Zn (show j < 1000000 by omega)]
 exact ⟨_, rfl, rfl⟩
theorem Z07f {d : Nat} {A T U K : List AV} {a : List Int} {n k : Nat} (ha : a.length = n) (h6 : n ≤ 8) (hk : k ≤ n) (h1 : ∀ i, i < k → rowF a i ≠ 0) (h2 : ∀ i, k ≤ i → i < n → rowF a i = 0) :
   bodyA E (kF (d + 2)) fg 1000000 76 [.ref 128 0 n n n 1 false, .clo 77 []] (dzH A T U K a) 1240 = some (.ref 128 0 k n n 1 false, dzH A T U K a) := by
 have hlen : (ics a).length = n := by rw [Z4, ha]
 have htk : List.take n (ics a) = ics a := List.take_of_length_le (by omega)
 have hix := fun (site : Nat → Nat) seen x => ZXL (d := d) (site := site) (seen := seen) (x := x) ha h6 hk h1 (fun h => h2 k (Nat.le_refl _) h)
 by_cases hlt : k < n
 · simp only [if_pos hlt] at hix
   have hloop := Z3o (f := execA E (kF (d + 2)) (fg 76) 1240 42 (dzH A T U K a) 1000000 Z4b) (hd := headA (dzH A T U K a)) (dzS A T U K a n k) (n - (k + 1)) 1000000 (k + 1) (dzS A T U K a n k (k + 1)) (Z9I (by simp [dzH, Z23])) (by omega) (fun j hj1 hj2 => Z0a0 (d := d + 1) ha h6 j (by omega) (h2 j (by omega) (by omega)))
     (e := .exit 0) (se := ([(19, .bool false), (6, .int .i64 n), (5, .int .i64 k), (1, .clo 77 []), (0, .ref 128 0 n n n 1 false)], dzH A T U K a))
     (by
       rw [show k + 1 + (n - (k + 1)) = n by omega]
       simp only [dzS, dzH]
       generalize kF (d + 2) = C at *
       simp (disch := omega) only [ZF, stp, just, Rd.bind, Rd.run, Rd.opt, upds, aLen, Z3, aBin, aInt, Nat.reduceBEq, Nat.reduceEqDiff, Nat.reduceLeDiff, ↓reduceIte, reduceCtorEq, ZT, F_76, hlen]) (by simp)
   have e1 : ((k + 1 : Nat) : Int) = (k : Int) + 1 := by omega
   have w : wrp .i64 ((k : Int) + 1) = (k : Int) + 1 := Z0d (by omega)
   have g1 : ¬ (k : Int) = -1 := by omega
   have g1' : ((k : Int) == -1) = false := by rw [beq_eq_false_iff_ne]; exact g1
   have g2 : (k : Int) ≤ n := by omega
   have hsplit : a = a.take k ++ List.replicate (n - k) 0 := by
     apply List.ext_getElem
     · simp [ha]; omega
     · intro i q1 q2
       by_cases hik : i < k
       · rw [List.getElem_append_left (by simp; omega), List.getElem_take]
       · rw [List.getElem_append_right (by simp; omega), List.getElem_replicate]
         have := h2 i (by omega) (by omega)
         simpa [rowF, q1] using this
   have hput : putC (ics a) k (repC [.int .i64 0] (n - k)) = ics a := by
     have q := Zmd (List.replicate (n - k) 0) a k (by rw [List.length_replicate]; omega)
     rw [Z80, q, List.length_replicate, show k + (n - k) = n by omega, List.drop_of_length_le (by omega), List.append_nil, ← hsplit]
   simp only [dzS, dzH, e1] at hloop
   simp only [dzH]
   have hkn : k + (n - k) = n := by omega
   clear hsplit h1 h2
   generalize kF (d + 2) = C at *
   simp (disch := omega) only [ZF, Z5, stp, just, Rd.bind, Rd.run, Rd.opt, upds, zeroCells, tsz, elemT, resA, resL, aNum, Z3, aBin, aInt, Nat.reduceLT, Nat.reduceBEq, Nat.reduceEqDiff, Nat.reduceLeDiff, Int.reduceNeg, ↓reduceIte, reduceCtorEq, aCall, snaps, aSlice, aBounds, bMax, bHigh, bLow, AV.flat, ZT, F_76, hlen, htk, hix, w, g1', g2, hloop, aClear, hput, hkn]
 · have e : k = n := by omega
   subst e
   simp only [if_neg hlt] at hix
   simp only [dzH]
   clear h1 h2
   generalize kF (d + 2) = C at *
   simp (disch := omega) only [ZF, Z5, stp, just, Rd.bind, Rd.run, Rd.opt, upds, resA, resL, aBin, aInt, Nat.reduceBEq, Nat.reduceEqDiff, Nat.reduceLeDiff, Int.reduceNeg, ↓reduceIte, reduceCtorEq, aCall, snaps, F_76, hlen, htk, hix]
abbrev xtH (a T U : List Int) : AHeap := [(21, ⟨.froz, ics a⟩), (37, ⟨.row, ics T⟩), (70, ⟨.row, ics U⟩)]
abbrev xtS (a T U : List Int) (n m u i : Nat) : St := ([(97, .int .i64 i), (96, .int .i64 m), (95, .ref 37 0 m m m 1 false), (11, .ref 70 0 u u u 1 false), (9, .ref 37 0 m m m 1 false), (5, .ref 21 0 n n n 1 false)], xtH a T U)
abbrev xtI (a T U : List Int) (n m u i : Nat) (v : Int) (k : Nat) : St := ([(104, .int .i64 k), (103, .int .i64 n), (102, .ref 21 0 n n n 1 false), (97, .int .i64 i), (96, .int .i64 m), (95, .ref 37 0 m m m 1 false), (15, .int .i64 (cntL i (a.take k))), (14, .int .i64 v), (13, .int .i64 i), (11, .ref 70 0 u u u 1 false), (9, .ref 37 0 m m m 1 false), (5, .ref 21 0 n n n 1 false)], xtH a T U)
theorem Z07G {C : Callee} {a T U : List Int} {n m u i : Nat} {v : Int} (ha : a.length = n) (h6 : n ≤ 8) (k : Nat) (hk : k < n) :
   ∃ s', (execA E C (fg 16) 0 155 [] 1000000 Z4h) (xtI a T U n m u i v k) = some (.normal, s') ∧ headA [] s' = xtI a T U n m u i v (k + 1) := by
 have hlen : (ics a).length = n := by rw [Z4, ha]
 have a1 := Zz (l := a) (k := k) (by omega)
 have g1 : (k : Int) < n := by omega
 have ht : a.take (k + 1) = a.take k ++ [rowF a k] := by rw [List.take_add_one, Z3i (by omega)]; rfl
 have e := Z58 i (rowF a k) (a.take k)
 have hb := Z2z i (a.take k)
 rw [List.length_take] at hb
 simp only [xtI, xtH, ht, e]
 generalize cntL (i : Int) (a.take k) = c at *
 generalize rowF a k = w at *
 by_cases hg : w > (i : Int)
 · have w1 : wrp .i64 (c + 1) = c + 1 := Z0d (by omega)
   rw [if_pos hg]
   simp (disch := omega) only [ZF, stp, just, Rd.bind, Rd.run, Rd.opt, upds, tsz, rdCells, aLoad, Z2, aNum, aBin, aInt, Nat.reduceLT, Nat.reduceBEq, Nat.reduceEqDiff, Nat.reduceLeDiff, ↓reduceIte, ZT, F_16, hlen, a1, g1, hg, w1, Zn (show k < 1000000 by omega)]
   exact ⟨_, rfl, rfl⟩
 · rw [if_neg hg, Int.add_zero]
   simp (disch := omega) only [ZF, stp, just, Rd.bind, Rd.run, Rd.opt, upds, tsz, rdCells, aLoad, Z2, aNum, aBin, aInt, Nat.reduceLT, Nat.reduceBEq, Nat.reduceEqDiff, Nat.reduceLeDiff, ↓reduceIte, ZT, F_16, hlen, a1, g1, hg, Zn (show k < 1000000 by omega)]
   exact ⟨_, rfl, rfl⟩
theorem Z08t {C : Callee} {a T U : List Int} {n m u : Nat} (ha : a.length = n) (h6 : n ≤ 8) (hT : T = cnjL a m) (i : Nat) (hi : i < m) (hm : m ≤ 8) :
   ∃ s', (execA E C (fg 16) 0 155 [] 1000000 Z4r) (xtS a T U n m u i) = some (.normal, s') ∧ headA [] s' = xtS a T U n m u (i + 1) := by
 have hlen : (ics a).length = n := by rw [Z4, ha]
 have hlT : (ics T).length = m := by rw [Z4, hT, Zd]
 have a1 : (ics T)[i]? = some (.int .i64 (cntL i a)) := by
   have := Zz (l := T) (k := i) (by rw [hT, Zd]; exact hi)
   rw [this, hT, Z0R hi]; rfl
 have g1 : (i : Int) < m := by omega
 have hloop := loopM (f := (execA E C (fg 16) 0 155 [] 1000000 Z4h)) (E0 := []) (xtI a T U n m u i (cntL i a)) n (fun k hk => Z07G ha h6 k hk) rfl (by omega)
   (e := .exit 2) (se := (((105, .bool false) :: (xtI a T U n m u i (cntL i a) n).1 : AFr), (xtI a T U n m u i (cntL i a) n).2))
   (by
     simp only [xtI, xtH]
     simp (disch := omega) only [ZF, stp, just, Rd.bind, Rd.run, Rd.opt, upds, aBin, aInt, Nat.reduceEqDiff, Nat.reduceLeDiff, ↓reduceIte, F_16]) (by simp)
 have e0 : cntL i (a.take 0) = 0 := rfl
 have e1 : a.take n = a := List.take_of_length_le (by omega)
 simp only [xtI, xtH, e0, e1, cl0] at hloop
 simp only [xtS, xtH]
 have ii : ∀ x : Int, (x != x) = false := fun x => by simp
 generalize cntL (i : Int) a = c at *
 clear hT
 simp (disch := omega) only [ZF, stp, just, Rd.bind, Rd.run, Rd.opt, upds, tsz, rdCells, aLoad, Z2, aNum, aLen, Z3, aBin, aInt, Nat.reduceLT, Nat.reduceBEq, Nat.reduceEqDiff, Nat.reduceLeDiff, ↓reduceIte, ZT, F_16, hlen, hlT, a1, g1, hloop, Zn (show i < 1000000 by omega)]
 exact ⟨_, rfl, rfl⟩
abbrev xuS (φ : AFr) (T U : List Int) (m u : Nat) : St := (φ ++ [(11, .ref 70 0 u u u 1 false), (9, .ref 37 0 m m m 1 false)], [(37, ⟨.froz, ics T⟩), (70, ⟨.row, ics U⟩)])
theorem Z08q {C : Callee} {T U : List Int} {m u : Nat} (φ : AFr) (hφ : φ = [] ∨ φ = [(132, .bool false)]) (hT : T.length = m) (hU : U.length = u) (hm : m ≤ 8) (hu : u < m) :
   ∃ s', (execA E C (fg 16) 0 155 [] 1000000 Z4e) (xuS φ T U m u) = some (.normal, s') ∧ headA [] s' = xuS [] T (U ++ [0]) m (u + 1) := by
 have hlT : (ics T).length = m := by rw [Z4, hT]
 have hlU : (ics U).length = u := by rw [Z4, hU]
 have tU : List.take u (ics U) = ics U := List.take_of_length_le (by omega)
 have hsn := Z4Y U 0
 have g1 : (u : Int) < m := by omega
 have hno : ¬ u + 1 ≤ u := by omega
 simp only [xuS, List.nil_append]
 rw [← hsn]
 generalize ics U = UI at *
 rcases hφ with rfl | rfl <;> simp only [List.nil_append, List.cons_append] <;>
   simp (disch := omega) only [ZF, stp, just, Rd.bind, Rd.run, Rd.opt, upds, acells, zeroCells, tsz, elemT, fresh, aLen, Z3, aBin, aInt, putC, evO, ofV, ofV1, Nat.reduceAdd, Nat.reduceLT, Nat.reduceBEq, Nat.reduceEqDiff, Nat.reduceLeDiff, ↓reduceIte, reduceCtorEq, Z9, ZI, partsOf, fillA, repC, ZU, aAppend, srcOf, window, snaps, ZT, F_16, hlT, hlU, tU, hno, g1, Z4E (show u + 1 ≤ 1000000 by omega)] <;>
   exact ⟨_, rfl, rfl⟩
end Go.AM.Ytfmnoohhhokicaa
end
noncomputable section
namespace Go.AM.Ytfmnoohhhokicaa
open Go Go.AM Go.AM.Rub
def joE (a b : List Int) : Int := if pairE a b ≠ 0 then pairE a b else if whV a b < 0 then 0 else 12
theorem ZL9 {a b : List Int} : joE a b = 0 ↔ pairE a b = 0 ∧ whV a b < 0 := by
 unfold joE
 by_cases h : pairE a b = 0
 · rw [if_neg (fun e => e h)]
   by_cases hw : whV a b < 0
   · rw [if_pos hw]; exact ⟨fun _ => ⟨h, hw⟩, fun _ => rfl⟩
   · rw [if_neg hw]; exact ⟨fun e => absurd e (by decide), fun e => absurd e.2 hw⟩
 · rw [if_pos h]; exact ⟨fun e => absurd e h, fun e => absurd e.1 h⟩
end Go.AM.Ytfmnoohhhokicaa
end
noncomputable section
namespace Go.AM.Ytfmnoohhhokicaa
open Go Go.AM Go.AM.Rub
def goF (a b : List Int) (i j : Nat) : Prop := rowF a i - rowF a j ≥ 2 ∧ joE (rubL a i j) b = 0 ∧ apL (rubL a i j) b < apL a b
instance (a b : List Int) (i j : Nat) : Decidable (goF a b i j) := by unfold goF; infer_instance
def fiI (a b : List Int) (i m : Nat) : Int := if goF a b i (i + 1 + m) then 8 * i + (i + 1 + m : Nat) + 1 else 0
def fiO (a b : List Int) (n i : Nat) : Int := fe (fiI a b i) 0 (n - 1 - i)
def fiV (a b : List Int) (n : Nat) : Int := fe (fiO a b n) 0 n
noncomputable section
variable {C : Callee} {a b : List Int} {n : Nat} {x y : Bool}
end
end Go.AM.Ytfmnoohhhokicaa
end
noncomputable section
namespace Go.AM.Ytfmnoohhhokicaa
open Go Go.AM Go.AM.Rub
theorem Zs9 {n : Nat} {a : List Int} (h : Rw n a) : ∀ m j, j + m ≤ n → ps (rowF a) j ≤ ps (rowF a) (j + m)
 | 0, j, _ => Int.le_refl _
 | m + 1, j, hj => by
   have ih := Zs9 h m j (by omega)
   have := rw_b h (k := j + m) (by omega)
   rw [show j + (m + 1) = j + m + 1 by omega, ps]
   omega
end Go.AM.Ytfmnoohhhokicaa
end
noncomputable section
namespace Go.AM
end Go.AM
namespace Go.AM.Ytfmnoohhhokicaa
open Go Go.AM Go.AM.Rub
theorem loopP {E0 : AHeap} {f : St → XR} {s0 : St} (P : Nat → St → Prop) (Q : St → Prop) (n : Nat) (h0 : P 0 (headA E0 s0)) (h : ∀ i, i < n → ∀ s, P i s → ∃ s', f s = some (.normal, s') ∧ P (i + 1) (headA E0 s')) (hn : n < 1000000) {e : Ex} (he : ∀ s, P n s → ∃ se, f s = some (e, se) ∧ Q se) (hne : e ≠ .normal) :
   ∃ se, iterA f (headA E0) 1000000 s0 = some (e, se) ∧ Q se := by
 have key : ∀ (m k F : Nat) (s0 : St), k + m = n → P k (headA E0 s0) → m < F → ∃ se, iterA f (headA E0) F s0 = some (e, se) ∧ Q se := by
   intro m
   induction m with
   | zero =>
     intro k F s0 hk hp hF
     obtain ⟨F, rfl⟩ : ∃ G, F = G + 1 := ⟨F - 1, by omega⟩
     rw [Nat.add_zero] at hk
     subst hk
     obtain ⟨se, h1, h2⟩ := he _ hp
     refine ⟨se, ?_, h2⟩
     rw [Z01, h1]
     cases e with
     | normal => exact absurd rfl hne
     | ret => rfl
     | exit i => rfl
   | succ m ih =>
     intro k F s0 hk hp hF
     obtain ⟨F, rfl⟩ : ∃ G, F = G + 1 := ⟨F - 1, by omega⟩
     obtain ⟨s', h1, h2⟩ := h k (by omega) _ hp
     obtain ⟨se, h3, h4⟩ := ih (k + 1) F s' (by omega) h2 (by omega)
     refine ⟨se, ?_, h4⟩
     rw [Z01, h1, Z4a]
     exact h3
 exact key n 0 1000000 s0 (by omega) h0 (by omega)
theorem Zv5 {e : Nat → Int} {m k i : Nat} (h : fe e k m = 0) (h1 : k ≤ i) (h2 : i < k + m) : e i = 0 := (Z4l m k).1 h i h1 h2
theorem Z04B {a b : List Int} {i m : Nat} : fiI a b i m ≠ 0 ↔ goF a b i (i + 1 + m) := by
 unfold fiI
 split
 · rename_i h; exact ⟨fun _ => h, fun _ => by omega⟩
 · rename_i h; exact ⟨fun e => absurd rfl e, fun e => absurd e h⟩
theorem ZU5 {a b : List Int} {n : Nat} (h : fiV a b n = 0) : ∀ x y, x < y → y < n → ¬ goF a b x y := fun x y hxy hy hg => by
 obtain ⟨k, rfl⟩ : ∃ k, y = x + 1 + k := ⟨y - x - 1, by omega⟩
 have z : fiO a b n x = 0 := Zv5 h (i := x) (by omega) (by omega)
 exact Z04B.2 hg (Zv5 z (i := k) (by omega) (by omega))
theorem Z005 {n : Nat} {a b : List Int} (ha : Rw n a) (hb : Rw n b) (h0 : 0 < n) (h6 : n ≤ 6) (he : ps (rowF a) n = ps (rowF b) n) : joE a b = 0 ↔ MajL a b := by
 rw [ZL9, ZCS ha hb he]
 exact ⟨fun h => h.2, fun h => ⟨Z4U.2 ⟨n, h0, h6, ha, hb, he⟩, h⟩⟩
structure Fd (n : Nat) (now b : List Int) : Prop where
 ra : Rw n now
 rb : Rw n b
 mj : MajL now b
theorem Fd.sum {n : Nat} {now b : List Int} (h : Fd n now b) : ps (rowF now) n = ps (rowF b) n := by
 have := h.mj.eq
 rwa [h.ra.len] at this
theorem ZQR {n : Nat} {now : List Int} (ra : Rw n now) {x y : Nat} (r : Rb n now x y) : Rw n (rubL now x y) ∧ ps (rowF (rubL now x y)) n = ps (rowF now) n := by
 obtain ⟨rr, x', y', r', e⟩ := Z3l ra r
 refine ⟨rr, ?_⟩
 have := (Z7B ra r').eq
 rw [ra.len] at this
 rw [e]; exact this.symm
theorem Fd.go {n : Nat} {now b : List Int} (h : Fd n now b) (h0 : 0 < n) (h6 : n ≤ 6) {x y : Nat} (hxy : x < y) (hy : y < n) : goF now b x y ↔ rowF now x - rowF now y ≥ 2 ∧ MajL (rubL now x y) b ∧ apL (rubL now x y) b < apL now b := by
 unfold goF
 refine and_congr_right fun hd => ?_
 have r : Rb n now x y := Z8E h.ra (by omega) hy hd
 obtain ⟨rr, es⟩ := ZQR h.ra r
 rw [Z005 rr h.rb h0 h6 (by rw [es, h.sum])]
theorem Fd.some {n : Nat} {now b : List Int} (h : Fd n now b) (h0 : 0 < n) (h6 : n ≤ 6) (hne : now ≠ b) : fiV now b n ≠ 0 := by
 intro hz
 obtain ⟨i, j, r, r1, r2, r3, r4⟩ := Z43 h.ra h.rb h.mj hne
 refine ZU5 hz i j r.lt r.lj ((h.go h0 h6 r.lt r.lj).2 ⟨r.df, ?_, ?_⟩)
 · rw [r4]; exact r2
 · rw [r4]; omega
end Go.AM.Ytfmnoohhhokicaa
end
noncomputable section
namespace Go.AM.Ytfmnoohhhokicaa
open Go Go.AM Go.AM.Rub
theorem Zh9 {zs : List Int} {pick : Int} (hz : zs.length = 8 ∧ ∀ (i : Nat) (z : Int), zs[i]? = some z → 0 ≤ z ∧ z ≤ 255) (hp : 0 ≤ pick ∧ pick ≤ 255) (hw : ∃ H0, kF 40 17 [] [] 0 = some (.bool true, H0)) :
   rsOf (bodyA E (kF 40) fg 1000000 16 [.agg (zs.map (AV.int .u8)), .int .u8 pick] [] 0) = some (.bool true) := by
 have hwk := fun (site : Nat → Nat) seen => Z1m (site := site) (seen := seen) hw
 have pl := Z093 hz
 obtain ⟨n0, n1, n2⟩ := ZzU (m := 6) pl (by omega) (by omega)
 obtain ⟨ra, ha6⟩ := ZxD (m := 6) (t := 6) pl (by omega) (by omega) (by omega) (by omega)
 have hmd := fun (site : Nat → Nat) seen => ZDJ (d := 33) (site := site) (seen := seen) (m := 6) (t := 6) pl (by omega) (by omega) (by omega) (by omega)
 have hre := fun (site : Nat → Nat) seen hs => Zqu (d := 32) (site := site) (seen := seen) ra n0 (by omega) hs
 have ok := ZFL ra
 have hlz : (u8s zs).length = 8 := by rw [Zcy, pl.len]
 have htz : List.take 8 (u8s zs) = u8s zs := List.take_of_length_le (by omega)
 have sp := fun d => Z4T (u8s zs) (d + 10) (by simp [u8s]) (by rw [hlz]; omega)
 have ez : zs.map (AV.int .u8) = u8s zs := rfl
 rw [ez]
 clear n2 hz ez
 generalize mdR zs 6 6 = a at *
 generalize mdN zs 6 = n at *
 have hn6 : n ≤ 6 := by omega
 have h9 : 9 ^ n ≤ 531441 := by have := Nat.pow_le_pow_right (n := 9) (show 0 < 9 by omega) hn6; omega
 have okl : (reL a).length ≤ 900000 := Nat.le_trans ok.len (Nat.le_trans h9 (by decide))
 clear h9
 have okp := ok.pos
 have tb := Z4B (a := pick) (b := (reL a).length) hp.1 (by omega)
 have hj : pick.tmod (reL a).length = ((pick.tmod (reL a).length).toNat : Int) := by omega
 have hjl : (pick.tmod (reL a).length).toNat < (reL a).length := by omega
 generalize (pick.tmod (reL a).length).toNat = j at *
 have hbj : (reL a)[j]? = some (reL a)[j] := List.getElem?_eq_getElem hjl
 obtain ⟨rb, hm⟩ := (ok.mem _).1 (List.mem_of_getElem? hbj)
 have hat := Z5k hbj
 rw [rb.len] at hat
 generalize (reL a)[j]'hjl = b at *
 have hF : Fd n a b := ⟨ra, rb, hm⟩
 have hsum := hF.sum
 have ia : ∀ x, IV a (.imm (ics a) n x) := fun x => .inr ⟨x, by rw [ra.len]⟩
 have ib : ∀ x, IV b (.imm (ics b) n x) := fun x => .inr ⟨x, by rw [rb.len]⟩
 have la : (ics a).length = n := by rw [Z4, ra.len]
 have ta : List.take n (ics a) = ics a := List.take_of_length_le (by omega)
 have lb : (ics b).length = n := by rw [Z4, rb.len]
 have a0 := Zz (l := a) (k := 0) (by rw [ra.len]; exact n0)
 have b0 := Zz (l := b) (k := 0) (by rw [rb.len]; exact n0)
 have ba := rw_b ra (k := 0) n0
 have bb := rw_b rb (k := 0) n0
 have hll := ZQ (reL a)
 have w1 : wrp .i64 pick = pick := Z0d (by omega)
 have m0 : ¬ ((reL a).length : Int) = 0 := by omega
 have g1 : (j : Int) < (reL a).length := by omega
 have gn : (0 : Int) < n := by omega
 have ii : ∀ x : Int, (x != x) = false := fun x => by simp
 have hA6 : rowF a 0 ≤ 6 := ha6 _ (by
   have : rowF a 0 = a[0]'(by rw [ra.len]; exact n0) := by simp [rowF, ra.len, n0]
   rw [this]; exact List.getElem_mem _)
 have hTa := fun x => Z5c (d := 38) (ia x) (by rw [ra.len]; omega)
 have hca := Zle ra n0 hn6
 by_cases hz : rowF a 0 = 0
 · have e : turE a = 21 := by unfold turE; rw [if_neg (fun e => e hca), if_pos hz]
   have hTa := fun x => (hTa x).elim (·.2) (fun h => absurd h.1 (by rw [e]; decide))
   rw [e] at hTa
   rw [hz] at a0
   clear hm ok hF ra rb hjl
   generalize kF 40 = C at *
   generalize ics (farL a (reL a)) = F at *
   generalize lcs (reL a) = A at *
   generalize (reL a).length = q at *
   generalize u8s zs = Z at *
   generalize ics b = IB at *
   generalize ics a = IA at *
   simp (disch := omega) only [ZF, ↓gd, Z5, stp, opPick, opBox, justO, just, Rd.bind, Rd.run, Rd.opt, upds, acells, tsz, rdCells, aLoad, Zm, resA, resL, fresh, Z2, aNum, aLen, Z3, aBin, aInt, Nat.reduceAdd, Nat.reduceMul, Nat.reduceLT, Nat.reduceBEq, Nat.reduceEqDiff, Nat.reduceLeDiff, ↓reduceIte, reduceCtorEq, aCall, snaps, aConv, Int.reduceLE, Int.reduceToNat, ZT, F_16, hlz, htz, sp, hmd, hre, la, ta, hll, w1, m0, hj, g1, hat, hTa, gn, a0, hwk]
 · obtain ⟨m, hmm⟩ : ∃ m : Nat, rowF a 0 = m := ⟨(rowF a 0).toNat, by omega⟩
   have hb1 : 0 < rowF b 0 := Classical.byContradiction fun h => by
     have h1 := Zrd rb (by omega) n0 n (Nat.le_refl n)
     have h2 := Zs9 ra (n - 1) 1 (by omega)
     rw [show 1 + (n - 1) = n by omega] at h2
     have h3 : ps (rowF a) 1 = rowF a 0 := by simp [ps]
     omega
   have hb2 : rowF b 0 ≤ rowF a 0 := by
     have := hm.le 1 (by rw [ra.len]; omega)
     simpa [ps] using this
   obtain ⟨u, hu⟩ : ∃ u : Nat, rowF b 0 = u := ⟨(rowF b 0).toNat, by omega⟩
   have ea : turE a = 0 := by unfold turE; rw [if_neg (fun e => e hca), if_neg hz, if_neg (by omega)]
   have eb : turE b = 0 := by unfold turE; rw [if_neg (fun e => e (Zle rb n0 hn6)), if_neg (by omega), if_neg (by omega)]
   have hTa := fun x => (hTa x).elim (fun h => absurd ea h.1) (·.2)
   have hTb := fun x => (Z5c (d := 38) (ib x) (by rw [rb.len]; omega)).elim (fun h => absurd eb h.1) (·.2)
   have eLa : turL a = cnjL a m := by unfold turL; rw [hmm]; rfl
   have eLb : turL b = cnjL b u := by unfold turL; rw [hu]; rfl
   have hm6 : m ≤ 6 := by omega
   have hm1 : 0 < m := by omega
   have hum : u ≤ m := by omega
   rw [eLa, Zd] at hTa
   rw [eLb, Zd] at hTb
   rw [hmm] at a0 hz
   rw [hu] at b0
   have hxa : ∀ x ∈ a, x ≤ (m : Int) := fun x hx => by have := Zfp ra hx; omega
   have hxb : ∀ x ∈ b, x ≤ (u : Int) := fun x hx => by have := Zfp rb hx; omega
   have rT : Rw m (cnjL a m) := Zwm ra.len (by omega) m
   obtain ⟨k, hk⟩ : ∃ k : Nat, cntL 0 a = k := ⟨(cntL 0 a).toNat, by have := Z2z 0 a; omega⟩
   obtain ⟨k1, k2, k3⟩ := ZZU ra hk
   have k0 : 0 < k := Classical.byContradiction fun h => by
     have := k3 0 (by omega) n0
     omega
   have eT0 : rowF (cnjL a m) 0 = k := by rw [Z0R hm1]; exact hk
   have eT : turE (cnjL a m) = 0 := by unfold turE; rw [if_neg (fun e => e (Zle rT hm1 hm6)), eT0, if_neg (by omega), if_neg (by omega)]
   have iT : ∀ x, IV (cnjL a m) (.imm (ics (cnjL a m)) m x) := fun x => .inr ⟨x, by rw [rT.len]⟩
   have hTT := fun x => (Z5c (d := 38) (iT x) (by rw [rT.len]; omega)).elim (fun h => absurd eT h.1) (·.2)
   have eLT : turL (cnjL a m) = a.take k := by
     unfold turL
     rw [eT0, Int.toNat_natCast, ZB7 k1, ZAS ra hxa (by omega)]
   rw [eLT] at hTT
   have lk : (a.take k).length = k := by rw [List.length_take, ra.len]; omega
   rw [lk] at hTT
   have hcl := fun (site : Nat → Nat) seen x => ZbT (d := 39) (site := site) (seen := seen) (ex := x) ra.len n0 (by omega)
   have hsm := fun (site : Nat → Nat) seen x y => Z5x (d := 39) (site := site) (seen := seen) (l := a.take k) (m := a.take k) (a := .imm (ics (a.take k)) k x) (b := .imm (ics (a.take k)) k y) (.inr ⟨x, by rw [lk]⟩) (.inr ⟨y, by rw [lk]⟩) (by omega)
   rw [decide_eq_true rfl] at hsm
   have hdz := Z07f (d := 37) (A := ics a) (T := ics (cnjL a m)) (U := ics (cnjL b u)) (K := ics (a.take k)) ra.len (by omega) k1 k2 k3
   have hdz := (Z0H (d := 39) (f := 76) rfl [.ref 128 0 n n n 1 false, .clo 77 []] (dzH (ics a) (ics (cnjL a m)) (ics (cnjL b u)) (ics (a.take k)) a) 1240).trans hdz
   have akt : List.take k (ics a) = ics (a.take k) := ZLf a k
   have hUs : ∀ i, cnjL b (u + i) ++ [0] = cnjL b (u + (i + 1)) := fun i => by
     rw [Z5a hxb, Z5a hxb, List.append_assoc]
     congr 1
     rw [← List.replicate_succ']
   have rU : Rw m (cnjL b m) := Zwm rb.len (by omega) m
   have hpE : pairE (cnjL b m) (cnjL a m) = 0 := Z4U.2 ⟨m, hm1, hm6, rU, rT, by
     have e1 := Z34 ra (m := m) hxa
     have e2 := Z34 rb (m := m) (fun x hx => by have := hxb x hx; omega)
     have e3 : totL a = totL b := by rw [← Z0W, ← Z0W, ra.len, rb.len]; exact hsum
     rw [← Z0W, Zd] at e1 e2
     rw [e1, e2, e3]⟩
   have hsT : ps (rowF (cnjL b m)) m = ps (rowF (cnjL a m)) m := by
     have e1 := Z34 ra (m := m) hxa
     have e2 := Z34 rb (m := m) (fun x hx => by have := hxb x hx; omega)
     have e3 : totL a = totL b := by rw [← Z0W, ← Z0W, ra.len, rb.len]; exact hsum
     rw [← Z0W, Zd] at e1 e2
     rw [e1, e2, e3]
   have hbec : becV (cnjL b m) (cnjL a m) = true := decide_eq_true ⟨hpE, (ZCS rU rT hsT).2 (ZHv ra rb hm hxa (fun x hx => by have := hxb x hx; omega))⟩
   have hBe := fun (site : Nat → Nat) seen x y => Zkh (d := 37) (site := site) (seen := seen) (a := .imm (ics (cnjL b m)) m x) (b := .imm (ics (cnjL a m)) m y) (.inr ⟨x, by rw [rU.len]⟩) (iT y) (by rw [rU.len]; omega) (by rw [rT.len]; omega)
   rw [hbec, hpE] at hBe
   have hloop1 := loopMS (f := execA E (kF 40) (fg 16) 0 155 [] 1000000 Z4r) (E0 := []) (s0 := ((xtS a (cnjL a m) (cnjL b u) n m u 0).1, [(2, ⟨.box, u8s zs⟩), (21, ⟨.froz, ics a⟩), (24, ⟨.row, lcs (reL a)⟩), (37, ⟨.row, ics (cnjL a m)⟩), (70, ⟨.row, ics (cnjL b u)⟩), (179, ⟨.row, ics (farL a (reL a))⟩)]))
     (xtS a (cnjL a m) (cnjL b u) n m u) m (fun i hi => Z08t ra.len (by omega) rfl i hi (by omega)) rfl (by omega)
     (e := .exit 0) (se := (((98, .bool false) :: (xtS a (cnjL a m) (cnjL b u) n m u m).1 : AFr), xtH a (cnjL a m) (cnjL b u)))
     (by
       generalize kF 40 = C at *
       simp only [xtS, xtH]
       simp (disch := omega) only [ZF, stp, just, Rd.bind, Rd.run, Rd.opt, upds, aBin, aInt, Nat.reduceEqDiff, Nat.reduceLeDiff, ↓reduceIte, F_16]) (by simp)
   obtain ⟨se2, hloop2, rfl⟩ := loopP (f := execA E (kF 40) (fg 16) 0 155 [] 1000000 Z4e) (E0 := []) (e := .exit 4) (s0 := ([(132, .bool false), (11, .ref 70 0 u u u 1 false), (9, .ref 37 0 m m m 1 false)], [(21, ⟨.froz, ics a⟩), (37, ⟨.froz, ics (cnjL a m)⟩), (70, ⟨.row, ics (cnjL b u)⟩), (120, ⟨.row, ics (a.take k)⟩), (128, ⟨.row, ics a⟩)]))
     (fun i s => ∃ φ : AFr, (φ = [] ∨ φ = [(132, .bool false)]) ∧ s = xuS φ (cnjL a m) (cnjL b (u + i)) m (u + i)) (fun s => s = ([(137, .bool false), (11, .ref 70 0 m m m 1 false), (9, .ref 37 0 m m m 1 false)], [(37, ⟨.froz, ics (cnjL a m)⟩), (70, ⟨.row, ics (cnjL b m)⟩)])) (m - u)
     ⟨[(132, .bool false)], .inr rfl, rfl⟩
     (by
       rintro i hi s ⟨φ, hφ, rfl⟩
       obtain ⟨s', h1, h2⟩ := Z08q (C := kF 40) (T := cnjL a m) (U := cnjL b (u + i)) φ hφ (Zd _ _) (Zd _ _) (by omega) (show u + i < m by omega)
       rw [hUs] at h2
       exact ⟨s', h1, [], .inl rfl, h2⟩) (by omega)
     (by
       rintro s ⟨φ, hφ, rfl⟩
       rw [show u + (m - u) = m by omega]
       refine ⟨_, ?_, rfl⟩
       have hlT : (ics (cnjL a m)).length = m := by rw [Z4, Zd]
       have hlU : (ics (cnjL b m)).length = m := by rw [Z4, Zd]
       generalize kF 40 = C at *
       rcases hφ with rfl | rfl <;> simp only [xuS, List.nil_append, List.cons_append] <;>
         simp (disch := omega) only [ZF, stp, just, Rd.bind, Rd.run, Rd.opt, upds, aLen, Z3, aBin, aInt, Nat.reduceBEq, Nat.reduceEqDiff, Nat.reduceLeDiff, ↓reduceIte, ZT, F_16, hlT, hlU]) (by simp)
   have hlT : (ics (cnjL a m)).length = m := by rw [Z4, Zd]
   have tT : List.take m (ics (cnjL a m)) = ics (cnjL a m) := List.take_of_length_le (by omega)
   have hlU : (ics (cnjL b u)).length = u := by rw [Z4, Zd]
   have hlU2 : (ics (cnjL b m)).length = m := by rw [Z4, Zd]
   have tU2 : List.take m (ics (cnjL b m)) = ics (cnjL b m) := List.take_of_length_le (by omega)
   have lka : (ics (a.take k)).length = k := by rw [Z4, lk]
   have tka : List.take k (ics (a.take k)) = ics (a.take k) := List.take_of_length_le (by omega)
   have z1 : ¬ (m : Int) = 0 := by omega
   have z1' : ((m : Int) == 0) = false := by rw [beq_eq_false_iff_ne]; exact z1
   have z2 : ¬ (m : Int) > 6 := by omega
   simp only [xtH, cl0] at hloop1
   simp only [dzH] at hdz
   clear hm ok hF ra rb rT rU hjl hUs hxa hxb hbec hpE hsT k2 k3
   generalize kF 40 = C at *
   generalize ics (farL a (reL a)) = F at *
   generalize lcs (reL a) = A at *
   generalize (reL a).length = q at *
   generalize u8s zs = Z at *
   generalize ics b = IB at *
   generalize ics (a.take k) = IK at *
   generalize ics a = IA at *
   generalize ics (cnjL a m) = IT at *
   generalize ics (cnjL b u) = IU at *
   generalize ics (cnjL b m) = IV2 at *
   simp (maxSteps := 1000000) (disch := omega) only [ZF, ↓gd, Z5, stp, opPick, opBox, justO, just, Rd.bind, Rd.run, Rd.opt, upds, acells, tsz, rdCells, aLoad, Zm, resA, resL, fresh, Z2, aNum, aLen, Z3, aBin, aInt, Nat.reduceAdd, Nat.reduceMul, Nat.reduceLT, Nat.reduceBEq, Nat.reduceEqDiff, Nat.reduceLeDiff, ↓reduceIte, reduceCtorEq, aUn, mutX, aCall, snaps, aConv, Int.reduceEq, Int.reduceLE, Int.reduceToNat, ZT, F_16, hlz, htz, sp, hmd, hre, la, lb, ta, hll, w1, m0, hj, g1, hat, hTa, hTb, hTT, gn, a0, b0, z1', z2, hlT, tT, hlU, hlU2, tU2, lka, tka, hloop1, hcl, hdz, akt, hsm, hloop2, hBe, hwk, if_pos]
end Go.AM.Ytfmnoohhhokicaa
end
noncomputable section
namespace Go.AM.Ytfmnoohhhokicaa
open Go Go.AM
theorem ZyV : isTrue (kF 40 17 [] [] 0) = true := by kernel_rfl
theorem soundK (d : Nat) : CS Proofs.Try.prog E (kF d) := ZFb (Z7N envOk mixed fr fg 1000000 d)
theorem soundB : CS Proofs.Try.prog E (bodyA E (kF 40) fg 1000000) := ZxJ envOk mixed fg 1000000 (soundK 40)
end Go.AM.Ytfmnoohhhokicaa
end
noncomputable section
namespace Go.AM.Ytfmnoohhhokicaa
open Go Go.AM Go.RowKit Go.Proofs Go.Proofs.Ytfmnoohhhokicaa Go.ChangeShapes Go.WideShapes Go.ChangeAt Go.AM.Rub
theorem laidOut : laidOutB Try.prog = true := by kernel_rfl
theorem ZzJ : Try.prog.readableRec 49 = true := by kernel_rfl
theorem Zyo : 49 < Try.prog.types.size := of_decide_eq_true (by kernel_rfl)
theorem ZG7 : Try.prog.cellsOf 49 = 8 := by kernel_rfl
theorem ZqL : Try.prog.cellTypes Try.prog.depth 49 = some (List.replicate 8 5) := by kernel_rfl
theorem Zzv : Try.prog.readableRec 5 = true := by kernel_rfl
theorem Zzw : 5 < Try.prog.types.size := of_decide_eq_true (by kernel_rfl)
theorem ZcR {W : World} {zs0 : List Int} {v0 : Value} {x1 : Int} (h0 : zs0.length = 8 ∧ ∀ (i : Nat) (z : Int), zs0[i]? = some z → 0 ≤ z ∧ z ≤ 255) (r0 : (start (fun k => k < W.heap.size) W).R (.agg (zs0.map (AV.int .u8))) v0) (h1 : 0 ≤ x1 ∧ x1 ≤ 255) :
   Calls Try.prog 16 #[v0, .int .u8 x1] W fun e w' => e = .returned (.bool true) ∧ Below W.heap.size W w' := by
 obtain ⟨H0, hw⟩ := ZCd ZyV
 obtain ⟨H1, hr⟩ := ZNF (Zh9 h0 h1 ⟨H0, hw⟩)
 refine ZPW soundB hr (fun k h => h) (vs := [v0, .int .u8 x1]) ?_
 simp only [Gh.Rs, VRs]
 exact ⟨v0, _, rfl, r0, _, _, rfl, by simp only [VR], rfl⟩
theorem Z82 (os : Os) (started : os.Started) (H : Type) (enc : TypeId × Value → H) :
   ReturnsInHanded {} Try.checked os 16 .any (Rows.rubTurnedSpec.pre6 enc Try.prog Try.f16 Rows.rubTurnedRow.domain false)
     (Rows.rubTurnedSpec.post enc Try.prog Try.f16 false true false false) := by
 refine returnsInHanded_of_change own started (by kernel_rfl) Try.func16 (ChangeSpec.witness6 (enc := enc) (C := Try.checked) false ⟨#[], #[.agg (Array.replicate 8 (.int .u8 0)), .int .u8 0], []⟩ 8 (by kernel_rfl) (by kernel_rfl) (by kernel_rfl) (by kernel_rfl)) ?_
 intro W base args ds gs before hval0 hW _ _
 have hW' := hW
 obtain ⟨p, q, hA0, hV, rfl, hfz, hnd⟩ := hW
 have hA : DataW.TrodAll enc Try.prog W 0 (fun _ => true) true Try.f16.params.toList args.toList ds p := hA0
 rw [Try.params16] at hA
 obtain ⟨w0, vs0, d0, ds0, p0, q0, ha, rfl, rfl, t0, hr0⟩ := trodAll_cons hA
 obtain ⟨w1, vs1, d1, ds1, p1, q1, rfl, rfl, rfl, t1, hr1⟩ := trodAll_cons hr0
 obtain ⟨rfl, rfl, rfl⟩ := trodAll_nil hr1
 obtain rfl : args = #[w0, w1] := by cases args; simp_all
 obtain ⟨rfl, rfl⟩ := trodVars_none hV
 have hval : ∀ (j : Nat) t v, (#[49, 5] : Array TypeId)[j]? = some t → (#[w0, w1] : Array Value)[j]? = some v → Value.okWide Try.prog W .any base t v := by
   intro j t v; have := hval0 j t v; rw [Try.params16] at this; exact this
 obtain ⟨zs0, cs0, rfl, e0, l0, b0⟩ := ZqK Try.underlying49 Try.underlying5 ZqL ZG7 (by omega) (hval 0 49 w0 rfl rfl)
 have h0 : zs0.length = 8 ∧ ∀ (i : Nat) (z : Int), zs0[i]? = some z → 0 ≤ z ∧ z ≤ 255 := ⟨l0, b0⟩
 have r0 : (start (fun k => k < W.heap.size) W).R (.agg (zs0.map (AV.int .u8))) (.agg cs0) := Z09Q _ e0
 obtain ⟨x1, rfl, h1⟩ := ZTq Try.underlying5 (hval 1 5 w1 rfl rfl)
 refine (ZcR h0 r0 h1).mono fun e W' ⟨he, bel⟩ => ?_
 subst he
 exact ⟨_, rfl, _, _, _, [], _, [], hW', trodAll_mk1 (shut_bool Try.underlying4 _),
   trodAll_mk2 (bel.trod' laidOut ZzJ Zyo t0) (bel.trod' laidOut Zzv Zzw t1), rfl, bel.frame _, fun h => by cases h⟩
theorem rubTurned_holds : Rows.RubTurnedSaid :=
 OpenClaim.holds_of_wide 16 Try.f16 rfl rfl rfl rfl rfl rfl rfl ⟨rfl, rfl, rfl, rfl, rfl⟩ rfl rfl rfl rfl rfl (by kernel_rfl) Try.func16 (by kernel_rfl)
   (of_decide_eq_true (by kernel_rfl)) (by unfold Func.isWrapper; first | (rw [if_pos (by decide +kernel)]; kernel_rfl) | (rw [if_neg (by decide +kernel)]; exact ⟨rfl, rfl⟩))
   (fun os started H enc _ => Z82 os started H enc)
end Go.AM.Ytfmnoohhhokicaa
namespace Go.Proofs.Ytfmnoohhhokicaa
theorem rubTurned_holds : Rows.RubTurnedSaid := Go.AM.Ytfmnoohhhokicaa.rubTurned_holds
end Go.Proofs.Ytfmnoohhhokicaa
end
end
#print axioms Go.Proofs.Ytfmnoohhhokicaa.rubTurned_holds
