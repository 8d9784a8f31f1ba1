/- A part of the proof of rubMore_holds: RtH, RtI, RtJ, RtK, RuH, RxC0, RubF, RtS, RubW, SyZ, RxF, WksR, RyF. Own work of this project; texts printed by own programs among it. -/
import Derived.KernelRfl
import Derived.Test.YtfmnoohhhokicaaRmJ
section
namespace Go.AM.Ytfmnoohhhokicaa
open Go Go.AM Go.AM.Rub
set_option maxRecDepth 100000
set_option maxHeartbeats 8000000
section
variable {d : Nat} {l l' : List Int} {n k m : Nat} {left most : Int} {c : List AV}
theorem rw_callA0 (hC : RoC d l' n k m left most) (_ : l'.length = k) : ∃ st, kF d 105 [.ref 100 0 k k k 1 false, .int .i64 left, .int .i64 most, .ptr 1 0 1, .ptr 2 0 1, .ptr 3 0 1]
      [(0, ⟨.row, ics l⟩), (1, ⟨.box, [.int .i64 n]⟩), (2, ⟨.box, [.nilsl]⟩), (3, ⟨.box, [rwK 1 2 3]⟩), (99, ⟨.row, c⟩), (100, ⟨.row, ics l'⟩)] 400 =
    some (.tup [], (0, ⟨.row, ics l⟩) :: (1, ⟨.box, [.int .i64 n]⟩) :: (2, ⟨.box, [oV 400 1 (fuR l' m left most).length]⟩) :: (3, ⟨.box, [rwK 1 2 3]⟩) :: (99, ⟨.row, c⟩) :: (100, ⟨st, ics l'⟩) :: oH 400 (lcs (fuR l' m left most))) := by
  obtain ⟨H, id, st, hp, ro⟩ := hC.a
  refine ⟨st, ?_⟩
  rw [kF_fr rfl]
  have hks : (mark [(0, ⟨.row, ics l⟩), (1, ⟨.box, [.int .i64 n]⟩), (2, ⟨.box, [.nilsl]⟩), (3, ⟨.box, [rwK 1 2 3]⟩), (99, ⟨.row, c⟩), (100, ⟨.row, ics l'⟩)] 1000 (refsL [.ref 100 0 k k k 1 false, .int .i64 left, .int .i64 most, .ptr 1 0 1, .ptr 2 0 1, .ptr 3 0 1]) []).reverse = [100, 1, 2, 3] := rfl
  have hap : AM.apart [100, 1, 2, 3] = true := rfl
  have e1 : renL (posF [100, 1, 2, 3] 0) [.ref 100 0 k k k 1 false, .int .i64 left, .int .i64 most, .ptr 1 0 1, .ptr 2 0 1, .ptr 3 0 1] = some [.ref 0 0 k k k 1 false, .int .i64 left, .int .i64 most, .ptr 1 0 1, .ptr 2 0 1, .ptr 3 0 1] := rfl
  have e2 : foc (posF [100, 1, 2, 3] 0) [(0, ⟨.row, ics l⟩), (1, ⟨.box, [.int .i64 n]⟩), (2, ⟨.box, [.nilsl]⟩), (3, ⟨.box, [rwK 1 2 3]⟩), (99, ⟨.row, c⟩), (100, ⟨.row, ics l'⟩)] 0 [100, 1, 2, 3] = some (rhA l' n) := rfl
  have hn := newsA ro
  obtain ⟨h0, hs, h1, h2, h3, h4, hr⟩ := ro
  have hlen : (ics l').length = (ics l').length := rfl
  have hl4 : ([100, 1, 2, 3] : List Nat).length = 4 := rfl
  have er : List.range 4 = [0, 1, 2, 3] := rfl
  rw [hks]
  unfold focus
  rw [if_pos hap]
  simp only [e1, e2, hp, backF, hl4, hn, er]
  rcases ocvL 400 (fuR l' m left most) with ⟨hn0, o1, o2⟩ | ⟨hp0, o1, o2⟩
  · rw [o1, o2]
    rw [hn0] at h2
    have hv : oV id 1 ([] : List (List Int)).length = .nilsl := rfl
    rw [hv] at h2
    rcases hs with rfl | rfl <;>
    simp only [hn0, if_true, List.length_nil, baseF, freeL, AM.apart, List.append_nil, ren, renL, unf, outF, posF, h0, h1, h2, h3, List.getElem?_cons_zero, List.getElem?_cons_succ, Nat.reduceLT, if_true, goodB, BS.open_, Bool.true_or, Bool.false_or, rhA, hget_cons', decide_true, Bool.and_self, renB, hl4, upds, hset_cons', hset_nil', Nat.reduceEqDiff, Nat.reduceLeDiff, if_false, Nat.reduceAdd, reduceCtorEq]
  · rw [o1, o2]
    rw [ov_pos hp0] at h2
    have hr := hr hp0
    have hne : ¬ fuR l' m left most = [] := fun e => by rw [e] at hp0; simp at hp0
    have c4 : ¬ id < 4 := by omega
    have hbase : baseF [(0, ⟨.row, ics l⟩), (1, ⟨.box, [.int .i64 n]⟩), (2, ⟨.box, [.nilsl]⟩), (3, ⟨.box, [rwK 1 2 3]⟩), (99, ⟨.row, c⟩), (100, ⟨.row, ics l'⟩)] 1 8 400 = some 400 := rfl
    rcases hs with rfl | rfl <;>
    simp only [hne, if_false, List.length_cons, List.length_nil, Nat.zero_add, hbase, AM.apart, List.elem_nil, Bool.not_false, Bool.and_self, if_true, List.cons_append, List.nil_append, ren, renL, unf, outF, posF, h0, h1, h2, h3, hr, c4, List.getElem?_cons_zero, List.getElem?_cons_succ, Nat.reduceLT, goodB, BS.open_, Bool.true_or, Bool.false_or, rhA, hget_cons', decide_true, renB, hl4, upds, hset_cons', hset_nil', Nat.reduceEqDiff, Nat.reduceLeDiff, Nat.add_zero, reduceCtorEq]
theorem rw_callA1 (hC : RoC d l' n k m left most) {L : List (List Int)} (h0 : 0 < L.length) (h8 : L.length + 9 ^ m ≤ 900000) : ∃ st, kF d 105 [.ref 100 0 k k k 1 false, .int .i64 left, .int .i64 most, .ptr 1 0 1, .ptr 2 0 1, .ptr 3 0 1]
      [(0, ⟨.row, ics l⟩), (1, ⟨.box, [.int .i64 n]⟩), (2, ⟨.box, [.ref 400 0 L.length L.length L.length 1 false]⟩), (3, ⟨.box, [rwK 1 2 3]⟩), (99, ⟨.row, c⟩), (100, ⟨.row, ics l'⟩), (400, ⟨.row, lcs L⟩)] 400 =
    some (.tup [], [(0, ⟨.row, ics l⟩), (1, ⟨.box, [.int .i64 n]⟩), (2, ⟨.box, [.ref 400 0 (L ++ fuR l' m left most).length (L ++ fuR l' m left most).length (L ++ fuR l' m left most).length 1 false]⟩), (3, ⟨.box, [rwK 1 2 3]⟩), (99, ⟨.row, c⟩), (100, ⟨st, ics l'⟩), (400, ⟨.row, lcs (L ++ fuR l' m left most)⟩)]) := by
  obtain ⟨H, st, hp, ro⟩ := hC.b L h0 h8
  refine ⟨st, ?_⟩
  rw [kF_fr rfl]
  have hks : (mark [(0, ⟨.row, ics l⟩), (1, ⟨.box, [.int .i64 n]⟩), (2, ⟨.box, [.ref 400 0 L.length L.length L.length 1 false]⟩), (3, ⟨.box, [rwK 1 2 3]⟩), (99, ⟨.row, c⟩), (100, ⟨.row, ics l'⟩), (400, ⟨.row, lcs L⟩)] 1000 (refsL [.ref 100 0 k k k 1 false, .int .i64 left, .int .i64 most, .ptr 1 0 1, .ptr 2 0 1, .ptr 3 0 1]) []).reverse = [100, 1, 2, 400, 3] := rfl
  have hap : AM.apart [100, 1, 2, 400, 3] = true := rfl
  have e1 : renL (posF [100, 1, 2, 400, 3] 0) [.ref 100 0 k k k 1 false, .int .i64 left, .int .i64 most, .ptr 1 0 1, .ptr 2 0 1, .ptr 3 0 1] = some [.ref 0 0 k k k 1 false, .int .i64 left, .int .i64 most, .ptr 1 0 1, .ptr 2 0 1, .ptr 4 0 1] := rfl
  have e2 : foc (posF [100, 1, 2, 400, 3] 0) [(0, ⟨.row, ics l⟩), (1, ⟨.box, [.int .i64 n]⟩), (2, ⟨.box, [.ref 400 0 L.length L.length L.length 1 false]⟩), (3, ⟨.box, [rwK 1 2 3]⟩), (99, ⟨.row, c⟩), (100, ⟨.row, ics l'⟩), (400, ⟨.row, lcs L⟩)] 0 [100, 1, 2, 400, 3] = some (rhB l' n L) := rfl
  have hn := newsB ro
  obtain ⟨h0, hs, h1, h2, h3, h4⟩ := ro
  have hl5 : ([100, 1, 2, 400, 3] : List Nat).length = 5 := rfl
  have er : List.range 5 = [0, 1, 2, 3, 4] := rfl
  rw [hks]
  unfold focus
  rw [if_pos hap]
  simp only [e1, e2, hp, backF, hl5, hn, er]
  rcases hs with rfl | rfl <;>
  simp only [List.length_nil, baseF, freeL, AM.apart, if_true, List.append_nil, ren, renL, unf, outF, posF, h0, h1, h2, h3, h4, List.getElem?_cons_zero, List.getElem?_cons_succ, Nat.reduceLT, goodB, BS.open_, Bool.true_or, Bool.false_or, rhB, hget_cons', decide_true, Bool.and_self, renB, hl5, upds, hset_cons', hset_nil', Nat.reduceEqDiff, Nat.reduceLeDiff, if_false, Nat.reduceAdd, reduceCtorEq]
theorem rw_callB (hC : RoC d l' n k m left most) {L : List (List Int)} (h0 : 0 < L.length) (h8 : L.length + 9 ^ m ≤ 900000) : ∃ st, kF d 105 [.ref 100 0 k k k 1 false, .int .i64 left, .int .i64 most, .ptr 1 0 1, .ptr 2 0 1, .ptr 4 0 1]
      [(0, ⟨.row, ics l⟩), (1, ⟨.box, [.int .i64 n]⟩), (2, ⟨.box, [.ref 3 0 L.length L.length L.length 1 false]⟩), (3, ⟨.row, lcs L⟩), (4, ⟨.box, [rwK 1 2 4]⟩), (99, ⟨.row, c⟩), (100, ⟨.row, ics l'⟩)] 400 =
    some (.tup [], [(0, ⟨.row, ics l⟩), (1, ⟨.box, [.int .i64 n]⟩), (2, ⟨.box, [.ref 3 0 (L ++ fuR l' m left most).length (L ++ fuR l' m left most).length (L ++ fuR l' m left most).length 1 false]⟩), (3, ⟨.row, lcs (L ++ fuR l' m left most)⟩), (4, ⟨.box, [rwK 1 2 4]⟩), (99, ⟨.row, c⟩), (100, ⟨st, ics l'⟩)]) := by
  obtain ⟨H, st, hp, ro⟩ := hC.b L h0 h8
  refine ⟨st, ?_⟩
  rw [kF_fr rfl]
  have hks : (mark [(0, ⟨.row, ics l⟩), (1, ⟨.box, [.int .i64 n]⟩), (2, ⟨.box, [.ref 3 0 L.length L.length L.length 1 false]⟩), (3, ⟨.row, lcs L⟩), (4, ⟨.box, [rwK 1 2 4]⟩), (99, ⟨.row, c⟩), (100, ⟨.row, ics l'⟩)] 1000 (refsL [.ref 100 0 k k k 1 false, .int .i64 left, .int .i64 most, .ptr 1 0 1, .ptr 2 0 1, .ptr 4 0 1]) []).reverse = [100, 1, 2, 3, 4] := rfl
  have hap : AM.apart [100, 1, 2, 3, 4] = true := rfl
  have e1 : renL (posF [100, 1, 2, 3, 4] 0) [.ref 100 0 k k k 1 false, .int .i64 left, .int .i64 most, .ptr 1 0 1, .ptr 2 0 1, .ptr 4 0 1] = some [.ref 0 0 k k k 1 false, .int .i64 left, .int .i64 most, .ptr 1 0 1, .ptr 2 0 1, .ptr 4 0 1] := rfl
  have e2 : foc (posF [100, 1, 2, 3, 4] 0) [(0, ⟨.row, ics l⟩), (1, ⟨.box, [.int .i64 n]⟩), (2, ⟨.box, [.ref 3 0 L.length L.length L.length 1 false]⟩), (3, ⟨.row, lcs L⟩), (4, ⟨.box, [rwK 1 2 4]⟩), (99, ⟨.row, c⟩), (100, ⟨.row, ics l'⟩)] 0 [100, 1, 2, 3, 4] = some (rhB l' n L) := rfl
  have hn := newsB ro
  obtain ⟨h0, hs, h1, h2, h3, h4⟩ := ro
  have hl5 : ([100, 1, 2, 3, 4] : List Nat).length = 5 := rfl
  have er : List.range 5 = [0, 1, 2, 3, 4] := rfl
  rw [hks]
  unfold focus
  rw [if_pos hap]
  simp only [e1, e2, hp, backF, hl5, hn, er]
  rcases hs with rfl | rfl <;>
  simp only [List.length_nil, baseF, freeL, AM.apart, if_true, List.append_nil, ren, renL, unf, outF, posF, h0, h1, h2, h3, h4, List.getElem?_cons_zero, List.getElem?_cons_succ, Nat.reduceLT, goodB, BS.open_, Bool.true_or, Bool.false_or, rhB, hget_cons', decide_true, Bool.and_self, renB, hl5, upds, hset_cons', hset_nil', Nat.reduceEqDiff, Nat.reduceLeDiff, if_false, Nat.reduceAdd, reduceCtorEq]
end
end Go.AM.Ytfmnoohhhokicaa
end

section
namespace Go.AM.Ytfmnoohhhokicaa
open Go Go.AM Go.AM.Rub
set_option maxRecDepth 100000
set_option maxHeartbeats 8000000
/-- No number is left to choose. -/
theorem rw_leaf {d : Nat} {l : List Int} {n : Nat} {left most : Int} (hl : l.length = n) : RoC (d + 1) l n n 0 left most := by
  have hlen : (ics l).length = n := by rw [ics_length, hl]
  have htk : List.take n (ics l) = ics l := List.take_of_length_le (by omega)
  have em : AV.imm (ics l) n false = .imm (ics l) l.length false := by rw [hl]
  constructor
  · rw [pF_s, fuR_zero]
    by_cases h : left = 0
    · rw [if_pos h]
      subst h
      generalize kF d = C
      simp only [rhA]
      have e : lcs [l] = [.imm (ics l) n false] := by show [AV.imm (ics l) l.length false] = _; rw [hl]
      simp (disch := omega) only [ZF, frame0, stp, just, Rd.bind, Rd.run, Rd.opt, upds, acells, zeroCells, tsz, elemT, rdCells, aLoad, aStore, opStore, resA, resL, fresh, aLen, aBuiltin, aBin, aInt, putC, evO, Nat.reduceAdd, Nat.reduceLT, Nat.reduceBEq, Nat.reduceEqDiff, Nat.reduceLeDiff, ↓reduceIte, reduceCtorEq, aBuildSlice, aBuildAt, partsOf, fillA, repC, isSliceT, aAppend, srcOf, window, snaps, ZT, F_105, hlen, htk, room39 (show 1 ≤ 1000000 by omega)]
      exact ⟨_, 83, .froz, rfl, ⟨rfl, .inr rfl, rfl, rfl, rfl, by omega, fun _ => by rw [e]; rfl⟩⟩
    · rw [if_neg h]
      have h' : (left == 0) = false := by rw [beq_eq_false_iff_ne]; exact h
      generalize kF d = C
      simp only [rhA]
      simp (disch := omega) only [ZF, frame0, stp, just, Rd.bind, Rd.run, Rd.opt, upds, acells, zeroCells, tsz, elemT, rdCells, aLoad, resA, resL, fresh, aLen, aBuiltin, aBin, aInt, putC, evO, Nat.reduceAdd, Nat.reduceLT, Nat.reduceBEq, Nat.reduceEqDiff, Nat.reduceLeDiff, ↓reduceIte, reduceCtorEq, aBuildSlice, aBuildAt, partsOf, fillA, repC, isSliceT, aAppend, srcOf, window, snaps, ZT, F_105, hlen, h']
      exact ⟨_, 83, .row, rfl, ⟨rfl, .inl rfl, rfl, rfl, rfl, by omega, fun h => by simp at h⟩⟩
  · intro L h0 h8
    rw [pF_s, fuR_zero]
    have hlo := lcs_length L
    have hto := lcs_takeA L
    by_cases h : left = 0
    · rw [if_pos h]
      subst h
      generalize kF d = C
      have hsn := lcs_snoc L l
      rw [← em] at hsn
      have hno : ¬ L.length + 1 ≤ L.length := by omega
      simp only [rhB]
      have key : ∀ (A : List AV) (m : Nat), A.length = m → List.take m A = A → ¬ m + 1 ≤ m → m + 1 ≤ 1000000 → ∃ H st, bodyA E C fg 1000000 105 [.ref 0 0 n n n 1 false, .int .i64 0, .int .i64 most, .ptr 1 0 1, .ptr 2 0 1, .ptr 4 0 1] [(0, ⟨.row, ics l⟩), (1, ⟨.box, [.int .i64 n]⟩), (2, ⟨.box, [.ref 3 0 m m m 1 false]⟩), (3, ⟨.row, A⟩), (4, ⟨.box, [rwK 1 2 4]⟩)] 64 = some (.tup [], H) ∧
          (hget H 0 = some ⟨st, ics l⟩ ∧ (st = .row ∨ st = .froz) ∧ hget H 1 = some ⟨.box, [.int .i64 n]⟩ ∧ hget H 2 = some ⟨.box, [.ref 3 0 (m + 1) (m + 1) (m + 1) 1 false]⟩ ∧ hget H 3 = some ⟨.row, A ++ [.imm (ics l) n false]⟩ ∧ hget H 4 = some ⟨.box, [rwK 1 2 4]⟩) := by
        intro A m q1 q2 q3 q4
        simp (disch := omega) only [ZF, frame0, stp, just, Rd.bind, Rd.run, Rd.opt, upds, acells, zeroCells, tsz, elemT, rdCells, aLoad, aStore, opStore, resA, resL, fresh, aLen, aBuiltin, aBin, aInt, putC, evO, Nat.reduceAdd, Nat.reduceLT, Nat.reduceBEq, Nat.reduceEqDiff, Nat.reduceLeDiff, ↓reduceIte, reduceCtorEq, aBuildSlice, aBuildAt, partsOf, fillA, repC, isSliceT, aAppend, srcOf, window, snaps, ZT, F_105, hlen, htk, q1, q2, q3, room39 q4]
        exact ⟨_, .froz, rfl, rfl, .inr rfl, rfl, rfl, rfl, rfl⟩
      obtain ⟨H, st, p1, p2, p3, p4, p5, p6, p7⟩ := key (lcs L) L.length hlo hto hno (by omega)
      refine ⟨H, st, p1, ⟨p2, p3, p4, by rw [List.length_append]; exact p5, by rw [← hsn]; exact p6, p7⟩⟩
    · rw [if_neg h, List.append_nil]
      have h' : (left == 0) = false := by rw [beq_eq_false_iff_ne]; exact h
      generalize kF d = C
      simp only [rhB]
      simp (disch := omega) only [ZF, frame0, stp, just, Rd.bind, Rd.run, Rd.opt, upds, acells, zeroCells, tsz, elemT, rdCells, aLoad, resA, resL, fresh, aLen, aBuiltin, aBin, aInt, putC, evO, Nat.reduceAdd, Nat.reduceLT, Nat.reduceBEq, Nat.reduceEqDiff, Nat.reduceLeDiff, ↓reduceIte, reduceCtorEq, aBuildSlice, aBuildAt, partsOf, fillA, repC, isSliceT, aAppend, srcOf, window, snaps, ZT, F_105, hlen, h', if_pos]
      exact ⟨_, .row, rfl, ⟨rfl, .inl rfl, rfl, rfl, rfl, rfl⟩⟩
theorem rw_mut (caps args : List AV) : mutV E (.clo 105 caps) args = some (105, args ++ caps) := rfl
noncomputable abbrev rsA (l : List Int) (n k : Nat) (left t : Int) (L : List (List Int)) : St :=
  ([(9, .int .i64 t), (5, .ptr 3 0 1), (1, .int .i64 left), (0, .ref 0 0 k k k 1 false)], (0, ⟨.row, ics l⟩) :: (1, ⟨.box, [.int .i64 n]⟩) :: (2, ⟨.box, [oV 400 1 L.length]⟩) :: (3, ⟨.box, [rwK 1 2 3]⟩) :: oH 400 (lcs L))
abbrev rsB (l : List Int) (n k : Nat) (left t : Int) (L : List (List Int)) : St :=
  ([(9, .int .i64 t), (5, .ptr 4 0 1), (1, .int .i64 left), (0, .ref 0 0 k k k 1 false)], [(0, ⟨.row, ics l⟩), (1, ⟨.box, [.int .i64 n]⟩), (2, ⟨.box, [.ref 3 0 L.length L.length L.length 1 false]⟩), (3, ⟨.row, lcs L⟩), (4, ⟨.box, [rwK 1 2 4]⟩)])
theorem rwA_go {d : Nat} {l : List Int} {n k m : Nat} {left t : Int} (hl : l.length = k) (h9 : k ≤ 1000) (ht : 0 ≤ t ∧ t ≤ 1000) (hlf : 0 ≤ left ∧ left ≤ 1000) (hC : RoC d (l ++ [t]) n (k + 1) m (left - t) t) (L : List (List Int)) (h8 : L.length + 9 ^ m ≤ 900000) :
    ∃ s', execA E (kF d) (fg 105) 64 42 (rhA l n) 1000000 c105_16 (rsA l n k left t L) = some (.normal, s') ∧ headA (rhA l n) s' = rsA l n k left (t - 1) (L ++ fuR (l ++ [t]) m (left - t) t) := by
  have hlen : (ics l).length = k := by rw [ics_length, hl]
  have htk : List.take k (ics l) = ics l := List.take_of_length_le (by omega)
  have hsn := ics_snoc l t
  have hl' : (l ++ [t]).length = k + 1 := by simp [hl]
  have g1 : t ≥ 0 := ht.1
  have w1 : wrp .i64 (left - t) = left - t := wrp64 (by omega)
  have w2 : wrp .i64 (t - 1) = t - 1 := wrp64 (by omega)
  have gk : (0 : Int) ≤ (k : Int) ∧ (k : Int) ≤ (k : Int) := by omega
  have hno : ¬ k + 1 ≤ k := by omega
  rcases ocvL 400 L with ⟨hn0, o1, o2⟩ | ⟨hp0, o1, o2⟩
  · obtain ⟨st, hc⟩ := rw_callA0 (l := l) (c := [.int .i64 t]) hC hl'
    subst hn0
    rw [List.nil_append]
    simp only [rsA]
    rw [o1, o2]
    rw [← hsn] at hc
    generalize fuR (l ++ [t]) m (left - t) t = new at *
    generalize kF d = C at *
    rcases ocvL 400 new with ⟨hn1, p1, p2⟩ | ⟨hp1, p1, p2⟩ <;> rw [p1, p2] at hc ⊢ <;>
      simp (disch := omega) only [ZF, stp, just, Rd.bind, Rd.run, Rd.opt, upds, acells, zeroCells, tsz, elemT, rdCells, aLoad, fresh, aNum, aLen, aBuiltin, aBin, aInt, putC, evO, Nat.reduceAdd, Nat.reduceMul, Nat.reduceLT, Nat.reduceBEq, Nat.reduceEqDiff, Nat.reduceLeDiff, ↓reduceIte, reduceCtorEq, stpT, Rd.foot, writing, touching, Tr.empty, dynPairs, apartT, disj, aBuildSlice, aBuildAt, partsOf, fillA, repC, isSliceT, aAppend, srcOf, window, mutX, snaps, aSlice, aBounds, bMax, bHigh, bLow, ZT, F_105, callVT, rw_mut, hlen, htk, hno, g1, w1, w2, gk, hc, room22 (show k + 1 ≤ 1000000 by omega)] <;> exact ⟨_, rfl, rfl⟩
  · obtain ⟨st, hc⟩ := rw_callA1 (l := l) (c := [.int .i64 t]) hC hp0 h8
    simp only [rsA]
    rw [o1, o2, ov_pos (show 0 < (L ++ fuR (l ++ [t]) m (left - t) t).length by rw [List.length_append]; omega), ohl_pos (show 0 < (L ++ fuR (l ++ [t]) m (left - t) t).length by rw [List.length_append]; omega)]
    rw [← hsn] at hc
    generalize L ++ fuR (l ++ [t]) m (left - t) t = new at *
    generalize lcs new = LN at *
    generalize new.length = nn at *
    generalize lcs L = LL at *
    generalize L.length = ll at *
    generalize kF d = C at *
    simp (disch := omega) only [ZF, stp, just, Rd.bind, Rd.run, Rd.opt, upds, acells, zeroCells, tsz, elemT, rdCells, aLoad, fresh, aNum, aLen, aBuiltin, aBin, aInt, putC, evO, Nat.reduceAdd, Nat.reduceMul, Nat.reduceLT, Nat.reduceBEq, Nat.reduceEqDiff, Nat.reduceLeDiff, ↓reduceIte, reduceCtorEq, stpT, Rd.foot, writing, touching, Tr.empty, dynPairs, apartT, disj, aBuildSlice, aBuildAt, partsOf, fillA, repC, isSliceT, aAppend, srcOf, window, mutX, snaps, aSlice, aBounds, bMax, bHigh, bLow, ZT, F_105, callVT, rw_mut, hlen, htk, hno, g1, w1, w2, gk, hc, room22 (show k + 1 ≤ 1000000 by omega)]
    exact ⟨_, rfl, rfl⟩
theorem rwB_go {d : Nat} {l : List Int} {n k m : Nat} {left t : Int} (hl : l.length = k) (h9 : k ≤ 1000) (ht : 0 ≤ t ∧ t ≤ 1000) (hlf : 0 ≤ left ∧ left ≤ 1000) (hC : RoC d (l ++ [t]) n (k + 1) m (left - t) t) (L0 L : List (List Int)) (hp0 : 0 < L.length) (h8 : L.length + 9 ^ m ≤ 900000) :
    ∃ s', execA E (kF d) (fg 105) 64 42 (rhB l n L0) 1000000 c105_16 (rsB l n k left t L) = some (.normal, s') ∧ headA (rhB l n L0) s' = rsB l n k left (t - 1) (L ++ fuR (l ++ [t]) m (left - t) t) := by
  have hlen : (ics l).length = k := by rw [ics_length, hl]
  have htk : List.take k (ics l) = ics l := List.take_of_length_le (by omega)
  have hsn := ics_snoc l t
  have g1 : t ≥ 0 := ht.1
  have w1 : wrp .i64 (left - t) = left - t := wrp64 (by omega)
  have w2 : wrp .i64 (t - 1) = t - 1 := wrp64 (by omega)
  have gk : (0 : Int) ≤ (k : Int) ∧ (k : Int) ≤ (k : Int) := by omega
  have hno : ¬ k + 1 ≤ k := by omega
  obtain ⟨st, hc⟩ := rw_callB (l := l) (c := [.int .i64 t]) hC hp0 h8
  simp only [rsB]
  rw [← hsn] at hc
  generalize L ++ fuR (l ++ [t]) m (left - t) t = new at *
  generalize lcs new = LN at *
  generalize new.length = nn at *
  generalize lcs L = LL at *
  generalize L.length = ll at *
  generalize lcs L0 = LL0 at *
  generalize L0.length = l0 at *
  generalize kF d = C at *
  simp (disch := omega) only [ZF, stp, just, Rd.bind, Rd.run, Rd.opt, upds, acells, zeroCells, tsz, elemT, rdCells, aLoad, fresh, aNum, aLen, aBuiltin, aBin, aInt, putC, evO, Nat.reduceAdd, Nat.reduceMul, Nat.reduceLT, Nat.reduceBEq, Nat.reduceEqDiff, Nat.reduceLeDiff, ↓reduceIte, reduceCtorEq, stpT, Rd.foot, writing, touching, Tr.empty, dynPairs, apartT, disj, aBuildSlice, aBuildAt, partsOf, fillA, repC, isSliceT, aAppend, srcOf, window, mutX, snaps, aSlice, aBounds, bMax, bHigh, bLow, ZT, F_105, callVT, rw_mut, hlen, htk, hno, g1, w1, w2, gk, hc, room22 (show k + 1 ≤ 1000000 by omega)]
  exact ⟨_, rfl, rfl⟩
end Go.AM.Ytfmnoohhhokicaa
end

section
namespace Go.AM.Ytfmnoohhhokicaa
open Go Go.AM Go.AM.Rub
set_option maxRecDepth 100000
set_option maxHeartbeats 8000000
theorem rw_all {d n : Nat} (h6 : n ≤ 6) : ∀ (m : Nat) (l : List Int) (k : Nat) (left most : Int), l.length = k → k + m = n → 0 ≤ left ∧ left ≤ 1000 → 0 ≤ most ∧ most ≤ 8 → RoC (d + m + 1) l n k m left most
  | 0, l, k, left, most, hl, hk, _, _ => by
    rw [Nat.add_zero] at hk
    subst hk
    exact rw_leaf hl
  | m + 1, l, k, left, most, hl, hk, hlf, hm => by
    obtain ⟨m0, hm0⟩ : ∃ m0 : Nat, min most left = m0 := ⟨(min most left).toNat, by omega⟩
    have hrec : ∀ j : Nat, j < m0 + 1 → RoC (d + m + 1) (l ++ [((m0 : Int) - j)]) n (k + 1) m (left - ((m0 : Int) - j)) ((m0 : Int) - j) := fun j hj =>
      rw_all h6 m (l ++ [((m0 : Int) - j)]) (k + 1) (left - ((m0 : Int) - j)) ((m0 : Int) - j) (by simp [hl]) (by omega) (by omega) (by omega)
    have hlen : (ics l).length = k := by rw [ics_length, hl]
    have hall := fuP_all l m hm0
    have h9 : 9 ^ (m + 1) ≤ 531441 := by have := Nat.pow_le_pow_right (n := 9) (by omega) (show m + 1 ≤ 6 by omega); omega
    have h9' : 9 ^ (m + 1) = 9 * 9 ^ m := by rw [Nat.pow_succ, Nat.mul_comm]
    have hfl : ∀ j, j ≤ m0 + 1 → (fuP l m left m0 j).length ≤ j * 9 ^ m := fuP_len l m left m0 (by omega)
    have hj9 : ∀ j, j ≤ m0 → j * 9 ^ m ≤ 8 * 9 ^ m := fun j hj => Nat.mul_le_mul_right _ (by omega)
    have emin : (if left < most then left else most) = (m0 : Int) := by rw [← hm0]; split <;> omega
    have gk : ¬ (k : Int) = n := by omega
    have gk' : ((k : Int) == n) = false := by rw [beq_eq_false_iff_ne]; exact gk
    have e2 : ∀ j : Nat, (m0 : Int) - ((j + 1 : Nat) : Int) = (m0 : Int) - j - 1 := fun j => by omega
    have ge : ¬ (m0 : Int) - ((m0 + 1 : Nat) : Int) ≥ 0 := by omega
    constructor
    · rw [show d + (m + 1) + 1 = (d + m + 1) + 1 by omega, pF_s]
      have hloop := loopM (f := execA E (kF (d + m + 1)) (fg 105) 64 42 (rhA l n) 1000000 c105_16) (E0 := rhA l n) (fun j => rsA l n k left ((m0 : Int) - j) (fuP l m left m0 j)) (m0 + 1) (fun j hj => by
          simp only [fuP_snoc, e2]
          exact rwA_go hl (by omega) (by omega) hlf (hrec j hj) (fuP l m left m0 j) (by have := hfl j (by omega); have := hj9 j (by omega); omega)) (by
          have e0 : fuP l m left m0 0 = [] := rfl
          simp only [rsA, e0]; rfl) (by omega)
        (e := .exit 0) (se := ([(24, .bool false), (9, .int .i64 ((m0 : Int) - ((m0 + 1 : Nat) : Int))), (5, .ptr 3 0 1), (1, .int .i64 left), (0, .ref 0 0 k k k 1 false)], (0, ⟨.row, ics l⟩) :: (1, ⟨.box, [.int .i64 n]⟩) :: (2, ⟨.box, [oV 400 1 (fuR l (m + 1) left most).length]⟩) :: (3, ⟨.box, [rwK 1 2 3]⟩) :: oH 400 (lcs (fuR l (m + 1) left most))))
        (by
          simp only [rsA, hall]
          rcases ocvL 400 (fuR l (m + 1) left most) with ⟨_, o1, o2⟩ | ⟨_, o1, o2⟩ <;> rw [o1, o2] <;>
            simp (disch := omega) only [ZF, stp, just, Rd.bind, Rd.run, Rd.opt, upds, aBin, aInt, Nat.reduceBEq, Nat.reduceEqDiff, Nat.reduceLeDiff, ↓reduceIte, F_105, ge]) (by simp)
      have e0 : fuP l m left m0 0 = [] := rfl
      have v0 : oV 400 1 ([] : List (List Int)).length = .nilsl := rfl
      have o0 : oH 400 (lcs []) = [] := rfl
      have z0 : (m0 : Int) - ((0 : Nat) : Int) = m0 := by omega
      simp only [rsA, e0, v0, o0, z0, rhA] at hloop
      simp only [rhA]
      generalize fuR l (m + 1) left most = R at *
      generalize kF (d + m + 1) = C at *
      rcases ocvL 400 R with ⟨hn1, o1, o2⟩ | ⟨hp1, o1, o2⟩ <;> rw [o1, o2] at hloop
      · simp (disch := omega) only [ZF, frame0, stp, justO, just, Rd.bind, Rd.run, Rd.opt, upds, acells, zeroCells, tsz, elemT, rdCells, aLoad, resA, resL, fresh, aLen, aBuiltin, aMin, aBin, aInt, putC, evO, Nat.reduceAdd, Nat.reduceLT, Nat.reduceBEq, Nat.reduceEqDiff, Nat.reduceLeDiff, ↓reduceIte, reduceCtorEq, aBuildSlice, aBuildAt, partsOf, fillA, repC, isSliceT, aAppend, srcOf, window, snaps, ZT, F_105, hlen, gk', emin, hloop]
        exact ⟨_, 400, .row, rfl, ⟨rfl, .inl rfl, rfl, by rw [o1]; rfl, rfl, by omega, fun h => by rw [hn1] at h; simp at h⟩⟩
      · simp (disch := omega) only [ZF, frame0, stp, justO, just, Rd.bind, Rd.run, Rd.opt, upds, acells, zeroCells, tsz, elemT, rdCells, aLoad, resA, resL, fresh, aLen, aBuiltin, aMin, aBin, aInt, putC, evO, Nat.reduceAdd, Nat.reduceLT, Nat.reduceBEq, Nat.reduceEqDiff, Nat.reduceLeDiff, ↓reduceIte, reduceCtorEq, aBuildSlice, aBuildAt, partsOf, fillA, repC, isSliceT, aAppend, srcOf, window, snaps, ZT, F_105, hlen, gk', emin, hloop]
        exact ⟨_, 400, .row, rfl, ⟨rfl, .inl rfl, rfl, by rw [o1]; rfl, rfl, by omega, fun h => rfl⟩⟩
    · intro L h0 h8
      rw [show d + (m + 1) + 1 = (d + m + 1) + 1 by omega, pF_s]
      have hloop := loopM (f := execA E (kF (d + m + 1)) (fg 105) 64 42 (rhB l n L) 1000000 c105_16) (E0 := rhB l n L) (fun j => rsB l n k left ((m0 : Int) - j) (L ++ fuP l m left m0 j)) (m0 + 1) (fun j hj => by
          simp only [fuP_snoc, e2, ← List.append_assoc]
          exact rwB_go hl (by omega) (by omega) hlf (hrec j hj) L (L ++ fuP l m left m0 j) (by rw [List.length_append]; omega) (by rw [List.length_append]; have := hfl j (by omega); have := hj9 j (by omega); omega)) (headA_keep (by simp [rhB, hget_cons'])) (by omega)
        (e := .exit 0) (se := ([(24, .bool false), (9, .int .i64 ((m0 : Int) - ((m0 + 1 : Nat) : Int))), (5, .ptr 4 0 1), (1, .int .i64 left), (0, .ref 0 0 k k k 1 false)], [(0, ⟨.row, ics l⟩), (1, ⟨.box, [.int .i64 n]⟩), (2, ⟨.box, [.ref 3 0 (L ++ fuR l (m + 1) left most).length (L ++ fuR l (m + 1) left most).length (L ++ fuR l (m + 1) left most).length 1 false]⟩), (3, ⟨.row, lcs (L ++ fuR l (m + 1) left most)⟩), (4, ⟨.box, [rwK 1 2 4]⟩)]))
        (by
          simp only [rsB, hall]
          simp (disch := omega) only [ZF, stp, just, Rd.bind, Rd.run, Rd.opt, upds, aBin, aInt, Nat.reduceBEq, Nat.reduceEqDiff, Nat.reduceLeDiff, ↓reduceIte, F_105, ge]) (by simp)
      have e0 : fuP l m left m0 0 = [] := rfl
      have z0 : (m0 : Int) - ((0 : Nat) : Int) = m0 := by omega
      simp only [rsB, e0, z0, rhB, List.append_nil] at hloop
      simp only [rhB]
      generalize L ++ fuR l (m + 1) left most = R at *
      generalize kF (d + m + 1) = C at *
      simp (disch := omega) only [ZF, frame0, stp, justO, just, Rd.bind, Rd.run, Rd.opt, upds, acells, zeroCells, tsz, elemT, rdCells, aLoad, resA, resL, fresh, aLen, aBuiltin, aMin, aBin, aInt, putC, evO, Nat.reduceAdd, Nat.reduceLT, Nat.reduceBEq, Nat.reduceEqDiff, Nat.reduceLeDiff, ↓reduceIte, reduceCtorEq, aBuildSlice, aBuildAt, partsOf, fillA, repC, isSliceT, aAppend, srcOf, window, snaps, ZT, F_105, hlen, gk', emin, hloop]
      exact ⟨_, .row, rfl, ⟨rfl, .inl rfl, rfl, rfl, rfl, rfl⟩⟩
end Go.AM.Ytfmnoohhhokicaa
end

section
namespace Go.AM.Ytfmnoohhhokicaa
open Go Go.AM Go.AM.Rub
set_option maxRecDepth 100000
set_option maxHeartbeats 8000000
abbrev rhN (n : Nat) : AHeap := [(0, ⟨.box, [.int .i64 n]⟩), (1, ⟨.box, [.nilsl]⟩), (2, ⟨.box, [rwK 0 1 2]⟩)]
section
variable {d : Nat} {l' : List Int} {n k m : Nat} {left most : Int} {c : List AV}
theorem rw_callN0 (hC : RoC d l' n k m left most) : ∃ st, kF d 105 [.ref 100 0 k k k 1 false, .int .i64 left, .int .i64 most, .ptr 0 0 1, .ptr 1 0 1, .ptr 2 0 1] [(0, ⟨.box, [.int .i64 n]⟩), (1, ⟨.box, [.nilsl]⟩), (2, ⟨.box, [rwK 0 1 2]⟩), (99, ⟨.row, c⟩), (100, ⟨.row, ics l'⟩)] 400 =
    some (.tup [], (0, ⟨.box, [.int .i64 n]⟩) :: (1, ⟨.box, [oV 400 1 (fuR l' m left most).length]⟩) :: (2, ⟨.box, [rwK 0 1 2]⟩) :: (99, ⟨.row, c⟩) :: (100, ⟨st, ics l'⟩) :: oH 400 (lcs (fuR l' m left most))) := by
  obtain ⟨H, id, st, hp, ro⟩ := hC.a
  refine ⟨st, ?_⟩
  rw [kF_fr rfl]
  have hks : (mark [(0, ⟨.box, [.int .i64 n]⟩), (1, ⟨.box, [.nilsl]⟩), (2, ⟨.box, [rwK 0 1 2]⟩), (99, ⟨.row, c⟩), (100, ⟨.row, ics l'⟩)] 1000 (refsL [.ref 100 0 k k k 1 false, .int .i64 left, .int .i64 most, .ptr 0 0 1, .ptr 1 0 1, .ptr 2 0 1]) []).reverse = [100, 0, 1, 2] := rfl
  have hap : AM.apart [100, 0, 1, 2] = true := rfl
  have e1 : renL (posF [100, 0, 1, 2] 0) [.ref 100 0 k k k 1 false, .int .i64 left, .int .i64 most, .ptr 0 0 1, .ptr 1 0 1, .ptr 2 0 1] = some [.ref 0 0 k k k 1 false, .int .i64 left, .int .i64 most, .ptr 1 0 1, .ptr 2 0 1, .ptr 3 0 1] := rfl
  have e2 : foc (posF [100, 0, 1, 2] 0) [(0, ⟨.box, [.int .i64 n]⟩), (1, ⟨.box, [.nilsl]⟩), (2, ⟨.box, [rwK 0 1 2]⟩), (99, ⟨.row, c⟩), (100, ⟨.row, ics l'⟩)] 0 [100, 0, 1, 2] = some (rhA l' n) := rfl
  have hn := newsA ro
  obtain ⟨h0, hs, h1, h2, h3, h4, hr⟩ := ro
  have hl4 : ([100, 0, 1, 2] : List Nat).length = 4 := rfl
  have er : List.range 4 = [0, 1, 2, 3] := rfl
  rw [hks]
  unfold focus
  rw [if_pos hap]
  simp only [e1, e2, hp, backF, hl4, hn, er]
  rcases ocvL 400 (fuR l' m left most) with ⟨hn0, o1, o2⟩ | ⟨hp0, o1, o2⟩
  · rw [o1, o2]
    rw [hn0] at h2
    have hv : oV id 1 ([] : List (List Int)).length = .nilsl := rfl
    rw [hv] at h2
    rcases hs with rfl | rfl <;>
    simp only [hn0, if_true, List.length_nil, baseF, freeL, AM.apart, List.append_nil, ren, renL, unf, outF, posF, h0, h1, h2, h3, List.getElem?_cons_zero, List.getElem?_cons_succ, Nat.reduceLT, if_true, goodB, BS.open_, Bool.true_or, Bool.false_or, rhA, hget_cons', decide_true, Bool.and_self, renB, hl4, upds, hset_cons', hset_nil', Nat.reduceEqDiff, Nat.reduceLeDiff, if_false, Nat.reduceAdd, reduceCtorEq]
  · rw [o1, o2]
    rw [ov_pos hp0] at h2
    have hr := hr hp0
    have hne : ¬ fuR l' m left most = [] := fun e => by rw [e] at hp0; simp at hp0
    have c4 : ¬ id < 4 := by omega
    have hbase : baseF [(0, ⟨.box, [.int .i64 n]⟩), (1, ⟨.box, [.nilsl]⟩), (2, ⟨.box, [rwK 0 1 2]⟩), (99, ⟨.row, c⟩), (100, ⟨.row, ics l'⟩)] 1 8 400 = some 400 := rfl
    rcases hs with rfl | rfl <;>
    simp only [hne, if_false, List.length_cons, List.length_nil, Nat.zero_add, hbase, AM.apart, List.elem_nil, Bool.not_false, Bool.and_self, if_true, List.cons_append, List.nil_append, ren, renL, unf, outF, posF, h0, h1, h2, h3, hr, c4, List.getElem?_cons_zero, List.getElem?_cons_succ, Nat.reduceLT, goodB, BS.open_, Bool.true_or, Bool.false_or, rhA, hget_cons', decide_true, renB, hl4, upds, hset_cons', hset_nil', Nat.reduceEqDiff, Nat.reduceLeDiff, Nat.add_zero, reduceCtorEq]
theorem rw_callN1 (hC : RoC d l' n k m left most) {L : List (List Int)} (h0 : 0 < L.length) (h8 : L.length + 9 ^ m ≤ 900000) : ∃ st, kF d 105 [.ref 100 0 k k k 1 false, .int .i64 left, .int .i64 most, .ptr 0 0 1, .ptr 1 0 1, .ptr 2 0 1] [(0, ⟨.box, [.int .i64 n]⟩), (1, ⟨.box, [.ref 400 0 L.length L.length L.length 1 false]⟩), (2, ⟨.box, [rwK 0 1 2]⟩), (99, ⟨.row, c⟩), (100, ⟨.row, ics l'⟩), (400, ⟨.row, lcs L⟩)] 400 =
    some (.tup [], [(0, ⟨.box, [.int .i64 n]⟩), (1, ⟨.box, [.ref 400 0 (L ++ fuR l' m left most).length (L ++ fuR l' m left most).length (L ++ fuR l' m left most).length 1 false]⟩), (2, ⟨.box, [rwK 0 1 2]⟩), (99, ⟨.row, c⟩), (100, ⟨st, ics l'⟩), (400, ⟨.row, lcs (L ++ fuR l' m left most)⟩)]) := by
  obtain ⟨H, st, hp, ro⟩ := hC.b L h0 h8
  refine ⟨st, ?_⟩
  rw [kF_fr rfl]
  have hks : (mark [(0, ⟨.box, [.int .i64 n]⟩), (1, ⟨.box, [.ref 400 0 L.length L.length L.length 1 false]⟩), (2, ⟨.box, [rwK 0 1 2]⟩), (99, ⟨.row, c⟩), (100, ⟨.row, ics l'⟩), (400, ⟨.row, lcs L⟩)] 1000 (refsL [.ref 100 0 k k k 1 false, .int .i64 left, .int .i64 most, .ptr 0 0 1, .ptr 1 0 1, .ptr 2 0 1]) []).reverse = [100, 0, 1, 400, 2] := rfl
  have hap : AM.apart [100, 0, 1, 400, 2] = true := rfl
  have e1 : renL (posF [100, 0, 1, 400, 2] 0) [.ref 100 0 k k k 1 false, .int .i64 left, .int .i64 most, .ptr 0 0 1, .ptr 1 0 1, .ptr 2 0 1] = some [.ref 0 0 k k k 1 false, .int .i64 left, .int .i64 most, .ptr 1 0 1, .ptr 2 0 1, .ptr 4 0 1] := rfl
  have e2 : foc (posF [100, 0, 1, 400, 2] 0) [(0, ⟨.box, [.int .i64 n]⟩), (1, ⟨.box, [.ref 400 0 L.length L.length L.length 1 false]⟩), (2, ⟨.box, [rwK 0 1 2]⟩), (99, ⟨.row, c⟩), (100, ⟨.row, ics l'⟩), (400, ⟨.row, lcs L⟩)] 0 [100, 0, 1, 400, 2] = some (rhB l' n L) := rfl
  have hn := newsB ro
  obtain ⟨h0, hs, h1, h2, h3, h4⟩ := ro
  have hl5 : ([100, 0, 1, 400, 2] : List Nat).length = 5 := rfl
  have er : List.range 5 = [0, 1, 2, 3, 4] := rfl
  rw [hks]
  unfold focus
  rw [if_pos hap]
  simp only [e1, e2, hp, backF, hl5, hn, er]
  rcases hs with rfl | rfl <;>
  simp only [List.length_nil, baseF, freeL, AM.apart, if_true, List.append_nil, ren, renL, unf, outF, posF, h0, h1, h2, h3, h4, List.getElem?_cons_zero, List.getElem?_cons_succ, Nat.reduceLT, goodB, BS.open_, Bool.true_or, Bool.false_or, rhB, hget_cons', decide_true, Bool.and_self, renB, hl5, upds, hset_cons', hset_nil', Nat.reduceEqDiff, Nat.reduceLeDiff, if_false, Nat.reduceAdd, reduceCtorEq]
end
noncomputable abbrev rsN (n : Nat) (left t : Int) (L : List (List Int)) : St :=
  ([(9, .int .i64 t), (5, .ptr 2 0 1), (1, .int .i64 left), (0, .nilsl)], (0, ⟨.box, [.int .i64 n]⟩) :: (1, ⟨.box, [oV 400 1 L.length]⟩) :: (2, ⟨.box, [rwK 0 1 2]⟩) :: oH 400 (lcs L))
theorem rwN_go {d : Nat} {n m : Nat} {left t : Int} (ht : 0 ≤ t ∧ t ≤ 1000) (hlf : 0 ≤ left ∧ left ≤ 1000) (hC : RoC d [t] n 1 m (left - t) t) (L : List (List Int)) (h8 : L.length + 9 ^ m ≤ 900000) :
    ∃ s', execA E (kF d) (fg 105) 64 42 (rhN n) 1000000 c105_16 (rsN n left t L) = some (.normal, s') ∧ headA (rhN n) s' = rsN n left (t - 1) (L ++ fuR [t] m (left - t) t) := by
  have e1 : ics [t] = [.int .i64 t] := rfl
  have g1 : t ≥ 0 := ht.1
  have w1 : wrp .i64 (left - t) = left - t := wrp64 (by omega)
  have w2 : wrp .i64 (t - 1) = t - 1 := wrp64 (by omega)
  rcases ocvL 400 L with ⟨hn0, o1, o2⟩ | ⟨hp0, o1, o2⟩
  · obtain ⟨st, hc⟩ := rw_callN0 (c := [.int .i64 t]) hC
    subst hn0
    rw [List.nil_append]
    simp only [rsN]
    rw [o1, o2]
    rw [e1] at hc
    generalize fuR [t] m (left - t) t = new at *
    generalize kF d = C at *
    rcases ocvL 400 new with ⟨hn1, p1, p2⟩ | ⟨hp1, p1, p2⟩ <;> rw [p1, p2] at hc ⊢ <;>
      simp (disch := omega) only [ZF, stp, just, Rd.bind, Rd.run, Rd.opt, upds, acells, zeroCells, tsz, elemT, rdCells, aLoad, fresh, aNum, aLen, aBuiltin, aBin, aInt, putC, evO, Nat.reduceAdd, Nat.reduceMul, Nat.reduceLT, Nat.reduceBEq, Nat.reduceEqDiff, Nat.reduceLeDiff, ↓reduceIte, reduceCtorEq, stpT, Rd.foot, writing, touching, Tr.empty, dynPairs, apartT, disj, aBuildSlice, aBuildAt, partsOf, fillA, repC, isSliceT, aAppend, srcOf, window, mutX, snaps, aSlice, aBounds, bMax, bHigh, bLow, Int.reduceLE, Int.reduceToNat, ZT, F_105, callVT, rw_mut, g1, w1, w2, hc, room22 (show 1 ≤ 1000000 by omega)] <;> exact ⟨_, rfl, rfl⟩
  · obtain ⟨st, hc⟩ := rw_callN1 (c := [.int .i64 t]) hC hp0 h8
    simp only [rsN]
    rw [o1, o2, ov_pos (show 0 < (L ++ fuR [t] m (left - t) t).length by rw [List.length_append]; omega), ohl_pos (show 0 < (L ++ fuR [t] m (left - t) t).length by rw [List.length_append]; omega)]
    rw [e1] at hc
    generalize L ++ fuR [t] m (left - t) t = new at *
    generalize lcs new = LN at *
    generalize new.length = nn at *
    generalize lcs L = LL at *
    generalize L.length = ll at *
    generalize kF d = C at *
    simp (disch := omega) only [ZF, stp, just, Rd.bind, Rd.run, Rd.opt, upds, acells, zeroCells, tsz, elemT, rdCells, aLoad, fresh, aNum, aLen, aBuiltin, aBin, aInt, putC, evO, Nat.reduceAdd, Nat.reduceMul, Nat.reduceLT, Nat.reduceBEq, Nat.reduceEqDiff, Nat.reduceLeDiff, ↓reduceIte, reduceCtorEq, stpT, Rd.foot, writing, touching, Tr.empty, dynPairs, apartT, disj, aBuildSlice, aBuildAt, partsOf, fillA, repC, isSliceT, aAppend, srcOf, window, mutX, snaps, aSlice, aBounds, bMax, bHigh, bLow, Int.reduceLE, Int.reduceToNat, ZT, F_105, callVT, rw_mut, g1, w1, w2, hc, room22 (show 1 ≤ 1000000 by omega)]
    exact ⟨_, rfl, rfl⟩
/-- From no number chosen. -/
structure RoN (n : Nat) (new : List (List Int)) (H : AHeap) : Prop where
  h0 : hget H 0 = some ⟨.box, [.int .i64 n]⟩
  h1 : hget H 1 = some ⟨.box, [oV 400 1 new.length]⟩
  h2 : hget H 2 = some ⟨.box, [rwK 0 1 2]⟩
  hr : 0 < new.length → hget H 400 = some ⟨.row, lcs new⟩
theorem rw_none {d n : Nat} (h0 : 0 < n) (h6 : n ≤ 6) {left : Int} (hlf : 0 ≤ left ∧ left ≤ 1000) : ∃ H, pF (d + n + 1) 105 [.nilsl, .int .i64 left, .int .i64 8, .ptr 0 0 1, .ptr 1 0 1, .ptr 2 0 1] (rhN n) 64 = some (.tup [], H) ∧ RoN n (rowsL n left 8) H := by
  obtain ⟨m, rfl⟩ : ∃ m, n = m + 1 := ⟨n - 1, by omega⟩
  obtain ⟨m0, hm0⟩ : ∃ m0 : Nat, min 8 left = m0 := ⟨(min 8 left).toNat, by omega⟩
  have hrec : ∀ j : Nat, j < m0 + 1 → RoC (d + m + 1) ([] ++ [((m0 : Int) - j)]) (m + 1) 1 m (left - ((m0 : Int) - j)) ((m0 : Int) - j) := fun j hj =>
    rw_all h6 m _ 1 _ _ rfl (by omega) (by omega) (by omega)
  have hall := fuP_all [] m hm0
  rw [fuR_nil] at hall
  have h9 : 9 ^ (m + 1) ≤ 531441 := by have := Nat.pow_le_pow_right (n := 9) (by omega) (show m + 1 ≤ 6 by omega); omega
  have h9' : 9 ^ (m + 1) = 9 * 9 ^ m := by rw [Nat.pow_succ, Nat.mul_comm]
  have hfl : ∀ j, j ≤ m0 + 1 → (fuP [] m left m0 j).length ≤ j * 9 ^ m := fuP_len [] m left m0 (by omega)
  have hj9 : ∀ j, j ≤ m0 → j * 9 ^ m ≤ 8 * 9 ^ m := fun j hj => Nat.mul_le_mul_right _ (by omega)
  have emin : (if left < 8 then left else 8) = (m0 : Int) := by rw [← hm0]; split <;> omega
  have gk : ¬ (0 : Int) = ((m + 1 : Nat) : Int) := by omega
  have gk' : ((0 : Int) == ((m + 1 : Nat) : Int)) = false := by rw [beq_eq_false_iff_ne]; exact gk
  have e2 : ∀ j : Nat, (m0 : Int) - ((j + 1 : Nat) : Int) = (m0 : Int) - j - 1 := fun j => by omega
  have ge : ¬ (m0 : Int) - ((m0 + 1 : Nat) : Int) ≥ 0 := by omega
  rw [show d + (m + 1) + 1 = (d + m + 1) + 1 by omega, pF_s]
  have hloop := loopM (f := execA E (kF (d + m + 1)) (fg 105) 64 42 (rhN (m + 1)) 1000000 c105_16) (E0 := rhN (m + 1)) (fun j => rsN (m + 1) left ((m0 : Int) - j) (fuP [] m left m0 j)) (m0 + 1) (fun j hj => by
      simp only [fuP_snoc, e2]
      exact rwN_go (by omega) hlf (hrec j hj) (fuP [] m left m0 j) (by have := hfl j (by omega); have := hj9 j (by omega); omega)) (by
      have e0 : fuP [] m left m0 0 = [] := rfl
      simp only [rsN, e0]; rfl) (by omega)
    (e := .exit 0) (se := ([(24, .bool false), (9, .int .i64 ((m0 : Int) - ((m0 + 1 : Nat) : Int))), (5, .ptr 2 0 1), (1, .int .i64 left), (0, .nilsl)], (0, ⟨.box, [.int .i64 ((m + 1 : Nat) : Int)]⟩) :: (1, ⟨.box, [oV 400 1 (rowsL (m + 1) left 8).length]⟩) :: (2, ⟨.box, [rwK 0 1 2]⟩) :: oH 400 (lcs (rowsL (m + 1) left 8))))
    (by
      simp only [rsN, hall]
      rcases ocvL 400 (rowsL (m + 1) left 8) with ⟨_, o1, o2⟩ | ⟨_, o1, o2⟩ <;> rw [o1, o2] <;>
        simp (disch := omega) only [ZF, stp, just, Rd.bind, Rd.run, Rd.opt, upds, aBin, aInt, Nat.reduceBEq, Nat.reduceEqDiff, Nat.reduceLeDiff, ↓reduceIte, F_105, ge]) (by simp)
  have e0 : fuP [] m left m0 0 = [] := rfl
  have v0 : oV 400 1 ([] : List (List Int)).length = .nilsl := rfl
  have o0 : oH 400 (lcs []) = [] := rfl
  have z0 : (m0 : Int) - ((0 : Nat) : Int) = m0 := by omega
  simp only [rsN, e0, v0, o0, z0, rhN] at hloop
  simp only [rhN]
  generalize rowsL (m + 1) left 8 = R at *
  generalize kF (d + m + 1) = C at *
  rcases ocvL 400 R with ⟨hn1, o1, o2⟩ | ⟨hp1, o1, o2⟩ <;> rw [o1, o2] at hloop
  · simp (disch := omega) only [ZF, frame0, stp, justO, just, Rd.bind, Rd.run, Rd.opt, upds, acells, zeroCells, tsz, elemT, rdCells, aLoad, resA, resL, fresh, aLen, aBuiltin, aMin, aBin, aInt, putC, evO, Nat.reduceAdd, Nat.reduceLT, Nat.reduceBEq, Nat.reduceEqDiff, Nat.reduceLeDiff, ↓reduceIte, reduceCtorEq, aBuildSlice, aBuildAt, partsOf, fillA, repC, isSliceT, aAppend, srcOf, window, snaps, ZT, F_105, gk', emin, hloop]
    exact ⟨_, rfl, ⟨rfl, by rw [o1]; rfl, rfl, fun h => by rw [hn1] at h; simp at h⟩⟩
  · simp (disch := omega) only [ZF, frame0, stp, justO, just, Rd.bind, Rd.run, Rd.opt, upds, acells, zeroCells, tsz, elemT, rdCells, aLoad, resA, resL, fresh, aLen, aBuiltin, aMin, aBin, aInt, putC, evO, Nat.reduceAdd, Nat.reduceLT, Nat.reduceBEq, Nat.reduceEqDiff, Nat.reduceLeDiff, ↓reduceIte, reduceCtorEq, aBuildSlice, aBuildAt, partsOf, fillA, repC, isSliceT, aAppend, srcOf, window, snaps, ZT, F_105, gk', emin, hloop]
    exact ⟨_, rfl, ⟨rfl, by rw [o1]; rfl, rfl, fun h => rfl⟩⟩
theorem newsN {n : Nat} {new : List (List Int)} {H : AHeap} (h : RoN n new H) : newsF H (.tup []) 3 = if new = [] then [] else [400] := by
  obtain ⟨h0, h1, h2, hr⟩ := h
  have e : refsOf (.tup []) ++ List.range 3 = [0, 1, 2] := rfl
  unfold newsF
  rw [e]
  cases hn : new with
  | nil =>
    subst hn
    rw [if_pos rfl]
    have hv : oV 400 1 ([] : List (List Int)).length = .nilsl := rfl
    rw [hv] at h1
    simp [mark, h0, h1, h2, refsL, refsOf]
  | cons x xs =>
    rw [← hn]
    have hp : 0 < new.length := by rw [hn]; simp
    rw [if_neg (by rw [hn]; simp)]
    rw [ov_pos hp] at h1
    have hr := hr hp
    simp [mark, h0, h1, h2, hr, refsL, refsOf]
theorem rw_top {d n : Nat} (h0 : 0 < n) (h6 : n ≤ 6) {left : Int} (hlf : 0 ≤ left ∧ left ≤ 1000) : kF (d + n + 1) 105 [.nilsl, .int .i64 left, .int .i64 8, .ptr 2 0 1, .ptr 5 0 1, .ptr 6 0 1] [(2, ⟨.box, [.int .i64 n]⟩), (5, ⟨.box, [.nilsl]⟩), (6, ⟨.box, [rwK 2 5 6]⟩)] 96 =
    some (.tup [], (2, ⟨.box, [.int .i64 n]⟩) :: (5, ⟨.box, [oV 96 1 (rowsL n left 8).length]⟩) :: (6, ⟨.box, [rwK 2 5 6]⟩) :: oH 96 (lcs (rowsL n left 8))) := by
  obtain ⟨H, hp, ro⟩ := rw_none (d := d) h0 h6 hlf
  rw [kF_fr rfl]
  have hks : (mark [(2, ⟨.box, [.int .i64 n]⟩), (5, ⟨.box, [.nilsl]⟩), (6, ⟨.box, [rwK 2 5 6]⟩)] 1000 (refsL [.nilsl, .int .i64 left, .int .i64 8, .ptr 2 0 1, .ptr 5 0 1, .ptr 6 0 1]) []).reverse = [2, 5, 6] := rfl
  have hap : AM.apart [2, 5, 6] = true := rfl
  have e1 : renL (posF [2, 5, 6] 0) [.nilsl, .int .i64 left, .int .i64 8, .ptr 2 0 1, .ptr 5 0 1, .ptr 6 0 1] = some [.nilsl, .int .i64 left, .int .i64 8, .ptr 0 0 1, .ptr 1 0 1, .ptr 2 0 1] := rfl
  have e2 : foc (posF [2, 5, 6] 0) [(2, ⟨.box, [.int .i64 n]⟩), (5, ⟨.box, [.nilsl]⟩), (6, ⟨.box, [rwK 2 5 6]⟩)] 0 [2, 5, 6] = some (rhN n) := rfl
  have hn := newsN ro
  obtain ⟨h0, h1, h2, hr⟩ := ro
  have hl3 : ([2, 5, 6] : List Nat).length = 3 := rfl
  have er : List.range 3 = [0, 1, 2] := rfl
  rw [hks]
  unfold focus
  rw [if_pos hap]
  simp only [e1, e2, hp, backF, hl3, hn, er]
  rcases ocvL 96 (rowsL n left 8) with ⟨hn0, o1, o2⟩ | ⟨hp0, o1, o2⟩
  · rw [o1, o2]
    rw [hn0] at h1
    have hv : oV 400 1 ([] : List (List Int)).length = .nilsl := rfl
    rw [hv] at h1
    simp only [hn0, if_true, List.length_nil, baseF, freeL, AM.apart, List.append_nil, ren, renL, unf, outF, posF, h0, h1, h2, List.getElem?_cons_zero, List.getElem?_cons_succ, Nat.reduceLT, if_true, goodB, BS.open_, Bool.true_or, renB, hl3, upds, hset_cons', hset_nil', Nat.reduceEqDiff, Nat.reduceLeDiff, if_false, Nat.reduceAdd]
  · rw [o1, o2]
    rw [ov_pos hp0] at h1
    have hr := hr hp0
    have hne : ¬ rowsL n left 8 = [] := fun e => by rw [e] at hp0; simp at hp0
    have hbase : baseF [(2, ⟨.box, [.int .i64 n]⟩), (5, ⟨.box, [.nilsl]⟩), (6, ⟨.box, [rwK 2 5 6]⟩)] 1 8 96 = some 96 := rfl
    simp only [hne, if_false, List.length_cons, List.length_nil, Nat.zero_add, hbase, AM.apart, List.elem_nil, Bool.not_false, Bool.and_self, if_true, List.cons_append, List.nil_append, ren, renL, unf, outF, posF, h0, h1, h2, hr, List.getElem?_cons_zero, List.getElem?_cons_succ, Nat.reduceLT, goodB, BS.open_, Bool.true_or, renB, hl3, upds, hset_cons', hset_nil', Nat.reduceEqDiff, Nat.reduceLeDiff, Nat.add_zero, reduceCtorEq]
theorem rows_call {d n : Nat} {site : Nat → Nat} {seen : List Nat} (h0 : 0 < n) (h6 : n ≤ 6) {left : Int} (hlf : 0 ≤ left ∧ left ≤ 1000) : aBack site true seen (thaw (kF (d + n + 2)) 59 [.int .i64 n, .int .i64 left] [] 0) =
    if rowsL n left 8 = [] then .pure (.nilsl, []) else back1 (site 0) seen (fun k => .ref k 0 (rowsL n left 8).length (rowsL n left 8).length (rowsL n left 8).length 1 false) ⟨.row, lcs (rowsL n left 8)⟩ := by
  have hc := rw_top (d := d) h0 h6 hlf
  have key : (rowsL n left 8 = [] ∧ ∃ H, bodyA E (kF (d + n + 1)) fg 1000000 59 [.int .i64 n, .int .i64 left] [] 0 = some (.nilsl, H)) ∨ (0 < (rowsL n left 8).length ∧ ∃ H, bodyA E (kF (d + n + 1)) fg 1000000 59 [.int .i64 n, .int .i64 left] [] 0 = some (.ref 96 0 (rowsL n left 8).length (rowsL n left 8).length (rowsL n left 8).length 1 false, H) ∧ hget H 96 = some ⟨.row, lcs (rowsL n left 8)⟩) := by
    generalize rowsL n left 8 = R at *
    generalize kF (d + n + 1) = C at *
    rcases ocvL 96 R with ⟨hn1, o1, o2⟩ | ⟨hp1, o1, o2⟩ <;> rw [o1, o2] at hc
    · refine .inl ⟨hn1, ?_⟩
      simp (disch := omega) only [ZF, frame0, stp, opBox, just, Rd.bind, Rd.run, Rd.opt, upds, acells, zeroCells, tsz, rdCells, aLoad, aStore, opStore, resA, resL, fresh, putC, Nat.reduceMul, Nat.reduceBEq, Nat.reduceEqDiff, Nat.reduceLeDiff, ↓reduceIte, reduceCtorEq, mutX, snaps, ZT, F_59, callV, rw_mut, hc]
      exact ⟨_, rfl⟩
    · refine .inr ⟨hp1, ?_⟩
      simp (disch := omega) only [ZF, frame0, stp, opBox, just, Rd.bind, Rd.run, Rd.opt, upds, acells, zeroCells, tsz, rdCells, aLoad, aStore, opStore, resA, resL, fresh, putC, Nat.reduceMul, Nat.reduceBEq, Nat.reduceEqDiff, Nat.reduceLeDiff, ↓reduceIte, reduceCtorEq, mutX, snaps, ZT, F_59, callV, rw_mut, hc]
      exact ⟨_, rfl, rfl⟩
  rcases key with ⟨e, H, h1⟩ | ⟨hp, H, h1, h2⟩
  · rw [if_pos e]
    exact aBack_nil ⟨H, by rw [kF_no rfl]; exact h1⟩
  · rw [if_neg (fun e => by rw [e] at hp; simp at hp)]
    exact aBack_refc (by rw [kF_no rfl]; exact h1) h2 (lcs_length _)
end Go.AM.Ytfmnoohhhokicaa
end

section
namespace Go.AM.Ytfmnoohhhokicaa
open Go Go.AM Go.AM.Rub
set_option maxRecDepth 100000
set_option maxHeartbeats 4000000
theorem aBack_ref2int {C : Callee} {site : Nat → Nat} {seen : List Nat} {f : FuncId} {args : List AV} {id id' n n' g g' sz sz' : Nat} {cells cells' : List AV} {k : IntKind} {z : Int} {H' : AHeap} (h : C f args [] 0 = some (.tup [.ref id 0 n n g sz false, .ref id' 0 n' n' g' sz' false, .int k z], H')) (hg : hget H' id = some ⟨.row, cells⟩) (hg' : hget H' id' = some ⟨.row, cells'⟩) (hne : id' ≠ id) (hs : site 1 ≠ site 0) (e1 : cells.length = g) (e2 : cells'.length = g') :
    aBack site true seen (thaw C f args [] 0) = back2 (site 0) (site 1) seen (fun k0 k1 => .tup [.ref k0 0 n n g sz false, .ref k1 0 n' n' g' sz' false, .int k z]) ⟨.row, cells⟩ ⟨.row, cells'⟩ := by
  subst e1; subst e2
  have hb : ∀ off, (site 1 + off == site 0 + off) = false := fun off => by rw [beq_eq_false_iff_ne]; omega
  simp only [thaw, h, frzRet, aBack, sitesB, aBackAt, imp, imps, hg, hg', hne, hb, List.length_nil, List.length_cons, List.not_mem_nil, List.mem_cons, or_false, not_false_eq_true, and_true, if_true, List.map_cons, List.map_nil, AM.apart, List.elem_cons, List.elem_nil, Bool.not_false, Bool.and_true, AV.leads, AV.leads.leadsL, Bool.or_false, Bool.true_or, Nat.zero_add, back2]
def pairE (a b : List Int) : Int := if chkR a ≠ 0 then chkR a else if chkR b ≠ 0 then chkR b else if a.length ≠ b.length then 5 else if ps (rowF a) a.length ≠ ps (rowF b) b.length then 17 else 0
theorem pairE_zero {a b : List Int} : pairE a b = 0 ↔ ∃ n, 0 < n ∧ n ≤ 6 ∧ Rw n a ∧ Rw n b ∧ ps (rowF a) n = ps (rowF b) n := by
  unfold pairE
  by_cases ha : chkR a = 0
  · rw [if_neg (fun e => e ha)]
    by_cases hb : chkR b = 0
    · rw [if_neg (fun e => e hb)]
      obtain ⟨a1, a2, a3⟩ := chkR_zero.1 ha
      obtain ⟨b1, b2, b3⟩ := chkR_zero.1 hb
      by_cases hl : a.length = b.length
      · rw [if_neg (fun e => e hl)]
        by_cases hs : ps (rowF a) a.length = ps (rowF b) b.length
        · rw [if_neg (fun e => e hs)]
          rw [← hl] at hs b3
          exact ⟨fun _ => ⟨a.length, a1, a2, a3, b3, hs⟩, fun _ => rfl⟩
        · rw [if_pos hs]
          refine ⟨fun e => absurd e (by decide), fun ⟨n, _, _, r1, r2, r3⟩ => ?_⟩
          rw [r1.len, r2.len] at hs; exact absurd r3 hs
      · rw [if_pos hl]
        refine ⟨fun e => absurd e (by decide), fun ⟨n, _, _, r1, r2, r3⟩ => ?_⟩
        rw [r1.len, r2.len] at hl; exact absurd rfl hl
    · rw [if_pos hb]
      refine ⟨fun e => absurd e hb, fun ⟨n, h0, h6, r1, r2, r3⟩ => absurd (chkR_zero.2 ⟨by rw [r2.len]; exact h0, by rw [r2.len]; exact h6, by rw [r2.len]; exact r2⟩) hb⟩
  · rw [if_pos ha]
    refine ⟨fun e => absurd e ha, fun ⟨n, h0, h6, r1, r2, r3⟩ => absurd (chkR_zero.2 ⟨by rw [r1.len]; exact h0, by rw [r1.len]; exact h6, by rw [r1.len]; exact r1⟩) ha⟩
theorem pair_run {d : Nat} {l m : List Int} {a b : AV} (ha : IV l a) (hb : IV m b) (hl : l.length ≤ 1000) (hm : m.length ≤ 1000) :
    (pairE l m ≠ 0 ∧ ∃ H, bodyA E (kF (d + 1)) fg 1000000 85 [a, b] [] 0 = some (.tup [.nilsl, .nilsl, .int .i64 (pairE l m)], H)) ∨
    (pairE l m = 0 ∧ ∃ H, bodyA E (kF (d + 1)) fg 1000000 85 [a, b] [] 0 = some (.tup [.ref 20 0 (l.length + 1) (l.length + 1) (l.length + 1) 1 false, .ref 22 0 (m.length + 1) (m.length + 1) (m.length + 1) 1 false, .int .i64 0], H) ∧ hget H 20 = some ⟨.row, ics (riL l)⟩ ∧ hget H 22 = some ⟨.row, ics (riL m)⟩) := by
  have hc1 := fun (site : Nat → Nat) seen => check_call (d := d) (site := site) (seen := seen) ha hl
  have hc2 := fun (site : Nat → Nat) seen => check_call (d := d) (site := site) (seen := seen) hb hm
  have sa := iv_snap ha
  have sb := iv_snap hb
  unfold pairE
  by_cases h1 : chkR l = 0
  · rw [if_neg (fun e => e h1)]
    rw [h1] at hc1
    obtain ⟨a1, a2, a3⟩ := chkR_zero.1 h1
    by_cases h2 : chkR m = 0
    · rw [if_neg (fun e => e h2)]
      rw [h2] at hc2
      obtain ⟨b1, b2, b3⟩ := chkR_zero.1 h2
      have r1 := fun (site : Nat → Nat) seen => rises_call (d := d) (site := site) (seen := seen) ha a3 (by omega)
      have r2 := fun (site : Nat → Nat) seen => rises_call (d := d) (site := site) (seen := seen) hb b3 (by omega)
      obtain ⟨ea, rfl⟩ := iv_ne ha a1
      obtain ⟨eb, rfl⟩ := iv_ne hb b1
      have l1 := ics_length l
      have l2 := ics_length m
      have l3 := ri_len l
      have l4 := ri_len m
      generalize kF (d + 1) = C at *
      by_cases h3 : l.length = m.length
      · rw [if_neg (fun e => e h3)]
        have g1 : ¬ (l.length : Int) ≠ m.length := by omega
        have g2 : ((l.length : Int) != m.length) = false := by rw [bne_eq_false_iff_eq]; omega
        have g3 : (l.length : Int) = m.length := by omega
        have g4 : (l.length : Int) < ((l.length + 1 : Nat) : Int) := by omega
        have g5 : (m.length : Int) < ((m.length + 1 : Nat) : Int) := by omega
        have t1 : (ics (riL l))[l.length]? = some (.int .i64 (ps (rowF l) l.length)) := ics_at (riP_at (Nat.le_refl _))
        have t2 : (ics (riL m))[m.length]? = some (.int .i64 (ps (rowF m) m.length)) := ics_at (riP_at (Nat.le_refl _))
        by_cases h4 : ps (rowF l) l.length = ps (rowF m) m.length
        · rw [if_neg (fun e => e h4)]
          refine .inr ⟨rfl, ?_⟩
          generalize ps (rowF l) l.length = p at *
          generalize ps (rowF m) m.length = q at *
          subst h4
          simp (disch := omega) only [ZF, frame0, stp, just, Rd.bind, Rd.run, Rd.opt, upds, tsz, rdCells, aLoad, resA, resL, aIndexAddr, aNum, aLen, aBuiltin, aBin, aInt, Nat.reduceAdd, Nat.reduceLT, Nat.reduceBEq, Nat.reduceEqDiff, Nat.reduceLeDiff, ↓reduceIte, reduceCtorEq, stpT, Rd.foot, writing, touching, Tr.empty, dynPairs, apartT, disj, aCall, snaps, ZT, F_85, hc1, hc2, r1, r2, l3, l4, g2, g4, g5, t1, t2]
          exact ⟨_, rfl, rfl, rfl⟩
        · rw [if_pos h4]
          refine .inl ⟨by decide, ?_⟩
          generalize ps (rowF l) l.length = p at *
          generalize ps (rowF m) m.length = q at *
          have h4' : (p != q) = true := by rw [bne_iff_ne]; exact h4
          simp (disch := omega) only [ZF, frame0, stp, just, Rd.bind, Rd.run, Rd.opt, upds, tsz, rdCells, aLoad, resA, resL, aIndexAddr, aNum, aLen, aBuiltin, aBin, aInt, Nat.reduceAdd, Nat.reduceLT, Nat.reduceBEq, Nat.reduceEqDiff, Nat.reduceLeDiff, ↓reduceIte, reduceCtorEq, stpT, Rd.foot, writing, touching, Tr.empty, dynPairs, apartT, disj, aCall, snaps, ZT, F_85, hc1, hc2, r1, r2, l3, l4, g2, g4, g5, h4', t1, t2]
          exact ⟨_, rfl⟩
      · rw [if_pos h3]
        refine .inl ⟨by decide, ?_⟩
        have g1 : (l.length : Int) ≠ m.length := by omega
        have g2 : ((l.length : Int) != m.length) = true := by rw [bne_iff_ne]; omega
        have g3 : ¬ (l.length : Int) = m.length := by omega
        simp (disch := omega) only [ZF, frame0, stp, just, Rd.bind, Rd.run, Rd.opt, upds, tsz, rdCells, aLoad, resA, resL, aIndexAddr, aNum, aLen, aBuiltin, aBin, aInt, Nat.reduceAdd, Nat.reduceLT, Nat.reduceBEq, Nat.reduceEqDiff, Nat.reduceLeDiff, ↓reduceIte, reduceCtorEq, stpT, Rd.foot, aCall, snaps, ZT, F_85, hc1, hc2, r1, r2, l3, g2, if_pos]
        exact ⟨_, rfl⟩
    · rw [if_pos h2]
      refine .inl ⟨h2, ?_⟩
      generalize kF (d + 1) = C at *
      generalize chkR m = z at *
      have h0' : (z == 0) = false := by rw [beq_eq_false_iff_ne]; exact h2
      simp (disch := omega) only [ZF, frame0, stp, just, Rd.bind, Rd.run, Rd.opt, upds, resA, resL, aBin, aInt, Nat.reduceBEq, Nat.reduceEqDiff, Nat.reduceLeDiff, ↓reduceIte, reduceCtorEq, aCall, snaps, F_85, hc1, hc2, h2, sa 198, sb 198]
      exact ⟨_, rfl⟩
  · rw [if_pos h1]
    refine .inl ⟨h1, ?_⟩
    generalize kF (d + 1) = C at *
    generalize chkR l = z at *
    have h0' : (z == 0) = false := by rw [beq_eq_false_iff_ne]; exact h1
    simp (disch := omega) only [ZF, frame0, stp, just, Rd.bind, Rd.run, Rd.opt, upds, resA, resL, aBin, aInt, Nat.reduceBEq, Nat.reduceEqDiff, Nat.reduceLeDiff, ↓reduceIte, reduceCtorEq, aCall, snaps, F_85, hc1, h1, sa 198]
    exact ⟨_, rfl⟩
/-- What 'pair' gives. -/
def PaC (C : Callee) (a b : AV) (l m : List Int) : Prop :=
  (pairE l m ≠ 0 ∧ ∀ (site : Nat → Nat) seen, aBack site true seen (thaw C 85 [a, b] [] 0) = .pure (.tup [.nilsl, .nilsl, .int .i64 (pairE l m)], [])) ∨
  (pairE l m = 0 ∧ ∀ (site : Nat → Nat) seen, site 1 ≠ site 0 → aBack site true seen (thaw C 85 [a, b] [] 0) = back2 (site 0) (site 1) seen (fun k k' => .tup [.ref k 0 (l.length + 1) (l.length + 1) (l.length + 1) 1 false, .ref k' 0 (m.length + 1) (m.length + 1) (m.length + 1) 1 false, .int .i64 0]) ⟨.row, ics (riL l)⟩ ⟨.row, ics (riL m)⟩)
theorem paC {d : Nat} {l m : List Int} {a b : AV} (ha : IV l a) (hb : IV m b) (hl : l.length ≤ 1000) (hm : m.length ≤ 1000) : PaC (kF (d + 2)) a b l m := by
  rcases pair_run (d := d) ha hb hl hm with ⟨h, H, h1⟩ | ⟨h, H, h1, h2, h3⟩
  · exact .inl ⟨h, fun site seen => aBack_plain (by rw [kF_no rfl]; exact h1) rfl (fun _ => rfl) rfl⟩
  · exact .inr ⟨h, fun site seen hs => aBack_ref2int (by rw [kF_no rfl]; exact h1) h2 h3 (by decide) hs (ri_len l) (ri_len m)⟩
def ovE (a b : List Int) (i : Nat) : Int := if rowF a i < rowF b i then (i : Int) + 1 else 0
def ovV (a b : List Int) : Int := fe (ovE a b) 0 a.length - 1
abbrev ovS (a b : List Int) (x y : Bool) (i : Nat) : St := ([(8, .int .i64 i), (7, .int .i64 a.length), (1, .imm (ics b) b.length y), (0, .imm (ics a) a.length x)], [])
theorem over_run {C : Callee} {a b : List Int} {x y : Bool} (hl : a.length = b.length) (h9 : a.length ≤ 1000) : rsOf (bodyA E C fg 1000000 86 [.imm (ics a) a.length x, .imm (ics b) b.length y] [] 0) = some (.int .i64 (ovV a b)) := by
  have l1 := ics_length a
  have l2 := ics_length b
  have hloop := loopE (f := (execA E C (fg 86) 0 22 [] 1000000 c86_7)) (e := ovE a b) (R := fun e H => ([(4, .int .i64 (e - 1))], H)) (ovS a b x y) a.length (E0 := []) rfl (by omega) (x := .exit 0) (se := ([(9, .bool false), (8, .int .i64 a.length), (7, .int .i64 a.length), (1, .imm (ics b) b.length y), (0, .imm (ics a) a.length x)], [])) (by simp)
    (fun i hi _ he => by
      have a1 := icr_at (l := a) (k := i) hi
      have a2 := icr_at (l := b) (k := i) (by omega)
      have g1 : (i : Int) < a.length := by omega
      have g2 : (i : Int) < b.length := by omega
      have g3 : ¬ rowF a i < rowF b i := fun h => by unfold ovE at he; rw [if_pos h] at he; omega
      simp (disch := omega) only [ZF, stp, just, Rd.bind, Rd.run, Rd.opt, upds, tsz, rdCells, aLoad, aIndexAddr, aNum, aBin, aInt, Nat.reduceAdd, Nat.reduceLT, Nat.reduceBEq, Nat.reduceEqDiff, Nat.reduceLeDiff, ↓reduceIte, reduceCtorEq, stpT, Rd.foot, writing, touching, Tr.empty, dynPairs, ZT, F_86, ovS, g1, g2, g3, a1, a2, l1, l2, wrp_succ (show i < 1000000 by omega)]
      exact ⟨_, rfl, rfl⟩)
    (fun i hi _ he => by
      have a1 := icr_at (l := a) (k := i) hi
      have a2 := icr_at (l := b) (k := i) (by omega)
      have g1 : (i : Int) < a.length := by omega
      have g2 : (i : Int) < b.length := by omega
      by_cases g3 : rowF a i < rowF b i
      · have e : ovE a b i - 1 = i := by unfold ovE; rw [if_pos g3]; omega
        rw [e]
        simp (disch := omega) only [ZF, stp, just, Rd.bind, Rd.run, Rd.opt, upds, tsz, rdCells, aLoad, aIndexAddr, aNum, aBin, aInt, Nat.reduceAdd, Nat.reduceLT, Nat.reduceBEq, Nat.reduceEqDiff, Nat.reduceLeDiff, ↓reduceIte, reduceCtorEq, stpT, Rd.foot, writing, touching, Tr.empty, dynPairs, ZT, F_86, ovS, g1, g2, g3, a1, a2, l1, l2]
        exact ⟨_, rfl⟩
      · unfold ovE at he; rw [if_neg g3] at he; exact absurd rfl he)
    (fun _ => by simp (disch := omega) only [ZF, stp, just, Rd.bind, Rd.run, Rd.opt, upds, aBin, aInt, Nat.reduceEqDiff, Nat.reduceLeDiff, ↓reduceIte, F_86, ovS])
  simp only [ovS, cl0] at hloop
  unfold ovV
  rcases hloop with ⟨hz, hloop⟩ | ⟨hz, H, hloop⟩
  · rw [hz]
    have e : (0 : Int) - 1 = -1 := rfl
    rw [e]
    simp (disch := omega) only [ZF, frame0, stp, just, Rd.bind, Rd.run, upds, resA, resL, aLen, aBuiltin, Nat.reduceBEq, Nat.reduceEqDiff, Nat.reduceLeDiff, Int.reduceNeg, ↓reduceIte, reduceCtorEq, ZT, F_86, hloop]
  · simp (disch := omega) only [ZF, frame0, stp, just, Rd.bind, Rd.run, upds, resA, resL, aLen, aBuiltin, Nat.reduceBEq, Nat.reduceEqDiff, Nat.reduceLeDiff, ↓reduceIte, reduceCtorEq, ZT, F_86, hloop]
theorem over_call {d : Nat} {site : Nat → Nat} {seen : List Nat} {a b : List Int} {n : Nat} {x y : Bool} (h1 : a.length = n) (h2 : b.length = n) (h9 : n ≤ 1000) : aBack site true seen (thaw (kF (d + 1)) 86 [.imm (ics a) n x, .imm (ics b) n y] [] 0) = .pure (.int .i64 (ovV a b), []) := by
  have := aBack_int (site := site) (seen := seen) (kF_ex (d := d) (f := 86) rfl (over_run (C := kF d) (a := a) (b := b) (x := x) (y := y) (by omega) (by omega)))
  rw [h1, h2] at this
  exact this
/-- The first place whose rise is smaller, by the rows. -/
def whV (a b : List Int) : Int := ovV (riL a) (riL b)
theorem wh_neg {n : Nat} {a b : List Int} (ha : Rw n a) (hb : Rw n b) (he : ps (rowF a) n = ps (rowF b) n) : whV a b < 0 ↔ MajL a b := by
  have hla : (riL a).length = n + 1 := by show (riP a a.length).length = _; rw [riP_len, ha.len]
  have h0 : ∀ m k, 0 ≤ fe (ovE (riL a) (riL b)) k m := by
    intro m
    induction m with
    | zero => intro k; exact Int.le_refl _
    | succ m ih =>
      intro k
      simp only [fe]
      split
      · exact ih _
      · unfold ovE; split <;> omega
  have := h0 (riL a).length 0
  have hz : whV a b < 0 ↔ fe (ovE (riL a) (riL b)) 0 (riL a).length = 0 := by unfold whV ovV; omega
  rw [hz, fe_zero, hla]
  constructor
  · intro h
    refine ⟨by rw [ha.len]; exact he, fun k hk => ?_⟩
    rw [ha.len] at hk
    have := h k (by omega) (by omega)
    unfold ovE at this
    split at this
    · omega
    · rename_i hno
      rw [rowF_ri (by rw [ha.len]; omega), rowF_ri (by rw [hb.len]; omega)] at hno
      omega
  · intro h i _ hi
    unfold ovE
    rw [if_neg]
    rw [rowF_ri (by rw [ha.len]; omega), rowF_ri (by rw [hb.len]; omega)]
    have := h.le i (by rw [ha.len]; omega)
    omega
def becV (a b : List Int) : Bool := decide (pairE a b = 0 ∧ whV a b < 0)
theorem becomes_run {d : Nat} {l m : List Int} {a b : AV} (ha : IV l a) (hb : IV m b) (hl : l.length ≤ 1000) (hm : m.length ≤ 1000) : rsOf (bodyA E (kF (d + 2)) fg 1000000 27 [a, b] [] 0) = some (.tup [.bool (becV l m), .int .i64 (pairE l m)]) := by
  have hp := paC (d := d) ha hb hl hm
  have sa := iv_snap ha
  have sb := iv_snap hb
  unfold becV
  rcases hp with ⟨h, hp⟩ | ⟨h, hp⟩
  · rw [decide_eq_false fun e => h e.1]
    generalize kF (d + 2) = C at *
    generalize pairE l m = z at *
    have h0' : (z == 0) = false := by rw [beq_eq_false_iff_ne]; exact h
    simp (disch := omega) only [ZF, frame0, stp, justO, just, Rd.bind, Rd.run, Rd.opt, upds, opExtract, resA, resL, aBin, aInt, Nat.reduceBEq, Nat.reduceEqDiff, Nat.reduceLeDiff, ↓reduceIte, reduceCtorEq, aCall, snaps, F_27, hp, h, sa 198, sb 197]
  · obtain ⟨n, n0, n6, r1, r2, re⟩ := pairE_zero.1 h
    have ho := fun (site : Nat → Nat) seen x y => over_call (d := d + 1) (site := site) (seen := seen) (a := riL l) (b := riL m) (n := n + 1) (x := x) (y := y) (by show (riP l l.length).length = _; rw [riP_len, r1.len]) (by show (riP m m.length).length = _; rw [riP_len, r2.len]) (by omega)
    have e1 : ovV (riL l) (riL m) = whV l m := rfl
    rw [e1] at ho
    rw [r1.len, r2.len] at hp
    have l1 := ri_len l
    have l2 := ri_len m
    rw [r1.len] at l1
    rw [r2.len] at l2
    have t1 : List.take (n + 1) (ics (riL l)) = ics (riL l) := List.take_of_length_le (by omega)
    have t2 : List.take (n + 1) (ics (riL m)) = ics (riL m) := List.take_of_length_le (by omega)
    rw [h]
    generalize kF (d + 2) = C at *
    generalize whV l m = w at *
    by_cases hw : w < 0
    · rw [decide_eq_true ⟨rfl, hw⟩]
      simp (disch := omega) only [ZF, frame0, stp, justO, just, Rd.bind, Rd.run, Rd.opt, upds, opExtract, resA, resL, aBin, aInt, Nat.reduceAdd, Nat.reduceMul, Nat.reduceBEq, Nat.reduceEqDiff, Nat.reduceLeDiff, ↓reduceIte, reduceCtorEq, aCall, snaps, F_27, hp, ho, hw, l1, l2, t1, t2, sa 198, sb 197]
    · rw [decide_eq_false fun e => hw e.2]
      simp (disch := omega) only [ZF, frame0, stp, justO, just, Rd.bind, Rd.run, Rd.opt, upds, opExtract, resA, resL, aBin, aInt, Nat.reduceAdd, Nat.reduceMul, Nat.reduceBEq, Nat.reduceEqDiff, Nat.reduceLeDiff, ↓reduceIte, reduceCtorEq, aCall, snaps, F_27, hp, ho, hw, l1, l2, t1, t2, sa 198, sb 197]
theorem becomes_call {d : Nat} {site : Nat → Nat} {seen : List Nat} {l m : List Int} {a b : AV} (ha : IV l a) (hb : IV m b) (hl : l.length ≤ 1000) (hm : m.length ≤ 1000) : aBack site true seen (thaw (kF (d + 3)) 27 [a, b] [] 0) = .pure (.tup [.bool (becV l m), .int .i64 (pairE l m)], []) :=
  aBack_boolint (kF_ex rfl (becomes_run ha hb hl hm))
end Go.AM.Ytfmnoohhhokicaa
end

section
namespace Go.AM.Ytfmnoohhhokicaa
open Go Go.AM Go.AM.Rub
set_option maxRecDepth 100000
set_option maxHeartbeats 16000000
theorem take_all {n : Nat} {l : List Int} (h : Rw n l) : l.take n = l := List.take_of_length_le (by rw [h.len]; exact Nat.le_refl _)
theorem totalA {d : Nat} {site : Nat → Nat} {seen : List Nat} {n : Nat} {l : List Int} (h : Rw n l) (hn : n ≤ 8) {ex : Bool} : aBack site true seen (thaw (kF (d + 1)) 58 [.imm (ics l) n ex] [] 0) = .pure (.int .i64 (ps (rowF l) n), []) := by
  have := totalk_call (d := d) (site := site) (seen := seen) h hn (Nat.le_refl n) (ex := ex)
  rw [take_all h] at this
  exact this
theorem rows_mem {n : Nat} {l : List Int} (h : Rw n l) : l ∈ rowsL n (ps (rowF l) n) 8 := by
  rw [mem_rowsL]
  exact ⟨h.len, by rw [← ps_tot, h.len], h.row⟩
theorem rows_rw {n : Nat} {s : Int} {l : List Int} (h : l ∈ rowsL n s 8) : Rw n l ∧ ps (rowF l) n = s := by
  rw [mem_rowsL] at h
  exact ⟨⟨h.1, h.2.2⟩, by rw [← h.2.1, ← ps_tot, h.1]⟩
theorem chk_ok {n : Nat} {l : List Int} (h : Rw n l) (h0 : 0 < n) (h6 : n ≤ 6) : chkR l = 0 := by
  rw [chkR_zero, h.len]; exact ⟨h0, h6, h⟩
end Go.AM.Ytfmnoohhhokicaa
end

section
namespace Go.AM.Rub
set_option maxRecDepth 100000
/-- Of two rows of a sum that are alike the one majorizes the other. -/
theorem majL_refl (a : List Int) : MajL a a := Maj.refl _ _
end Go.AM.Rub
end

section
namespace Go.AM.Ytfmnoohhhokicaa
open Go Go.AM Go.AM.Rub
set_option maxRecDepth 100000
set_option maxHeartbeats 8000000
theorem ps_mono {n : Nat} {a : List Int} (h : Rw n a) : ∀ m j, j + m ≤ n → ps (rowF a) j ≤ ps (rowF a) (j + m)
  | 0, j, _ => Int.le_refl _
  | m + 1, j, hj => by
    have ih := ps_mono h m j (by omega)
    have := rw_b h (k := j + m) (by omega)
    rw [show j + (m + 1) = j + m + 1 by omega, ps]
    omega
theorem ok_maj {n : Nat} {a l : List Int} (ha : Rw n a) (hl : Rw n l) (he : ps (rowF l) n = ps (rowF a) n) : okE (ps (rowF a)) 0 0 l = true ↔ MajL a l := by
  rw [okE_of, hl.len]
  constructor
  · intro h
    refine ⟨by rw [ha.len, he], fun k hk => ?_⟩
    rw [ha.len] at hk
    cases k with
    | zero => exact Int.le_refl _
    | succ k =>
      have := h k (by omega)
      rw [Nat.zero_add] at this
      omega
  · intro h j hj
    have := h.le (j + 1) (by rw [ha.len]; omega)
    rw [Nat.zero_add]
    omega
theorem beL_ok {n : Nat} {a : List Int} (ha : Rw n a) (p : List Int → Bool) (hp : ∀ l, Rw n l → ps (rowF l) n = ps (rowF a) n → (p l = true ↔ MajL a l)) : beL a = (rowsL n (ps (rowF a) n) 8).filter p := by
  unfold beL
  have hx : ∀ j, j ≤ a.length → ps (rowF a) j ≤ ps (rowF a) a.length := fun j hj => by
    have := ps_mono ha (a.length - j) j (by rw [ha.len] at hj ⊢; omega)
    rw [show j + (a.length - j) = a.length by omega] at this
    exact this
  rw [eaR_eq hx a.length [] 0 8 (by simp) (by omega) (fun h0 => by rw [h0]; rfl), ha.len, Int.sub_zero]
  simp only [List.nil_append, List.map_id']
  apply List.filter_congr
  intro l hl
  obtain ⟨h1, h2⟩ := rows_rw hl
  rw [Bool.eq_iff_iff, hp l h1 h2]
  exact ok_maj ha h1 h2
theorem mem_beL {n : Nat} {a l : List Int} (ha : Rw n a) : l ∈ beL a ↔ Rw n l ∧ ps (rowF l) n = ps (rowF a) n ∧ MajL a l := by
  rw [beL_ok ha (okE (ps (rowF a)) 0 0) fun l hl he => ok_maj ha hl he, List.mem_filter]
  constructor
  · rintro ⟨h, ho⟩
    obtain ⟨h1, h2⟩ := rows_rw h
    exact ⟨h1, h2, (ok_maj ha h1 h2).1 ho⟩
  · rintro ⟨h1, h2, h3⟩
    refine ⟨by rw [← h2]; exact rows_mem h1, (ok_maj ha h1 h2).2 h3⟩
theorem beL_pos {n : Nat} {a : List Int} (ha : Rw n a) : 0 < (beL a).length := List.length_pos_of_mem ((mem_beL ha).2 ⟨ha, rfl, majL_refl a⟩)
theorem beL_le {n : Nat} {a : List Int} (ha : Rw n a) : (beL a).length ≤ (rowsL n (ps (rowF a) n) 8).length := by
  rw [beL_ok ha (okE (ps (rowF a)) 0 0) fun l hl he => ok_maj ha hl he]
  exact List.length_filter_le _ _
theorem rows_len {n : Nat} {s : Int} (h : n ≤ 6) : (rowsL n s 8).length ≤ 531441 := by
  have := rowsL_len n s 8 (by omega)
  have := Nat.pow_le_pow_right (n := 9) (show 0 < 9 by omega) h
  omega
/-- Below, or the error. -/
theorem Below_run {d : Nat} {l : List Int} {a : AV} (ha : IV l a) (hl : l.length ≤ 1000) :
    (chkR l ≠ 0 ∧ ∃ H, bodyA E (kF (d + 10)) fg 1000000 37 [a] [] 0 = some (.tup [.nilsl, .int .i64 (chkR l)], H)) ∨
    (chkR l = 0 ∧ ∃ H, bodyA E (kF (d + 10)) fg 1000000 37 [a] [] 0 = some (.tup [.ref 232 0 (beL l).length (beL l).length (beL l).length 1 false, .int .i64 0], H) ∧ hget H 232 = some ⟨.row, lcs (beL l)⟩) := by
  have hc := fun (site : Nat → Nat) seen => check_call (d := d + 9) (site := site) (seen := seen) ha hl
  have sn := iv_snap ha
  by_cases h0 : chkR l = 0
  · obtain ⟨hp, h6, hr⟩ := chkR_zero.1 h0
    obtain ⟨H, he, h5, h232⟩ := each_run (d := d + 6 - l.length) ha hr hp h6
    rw [show d + 6 - l.length + l.length + 3 = d + 9 by omega] at he
    have he := (kF_no (d := d + 9) (f := 92) rfl [a, vB 5] [(5, ⟨.box, [.nilsl]⟩)] 120).trans he
    have h232 := h232 (beL_pos hr)
    rw [ov_pos (beL_pos hr)] at h5
    refine .inr ⟨h0, H, ?_⟩
    rw [h0] at hc
    generalize kF (d + 10) = C at *
    simp (disch := omega) only [ZF, frame0, stp, opBox, just, Rd.bind, Rd.run, Rd.opt, upds, zeroCells, rdCells, aLoad, resA, resL, fresh, aBin, aInt, Nat.reduceMul, Nat.reduceBEq, Nat.reduceEqDiff, Nat.reduceLeDiff, ↓reduceIte, reduceCtorEq, mutX, aCall, snaps, ZT, F_37, hc, he, h5, h232, sn 198]
  · refine .inl ⟨h0, ?_⟩
    generalize kF (d + 10) = C at *
    generalize chkR l = z at *
    have h0' : (z == 0) = false := by rw [beq_eq_false_iff_ne]; exact h0
    simp (disch := omega) only [ZF, frame0, stp, just, Rd.bind, Rd.run, Rd.opt, upds, resA, resL, aBin, aInt, Nat.reduceBEq, Nat.reduceEqDiff, Nat.reduceLeDiff, ↓reduceIte, reduceCtorEq, aCall, snaps, F_37, hc, h0, sn 198]
    exact ⟨_, rfl⟩
/-- A call that gives rows, or an error. -/
def RLL (C : Callee) (f : FuncId) (args : List AV) (e : Int) (L : List (List Int)) : Prop :=
  (e ≠ 0 ∧ ∀ (site : Nat → Nat) seen, aBack site true seen (thaw C f args [] 0) = .pure (.tup [.nilsl, .int .i64 e], [])) ∨
  (e = 0 ∧ ∀ (site : Nat → Nat) seen, aBack site true seen (thaw C f args [] 0) = back1 (site 0) seen (fun k => .tup [.ref k 0 L.length L.length L.length 1 false, .int .i64 0]) ⟨.row, lcs L⟩)
theorem below_rl {d : Nat} {l : List Int} {a : AV} (ha : IV l a) (hl : l.length ≤ 1000) : RLL (kF (d + 11)) 37 [a] (chkR l) (beL l) := by
  rcases Below_run (d := d) ha hl with ⟨h0, H, h⟩ | ⟨h0, H, h1, h2⟩
  · exact .inl ⟨h0, fun site seen => aBack_nilint ⟨H, by rw [kF_no rfl]; exact h⟩⟩
  · exact .inr ⟨h0, fun site seen => aBack_refcint (by rw [kF_no rfl]; exact h1) h2 (lcs_length _)⟩
theorem below_call {d n : Nat} {l : List Int} {a : AV} (ha : IV l a) (hr : Rw n l) (h0 : 0 < n) (h6 : n ≤ 6) (site : Nat → Nat) (seen : List Nat) :
    aBack site true seen (thaw (kF (d + 11)) 37 [a] [] 0) = back1 (site 0) seen (fun k => .tup [.ref k 0 (beL l).length (beL l).length (beL l).length 1 false, .int .i64 0]) ⟨.row, lcs (beL l)⟩ := by
  rcases below_rl (d := d) ha (by rw [hr.len]; omega) with ⟨hz, _⟩ | ⟨_, h⟩
  · exact absurd (chk_ok hr h0 h6) hz
  · exact h site seen
end Go.AM.Ytfmnoohhhokicaa
end

section
namespace Go.AM.Rub
theorem rowF_snoc {l : List Int} {t : Int} {k : Nat} (h : k < l.length) : rowF (l ++ [t]) k = rowF l k := by
  simp [rowF, List.getElem?_append_left h]
theorem rowF_last {l : List Int} {t : Int} : rowF (l ++ [t]) l.length = t := by simp [rowF]
theorem ps_snoc {l : List Int} {t : Int} {k : Nat} (h : k ≤ l.length) : ps (rowF (l ++ [t])) k = ps (rowF l) k := ps_congr k fun i hi => rowF_snoc (by omega)
theorem isRow_snoc0 : ∀ {l : List Int} {m : Int}, 0 ≤ m → IsRow m l → IsRow m (l ++ [0])
  | [], _, h, _ => ⟨Int.le_refl _, h, trivial⟩
  | _ :: _, _, _, ⟨h1, h2, h3⟩ => ⟨h1, h2, isRow_snoc0 h1 h3⟩
theorem rw_snoc0 {n : Nat} {l : List Int} (h : Rw n l) : Rw (n + 1) (l ++ [0]) := ⟨by simp [h.len], isRow_snoc0 (by omega) h.row⟩
theorem ps_all0 {n : Nat} {l : List Int} (h : Rw n l) : ps (rowF (l ++ [0])) (n + 1) = ps (rowF l) n := by
  have hl := h.len
  rw [ps, ps_snoc (by omega), ← hl, rowF_last]; omega
theorem maj_snoc0 {n : Nat} {a b : List Int} (ha : Rw n a) (hb : Rw n b) : MajL (a ++ [0]) (b ++ [0]) ↔ MajL a b := by
  have la := ha.len
  have lb := hb.len
  constructor
  · intro h
    have h1 := h.eq
    rw [List.length_append, List.length_singleton, la, ps_all0 ha, ps_all0 hb] at h1
    refine ⟨by rw [la]; exact h1, fun k hk => ?_⟩
    have := h.le k (by rw [List.length_append, List.length_singleton]; omega)
    rw [ps_snoc (by omega), ps_snoc (by omega)] at this
    exact this
  · intro h
    have h1 := h.eq
    rw [la] at h1
    refine ⟨by rw [List.length_append, List.length_singleton, la, ps_all0 ha, ps_all0 hb]; exact h1, fun k hk => ?_⟩
    rw [List.length_append, List.length_singleton, la] at hk
    by_cases hkn : k = n + 1
    · subst hkn; rw [ps_all0 ha, ps_all0 hb]; omega
    · rw [ps_snoc (by omega), ps_snoc (by omega)]
      exact h.le k (by omega)
end Go.AM.Rub
end

section
namespace Go.AM.Ytfmnoohhhokicaa
open Go Go.AM
set_option maxRecDepth 100000
variable {C : Callee} {B N : Nat} {E0 : AHeap} (φ : AFr) (H : AHeap) (s : St)
noncomputable def c75_0 : Code := kBody Proofs.Try.f75
noncomputable def c75_1 : Code := kL c75_0
noncomputable def r75_0 : Array Oper := kO c75_1
noncomputable def o75_0_0 : Oper := opN r75_0 0
theorem x75_1 : execA E C (fg 75) B 7 E0 N c75_1 s = regX (runA E C B 7 r75_0 r75_0.toList s) (fun s => gcM E0 [3] (forget s.1 [3], s.2)) := x_reg (ops := r75_0) (by rfl) (by rfl) s
theorem r75_0_l : r75_0.toList = [o75_0_0] := nrfl rfl
theorem s75_0_0 : stepA E C B 7 r75_0 o75_0_0 (φ, H) = some (fput φ 3 (.bool false), H) := nrfl rfl
noncomputable def c75_2 : Code := kR c75_0
noncomputable def c75_3 : Code := kL c75_2
noncomputable def r75_1 : Array Oper := kO c75_3
noncomputable def o75_1_0 : Oper := opN r75_1 0
noncomputable def o75_1_1 : Oper := opN r75_1 1
noncomputable def o75_1_2 : Oper := opN r75_1 2
noncomputable def o75_1_3 : Oper := opN r75_1 3
theorem x75_3 : execA E C (fg 75) B 7 E0 N c75_3 s = regX (runA E C B 7 r75_1 r75_1.toList s) (fun s => gcM E0 [0, 1, 4, 5, 6] (forget s.1 [0, 1, 4, 5, 6], s.2)) := x_reg (ops := r75_1) (by rfl) (by rfl) s
theorem r75_1_l : r75_1.toList = [o75_1_0, o75_1_1, o75_1_2, o75_1_3] := nrfl rfl
theorem s75_1_0 : stepA E C B 7 r75_1 o75_1_0 (φ, H) = stp (some 4) φ H (just (aLoad E.T 22 (fget φ 1))) := nrfl rfl
theorem s75_1_1 : stepA E C B 7 r75_1 o75_1_1 (φ, H) = some (fput φ 5 (fget φ 0), H) := nrfl rfl
theorem s75_1_2 : stepA E C B 7 r75_1 o75_1_2 (φ, H) = stp (some 6) φ H (aCall C (fun j => B + j * 7 + 6) true 24 [(fget φ 4), (fget φ 5)]) := nrfl rfl
theorem s75_1_3 : stepA E C B 7 r75_1 o75_1_3 (φ, H) = some (fput φ 3 (fget φ 6), H) := nrfl rfl
noncomputable def c75_4 : Code := kR c75_2
theorem x75_4 : execA E C (fg 75) B 7 E0 N c75_4 s = some (.ret, s) := x_ret (by rfl) s
theorem x75_2 : execA E C (fg 75) B 7 E0 N c75_2 s = seqX (execA E C (fg 75) B 7 E0 N c75_3 s) (execA E C (fg 75) B 7 E0 N c75_4) := x_seq (by rfl) s
theorem x75_0 : execA E C (fg 75) B 7 E0 N c75_0 s = seqX (execA E C (fg 75) B 7 E0 N c75_1 s) (execA E C (fg 75) B 7 E0 N c75_2) := x_seq (by rfl) s
theorem fi_75 : fInfo E 75 = some ⟨7, #[.tmp 3], c75_0⟩ := nrfl rfl
theorem b_75 (args : List AV) : bodyA E C fg N 75 args H B = bodyX E [.tmp 3] (execA E C (fg 75) B 7 H N c75_0 (frame0 args 0 [], H)) := bodyA_eq fi_75 args H
abbrev F_75 := And.intro (And.intro (And.intro @x75_1 (And.intro @r75_0_l @s75_0_0)) (And.intro @x75_3 (And.intro @r75_1_l @s75_1_0))) (And.intro (And.intro @s75_1_1 (And.intro @s75_1_2 @s75_1_3)) (And.intro (And.intro @x75_4 @x75_2) (And.intro @x75_0 @b_75)))
end Go.AM.Ytfmnoohhhokicaa
end

section
namespace Go.AM.Ytfmnoohhhokicaa
open Go Go.AM Go.AM.Rub
set_option maxRecDepth 100000
set_option maxHeartbeats 16000000
theorem any_eqM (m : List Int) (L : List (List Int)) : L.any (fun l => decide (m = l)) = decide (m ∈ L) := by
  rw [Bool.eq_iff_iff, List.any_eq_true, decide_eq_true_eq]
  constructor
  · rintro ⟨x, hx, e⟩; rw [of_decide_eq_true e]; exact hx
  · intro h; exact ⟨m, h, decide_eq_true rfl⟩
theorem pr4_run {d : Nat} {l m : List Int} {x y : Bool} {n : Nat} (hl : m.length ≤ 1000) (hm : m.length = n) : rsOf (bodyA E (kF (d + 1)) fg 1000000 75 [.imm (ics l) l.length x, .iptr [.imm (ics m) n y] 0] [] 0) = some (.bool (decide (m = l))) := by
  subst hm
  have hs := fun (site : Nat → Nat) seen => same_call (d := d) (site := site) (seen := seen) (iv_imm m y) (iv_imm l x) hl
  generalize kF (d + 1) = C at *
  simp (disch := omega) only [ZF, frame0, stp, just, Rd.bind, Rd.run, Rd.opt, upds, rdCells, aLoad, resA, resL, Nat.reduceBEq, Nat.reduceEqDiff, Nat.reduceLeDiff, ↓reduceIte, reduceCtorEq, aCall, snaps, ZT, F_75, hs]
theorem pr4 (d : Nat) (m : List Int) {n : Nat} {y : Bool} (hm : m.length = n) (h9 : n ≤ 1000) {L : List (List Int)} : PrC (kF (d + 2)) 75 (.imm (ics m) n y) (fun l => decide (m = l)) L :=
  ⟨⟨_, fi_75⟩, fun _ _ => rfl, fun l hl site seen => aBack_bool (kF_ex rfl (pr4_run (by omega) hm))⟩
/-- The loop: rows below b. -/
abbrev xmS (L M : List (List Int)) (i : Nat) : St := ([(98, .int .i64 i), (97, .int .i64 M.length), (96, .ref 59 0 M.length M.length M.length 1 false), (12, .ref 54 0 L.length L.length L.length 1 false)], [(54, ⟨.row, lcs L⟩), (59, ⟨.row, lcs M⟩)])
theorem xm_go {d : Nat} {L M : List (List Int)} {n : Nat} (hL : L.length ≤ 900000) (hM : M.length ≤ 900000) (h9 : n ≤ 1000) (i : Nat) {l : List Int} (hi : M[i]? = some l) (hl : l.length = n) (hin : l ∈ L) :
    ∃ s', execA E (kF (d + 4)) (fg 15) 0 108 [] 1000000 c15_32 (xmS L M i) = some (.normal, s') ∧ headA [] s' = xmS L M (i + 1) := by
  have hc := fun (site : Nat → Nat) seen e z => con_call (d := d + 2) (site := site) (seen := seen) (a := .imm (lcs L) L.length e) (pr4 d l (n := n) (y := z) hl h9) (.inr ⟨e, rfl⟩) hL (fun _ => rfl)
  simp only [any_eqM, decide_eq_true hin] at hc
  have hil := (List.getElem?_eq_some_iff.1 hi).1
  have hat := lcs_at hi
  rw [hl] at hat
  have hlm := lcs_length M
  have hll := lcs_length L
  have htl := lcs_takeA L
  have g1 : (i : Int) < M.length := by omega
  simp only [xmS]
  generalize kF (d + 4) = C at *
  generalize lcs L = LL at *
  generalize L.length = ll at *
  generalize lcs M = MM at *
  generalize M.length = mm at *
  simp (disch := omega) only [ZF, stp, opBox, justO, just, Rd.bind, Rd.run, Rd.opt, upds, acells, zeroCells, tsz, rdCells, aLoad, aStore, opStore, fresh, aIndexAddr, aNum, aBin, aInt, putC, Nat.reduceLT, Nat.reduceBEq, Nat.reduceEqDiff, Nat.reduceLeDiff, ↓reduceIte, aUn, aCall, snaps, ZT, F_15, hat, hlm, hll, htl, hc, g1, wrp_succ (show i < 1000000 by omega)]
  exact ⟨_, rfl, rfl⟩
theorem rubMore_law {zs zt : List Int} (hz : zs.length = 8 ∧ ∀ (i : Nat) (z : Int), zs[i]? = some z → 0 ≤ z ∧ z ≤ 255) (hzt : zt.length = 8 ∧ ∀ (i : Nat) (z : Int), zt[i]? = some z → 0 ≤ z ∧ z ≤ 255) (hw : ∃ H0, kF 40 17 [] [] 0 = some (.bool true, H0)) :
    rsOf (bodyA E (kF 40) fg 1000000 15 [.agg (zs.map (AV.int .u8)), .agg (zt.map (AV.int .u8))] [] 0) = some (.bool true) := by
  have hwk := fun (site : Nat → Nat) seen => aBack_bool (site := site) (seen := seen) hw
  have p1 := pl_of hz
  have p2 := pl_of hzt
  obtain ⟨n0, n1, n2⟩ := mdN_b (m := 5) p1 (by omega) (by omega)
  obtain ⟨ra, _⟩ := mdR_row (m := 5) (t := 6) p1 (by omega) (by omega) (by omega) (by omega)
  have hm1 := fun (site : Nat → Nat) seen => made_call (d := 33) (site := site) (seen := seen) (m := 5) (t := 6) p1 (by omega) (by omega) (by omega) (by omega)
  have lz : (u8s zs).length = 8 := by rw [u8s_len, p1.len]
  have lt : (u8s zt).length = 8 := by rw [u8s_len, p2.len]
  have tz : List.take 8 (u8s zs) = u8s zs := List.take_of_length_le (by omega)
  have sp1 := fun d => snaps_flat (u8s zs) (d + 10) (by simp [u8s]) (by rw [lz]; omega)
  have hq0 := u8s_at (l := zt) (k := 0) (by rw [p2.len]; omega)
  have bq0 := p2.b 0 (by omega)
  have ez : zs.map (AV.int .u8) = u8s zs := rfl
  have et : zt.map (AV.int .u8) = u8s zt := rfl
  rw [ez, et]
  clear n2 hz hzt ez et
  generalize mdR zs 5 6 = a at *
  generalize mdN zs 5 = n at *
  generalize rowF zt 0 = mq at *
  have hn5 : n ≤ 5 := by omega
  have w4 : wrp .i64 mq = mq := wrp64 (by omega)
  have la : (ics a).length = n := by rw [ics_length, ra.len]
  have a1 : List.take n (ics a) = ics a := List.take_of_length_le (by omega)
  have ia : ∀ x, IV a (.imm (ics a) n x) := fun x => .inr ⟨x, by rw [ra.len]⟩
  have ta := fun (site : Nat → Nat) seen ex => totalA (d := 39) (site := site) (seen := seen) (ex := ex) ra (by omega)
  have sb := ps_b ra n (Nat.le_refl n)
  have hro := fun (site : Nat → Nat) seen => rows_call (d := 38 - n) (n := n) (site := site) (seen := seen) n0 (by omega) (left := ps (rowF a) n) (by omega)
  rw [show 38 - n + n + 2 = 40 by omega] at hro
  have hmem := rows_mem ra
  have hne : ¬ rowsL n (ps (rowF a) n) 8 = [] := fun e => by rw [e] at hmem; simp at hmem
  simp only [if_neg hne] at hro
  have hlp : 0 < (rowsL n (ps (rowF a) n) 8).length := List.length_pos_of_mem hmem
  have hlb := rows_len (n := n) (s := ps (rowF a) n) (by omega)
  have hiff : ∀ c, c ∈ rowsL n (ps (rowF a) n) 8 ↔ Rw n c ∧ ps (rowF c) n = ps (rowF a) n := fun c =>
    ⟨fun hc => rows_rw hc, fun hc => by rw [← hc.2]; exact rows_mem hc.1⟩
  have hbeA := beL_le ra
  have hbeB : ∀ c, Rw n c → ps (rowF c) n = ps (rowF a) n → (beL c).length ≤ (rowsL n (ps (rowF a) n) 8).length := fun c h1 h2 => by rw [← h2]; exact beL_le h1
  clear hmem hne
  generalize hS : ps (rowF a) n = S at *
  generalize rowsL n S 8 = R at *
  obtain ⟨j, hj, hjl⟩ : ∃ j : Nat, mq.tmod (R.length : Int) = j ∧ j < R.length := by
    have := tmod_b (a := mq) (b := (R.length : Int)) bq0.1 (by omega)
    exact ⟨(mq.tmod (R.length : Int)).toNat, by omega, by omega⟩
  have hcj : R[j]? = some R[j] := List.getElem?_eq_getElem hjl
  obtain ⟨rb, ec⟩ := (hiff _).1 (List.mem_of_getElem? hcj)
  have hat := lcs_at hcj
  rw [rb.len] at hat
  generalize hcc : R[j]'hjl = b at *
  clear hcc
  have hbeB := hbeB b rb ec
  have hll := lcs_length R
  have hto := lcs_takeA R
  have z2 : ¬ (R.length : Int) = 0 := by omega
  have gj : (j : Int) < (R.length : Int) := by omega
  have ib : ∀ x, IV b (.imm (ics b) n x) := fun x => .inr ⟨x, by rw [rb.len]⟩
  have lb : (ics b).length = n := by rw [ics_length, rb.len]
  have hp : pairE a b = 0 := pairE_zero.2 ⟨n, n0, by omega, ra, rb, by rw [hS, ec]⟩
  have ra' := rw_snoc0 ra
  have rb' := rw_snoc0 rb
  have hp' : pairE (a ++ [0]) (b ++ [0]) = 0 := pairE_zero.2 ⟨n + 1, by omega, by omega, ra', rb', by rw [ps_all0 ra, ps_all0 rb, hS, ec]⟩
  have hv : becV (a ++ [0]) (b ++ [0]) = becV a b := by
    unfold becV
    rw [hp, hp', decide_eq_decide]
    have e1 := wh_neg ra rb (by rw [hS, ec])
    have e2 := wh_neg ra' rb' (by rw [ps_all0 ra, ps_all0 rb, hS, ec])
    rw [e1, e2, maj_snoc0 ra rb]
  have hmaj : becV a b = true → MajL a b := fun h => by
    unfold becV at h
    exact (wh_neg ra rb (by rw [hS, ec])).1 (of_decide_eq_true h).2
  have h1 := fun (site : Nat → Nat) seen x y => becomes_call (d := 37) (site := site) (seen := seen) (ia x) (ib y) (by rw [ra.len]; omega) (by rw [rb.len]; omega)
  have ia' : ∀ x, IV (a ++ [0]) (.imm (ics (a ++ [0])) (n + 1) x) := fun x => .inr ⟨x, by rw [ra'.len]⟩
  have ib' : ∀ x, IV (b ++ [0]) (.imm (ics (b ++ [0])) (n + 1) x) := fun x => .inr ⟨x, by rw [rb'.len]⟩
  have h2 := fun (site : Nat → Nat) seen x y => becomes_call (d := 37) (site := site) (seen := seen) (ia' x) (ib' y) (by rw [ra'.len]; omega) (by rw [rb'.len]; omega)
  rw [hp] at h1
  rw [hp', hv] at h2
  have hcA := fun (site : Nat → Nat) seen x => clone_call (d := 39) (site := site) (seen := seen) (ex := x) ra.len n0 (by omega)
  have hcB := fun (site : Nat → Nat) seen x => clone_call (d := 39) (site := site) (seen := seen) (ex := x) rb.len n0 (by omega)
  have hBA := fun (site : Nat → Nat) seen x => below_call (d := 29) (ia x) ra n0 (by omega) site seen
  have hBB := fun (site : Nat → Nat) seen x => below_call (d := 29) (ib x) rb n0 (by omega) site seen
  have hsub : becV a b = true → ∀ l ∈ beL b, l ∈ beL a := fun h l hl => by
    obtain ⟨r1, r2, r3⟩ := (mem_beL rb).1 hl
    exact (mem_beL ra).2 ⟨r1, by rw [r2, ec, hS], majL_trans (by rw [ra.len, rb.len]) (hmaj h) r3⟩
  have hrow : ∀ l ∈ beL b, l.length = n := fun l hl => ((mem_beL rb).1 hl).1.len
  have sa := ics_snoc a 0
  have sb' := ics_snoc b 0
  have lla := lcs_length (beL a)
  have llb := lcs_length (beL b)
  have tka := lcs_takeA (beL a)
  have la2 : (ics (a ++ [0])).length = n + 1 := by rw [ics_length, ra'.len]
  have lb2 : (ics (b ++ [0])).length = n + 1 := by rw [ics_length, rb'.len]
  have ka2 : List.take (n + 1) (ics (a ++ [0])) = ics (a ++ [0]) := List.take_of_length_le (by omega)
  have kb2 : List.take (n + 1) (ics (b ++ [0])) = ics (b ++ [0]) := List.take_of_length_le (by omega)
  have no1 : ¬ n + 1 ≤ n := by omega
  have gA : ¬ ((beL a).length : Int) > R.length := by omega
  have gB : ¬ ((beL b).length : Int) > R.length := by omega
  clear hiff hmaj hv hp hp' ra ra' rb' ia ia' ib ib' hS ec p1 p2
  generalize becV a b = v at *
  generalize beL a = L at *
  generalize beL b = M at *
  have tb : List.take n (ics b) = ics b := List.take_of_length_le (by omega)
  cases v with
  | false =>
    generalize ics (a ++ [0]) = A2 at *
    generalize ics (b ++ [0]) = B2 at *
    generalize ics a = A at *
    generalize ics b = B at *
    generalize u8s zs = Z at *
    generalize u8s zt = Y at *
    generalize lcs R = RL at *
    generalize R.length = rl at *
    generalize lcs L = LL at *
    generalize L.length = ll at *
    generalize lcs M = MM at *
    generalize M.length = mm at *
    generalize kF 40 = C at *
    simp (disch := omega) only [ZF, ↓gd, frame0, stp, opPick, opBox, justO, just, Rd.bind, Rd.run, Rd.opt, upds, acells, zeroCells, tsz, elemT, rdCells, fieldOf, aFieldAddr, aLoad, opExtract, resA, resL, fresh, aIndexAddr, aNum, aLen, aBuiltin, aBin, aInt, putC, evO, ofV, ofV1, Nat.reduceAdd, Nat.reduceLT, Nat.reduceBEq, Nat.reduceEqDiff, Nat.reduceLeDiff, ↓reduceIte, reduceCtorEq, aBuildSlice, aBuildAt, partsOf, fillA, repC, isSliceT, aAppend, srcOf, window, aCall, snaps, aConv, isBoolT, ZT, F_15, lz, lt, tz, sp1, hm1, hq0, w4, hj, la, lb, a1, tb, ta, hro, hat, hll, h1, h2, hcA, hcB, hBA, hBB, sa, sb', lla, llb, la2, lb2, ka2, kb2, no1, gA, gB, hwk, gj, z2, room22 (show n + 1 ≤ 1000000 by omega)]
  | true =>
    have hloop := loopMS (f := execA E (kF 40) (fg 15) 0 108 [] 1000000 c15_32) (E0 := []) (s0 := ([(98, .int .i64 0), (97, .int .i64 M.length), (96, .ref 59 0 M.length M.length M.length 1 false), (12, .ref 54 0 L.length L.length L.length 1 false)], [(2, ⟨.box, u8s zs⟩), (3, ⟨.box, u8s zt⟩), (19, ⟨.froz, ics a⟩), (24, ⟨.row, lcs R⟩), (42, ⟨.row, ics (a ++ [0])⟩), (43, ⟨.row, [.int .i64 0]⟩), (46, ⟨.row, ics (b ++ [0])⟩), (47, ⟨.row, [.int .i64 0]⟩), (54, ⟨.row, lcs L⟩), (59, ⟨.row, lcs M⟩)])) (xmS L M) M.length (fun i hi => by
        have hri : M[i]? = some M[i] := List.getElem?_eq_getElem hi
        have hm := List.mem_of_getElem? hri
        exact xm_go (d := 36) (by omega) (by omega) (show n ≤ 1000 by omega) i hri (hrow _ hm) (hsub rfl _ hm)) rfl (by omega)
      (e := .exit 0) (se := ([(99, .bool false), (98, .int .i64 M.length), (97, .int .i64 M.length), (96, .ref 59 0 M.length M.length M.length 1 false), (12, .ref 54 0 L.length L.length L.length 1 false)], [(54, ⟨.row, lcs L⟩), (59, ⟨.row, lcs M⟩)]))
      (by
        generalize kF 40 = C at *
        simp only [xmS]
        simp (disch := omega) only [ZF, stp, just, Rd.bind, Rd.run, Rd.opt, upds, aBin, aInt, Nat.reduceEqDiff, Nat.reduceLeDiff, ↓reduceIte, F_15]) (by simp)
    clear hsub hrow
    generalize ics (a ++ [0]) = A2 at *
    generalize ics (b ++ [0]) = B2 at *
    generalize ics a = A at *
    generalize ics b = B at *
    generalize u8s zs = Z at *
    generalize u8s zt = Y at *
    generalize lcs R = RL at *
    generalize R.length = rl at *
    generalize lcs L = LL at *
    generalize L.length = ll at *
    generalize lcs M = MM at *
    generalize M.length = mm at *
    generalize kF 40 = C at *
    simp (disch := omega) only [ZF, ↓gd, frame0, stp, opPick, opBox, justO, just, Rd.bind, Rd.run, Rd.opt, upds, acells, zeroCells, tsz, elemT, rdCells, fieldOf, aFieldAddr, aLoad, opExtract, resA, resL, fresh, aIndexAddr, aNum, aLen, aBuiltin, aBin, aInt, putC, evO, ofV, ofV1, Nat.reduceAdd, Nat.reduceLT, Nat.reduceBEq, Nat.reduceEqDiff, Nat.reduceLeDiff, ↓reduceIte, reduceCtorEq, aBuildSlice, aBuildAt, partsOf, fillA, repC, isSliceT, aAppend, srcOf, window, aCall, snaps, aConv, isBoolT, ZT, F_15, lz, lt, tz, sp1, hm1, hq0, w4, hj, la, lb, a1, tb, ta, hro, hat, hll, h1, h2, hcA, hcB, hBA, hBB, sa, sb', lla, llb, la2, lb2, ka2, kb2, no1, gA, gB, hloop, hwk, gj, z2, room22 (show n + 1 ≤ 1000000 by omega)]
end Go.AM.Ytfmnoohhhokicaa
end

section
namespace Go.AM.Ytfmnoohhhokicaa
open Go Go.AM
set_option maxRecDepth 1000000
theorem works_runF : isTrue (kF 40 17 [] [] 0) = true := by kernel_rfl
theorem soundK (d : Nat) : CS Proofs.Try.prog E (kF d) := frC_ok (callF_sound envOk mixed fr fg 1000000 d)
theorem soundB : CS Proofs.Try.prog E (bodyA E (kF 40) fg 1000000) := body_ok envOk mixed fg 1000000 (soundK 40)
end Go.AM.Ytfmnoohhhokicaa
end

section
namespace Go.AM.Ytfmnoohhhokicaa
open Go Go.AM Go.RowKit Go.Proofs Go.Proofs.Ytfmnoohhhokicaa Go.ChangeShapes Go.WideShapes Go.ChangeAt Go.AM.Rub
set_option maxRecDepth 1000000
theorem laidOut : laidOutB Try.prog = true := by kernel_rfl
theorem readable_0 : Try.prog.readableRec 49 = true := by kernel_rfl
theorem types_lt_0 : 49 < Try.prog.types.size := of_decide_eq_true (by kernel_rfl)
theorem cellsOf_0 : Try.prog.cellsOf 49 = 8 := by kernel_rfl
theorem cellTypes_0 : Try.prog.cellTypes Try.prog.depth 49 = some (List.replicate 8 5) := by kernel_rfl
theorem rubMore_walk {W : World} {zs0 : List Int} {v0 : Value} {zs1 : List Int} {v1 : Value} (h0 : zs0.length = 8 ∧ ∀ (i : Nat) (z : Int), zs0[i]? = some z → 0 ≤ z ∧ z ≤ 255) (r0 : (start (fun k => k < W.heap.size) W).R (.agg (zs0.map (AV.int .u8))) v0) (h1 : zs1.length = 8 ∧ ∀ (i : Nat) (z : Int), zs1[i]? = some z → 0 ≤ z ∧ z ≤ 255) (r1 : (start (fun k => k < W.heap.size) W).R (.agg (zs1.map (AV.int .u8))) v1) :
    Calls Try.prog 15 #[v0, v1] W fun e w' => e = .returned (.bool true) ∧ Below W.heap.size W w' := by
  obtain ⟨H0, hw⟩ := isTrue_ok works_runF
  obtain ⟨H1, hr⟩ := rs_ex (rubMore_law h0 h1 ⟨H0, hw⟩)
  refine law_run soundB hr (fun k h => h) (vs := [v0, v1]) ?_
  simp only [Gh.Rs, VRs]
  exact ⟨v0, _, rfl, r0, v1, _, rfl, r1, rfl⟩
theorem rubMore_lifted (os : Os) (started : os.Started) (H : Type) (enc : TypeId × Value → H) :
    ReturnsInHanded {} Try.checked os 15 .any (Rows.rubMoreSpec.pre6 enc Try.prog Try.f15 Rows.rubMoreRow.domain false)
      (Rows.rubMoreSpec.post enc Try.prog Try.f15 false true false false) := by
  refine returnsInHanded_of_change own started (by kernel_rfl) Try.func15 (ChangeSpec.witness6 (enc := enc) (C := Try.checked) false ⟨#[], #[.agg (Array.replicate 8 (.int .u8 0)), .agg (Array.replicate 8 (.int .u8 0))], []⟩ 8 (by kernel_rfl) (by kernel_rfl) (by kernel_rfl) (by kernel_rfl)) ?_
  intro W base args ds gs before hval0 hW _ _
  have hW' := hW
  obtain ⟨p, q, hA0, hV, rfl, hfz, hnd⟩ := hW
  have hA : DataW.TrodAll enc Try.prog W 0 (fun _ => true) true Try.f15.params.toList args.toList ds p := hA0
  rw [Try.params15] at hA
  obtain ⟨w0, vs0, d0, ds0, p0, q0, ha, rfl, rfl, t0, hr0⟩ := trodAll_cons hA
  obtain ⟨w1, vs1, d1, ds1, p1, q1, rfl, rfl, rfl, t1, hr1⟩ := trodAll_cons hr0
  obtain ⟨rfl, rfl, rfl⟩ := trodAll_nil hr1
  obtain rfl : args = #[w0, w1] := by cases args; simp_all
  obtain ⟨rfl, rfl⟩ := trodVars_none hV
  have hval : ∀ (j : Nat) t v, (#[49, 49] : Array TypeId)[j]? = some t → (#[w0, w1] : Array Value)[j]? = some v → Value.okWide Try.prog W .any base t v := by
    intro j t v; have := hval0 j t v; rw [Try.params15] at this; exact this
  obtain ⟨zs0, cs0, rfl, e0, l0, b0⟩ := hand_struct Try.underlying49 Try.underlying5 cellTypes_0 cellsOf_0 (by omega) (hval 0 49 w0 rfl rfl)
  have h0 : zs0.length = 8 ∧ ∀ (i : Nat) (z : Int), zs0[i]? = some z → 0 ≤ z ∧ z ≤ 255 := ⟨l0, b0⟩
  have r0 : (start (fun k => k < W.heap.size) W).R (.agg (zs0.map (AV.int .u8))) (.agg cs0) := vr_u8 _ e0
  obtain ⟨zs1, cs1, rfl, e1, l1, b1⟩ := hand_struct Try.underlying49 Try.underlying5 cellTypes_0 cellsOf_0 (by omega) (hval 1 49 w1 rfl rfl)
  have h1 : zs1.length = 8 ∧ ∀ (i : Nat) (z : Int), zs1[i]? = some z → 0 ≤ z ∧ z ≤ 255 := ⟨l1, b1⟩
  have r1 : (start (fun k => k < W.heap.size) W).R (.agg (zs1.map (AV.int .u8))) (.agg cs1) := vr_u8 _ e1
  refine (rubMore_walk h0 r0 h1 r1).mono fun e W' ⟨he, bel⟩ => ?_
  subst he
  exact ⟨_, rfl, _, _, _, [], _, [], hW', trodAll_mk1 (shut_bool Try.underlying4 _),
    trodAll_mk2 (bel.trod' laidOut readable_0 types_lt_0 t0) (bel.trod' laidOut readable_0 types_lt_0 t1), rfl, bel.frame _, fun h => by cases h⟩
theorem rubMore_holds : Rows.RubMoreSaid :=
  OpenClaim.holds_of_wide 15 Try.f15 rfl rfl rfl rfl rfl rfl rfl ⟨rfl, rfl, rfl, rfl, rfl⟩ rfl rfl rfl rfl rfl (by kernel_rfl) Try.func15 (by kernel_rfl)
    (of_decide_eq_true (by kernel_rfl)) (by unfold Func.isWrapper; first | (rw [if_pos (by decide +kernel)]; kernel_rfl) | (rw [if_neg (by decide +kernel)]; exact ⟨rfl, rfl⟩))
    (fun os started H enc _ => rubMore_lifted os started H enc)
end Go.AM.Ytfmnoohhhokicaa
namespace Go.Proofs.Ytfmnoohhhokicaa
/-- RubMore: the law answers true for every input, and the input reads as it did. No condition. -/
theorem rubMore_holds : Rows.RubMoreSaid := Go.AM.Ytfmnoohhhokicaa.rubMore_holds
end Go.Proofs.Ytfmnoohhhokicaa
end
#print axioms Go.Proofs.Ytfmnoohhhokicaa.rubMore_holds
