/- A part of the proof of rubLattice_holds: RtJ, RtK, SyB, RuH, RuI, RuJ, SyZ, RxD, RxC0, RxE, WksR, RyE. Own work of this project; texts printed by own programs among it. -/
import Derived.KernelRfl
import Derived.Test.YtfmnoohhhokicaaReJ
section
namespace Go.AM.Ytfmnoohhhokicaa
open Go Go.AM Go.AM.Rub
set_option maxRecDepth 100000
set_option maxHeartbeats 8000000
theorem rw_all {d n : Nat} (h6 : n ≤ 6) : ∀ (m : Nat) (l : List Int) (k : Nat) (left most : Int), l.length = k → k + m = n → 0 ≤ left ∧ left ≤ 1000 → 0 ≤ most ∧ most ≤ 8 → RoC (d + m + 1) l n k m left most
  | 0, l, k, left, most, hl, hk, _, _ => by
    rw [Nat.add_zero] at hk
    subst hk
    exact rw_leaf hl
  | m + 1, l, k, left, most, hl, hk, hlf, hm => by
    obtain ⟨m0, hm0⟩ : ∃ m0 : Nat, min most left = m0 := ⟨(min most left).toNat, by omega⟩
    have hrec : ∀ j : Nat, j < m0 + 1 → RoC (d + m + 1) (l ++ [((m0 : Int) - j)]) n (k + 1) m (left - ((m0 : Int) - j)) ((m0 : Int) - j) := fun j hj =>
      rw_all h6 m (l ++ [((m0 : Int) - j)]) (k + 1) (left - ((m0 : Int) - j)) ((m0 : Int) - j) (by simp [hl]) (by omega) (by omega) (by omega)
    have hlen : (ics l).length = k := by rw [ics_length, hl]
    have hall := fuP_all l m hm0
    have h9 : 9 ^ (m + 1) ≤ 531441 := by have := Nat.pow_le_pow_right (n := 9) (by omega) (show m + 1 ≤ 6 by omega); omega
    have h9' : 9 ^ (m + 1) = 9 * 9 ^ m := by rw [Nat.pow_succ, Nat.mul_comm]
    have hfl : ∀ j, j ≤ m0 + 1 → (fuP l m left m0 j).length ≤ j * 9 ^ m := fuP_len l m left m0 (by omega)
    have hj9 : ∀ j, j ≤ m0 → j * 9 ^ m ≤ 8 * 9 ^ m := fun j hj => Nat.mul_le_mul_right _ (by omega)
    have emin : (if left < most then left else most) = (m0 : Int) := by rw [← hm0]; split <;> omega
    have gk : ¬ (k : Int) = n := by omega
    have gk' : ((k : Int) == n) = false := by rw [beq_eq_false_iff_ne]; exact gk
    have e2 : ∀ j : Nat, (m0 : Int) - ((j + 1 : Nat) : Int) = (m0 : Int) - j - 1 := fun j => by omega
    have ge : ¬ (m0 : Int) - ((m0 + 1 : Nat) : Int) ≥ 0 := by omega
    constructor
    · rw [show d + (m + 1) + 1 = (d + m + 1) + 1 by omega, pF_s]
      have hloop := loopM (f := execA E (kF (d + m + 1)) (fg 105) 64 42 (rhA l n) 1000000 c105_16) (E0 := rhA l n) (fun j => rsA l n k left ((m0 : Int) - j) (fuP l m left m0 j)) (m0 + 1) (fun j hj => by
          simp only [fuP_snoc, e2]
          exact rwA_go hl (by omega) (by omega) hlf (hrec j hj) (fuP l m left m0 j) (by have := hfl j (by omega); have := hj9 j (by omega); omega)) (by
          have e0 : fuP l m left m0 0 = [] := rfl
          simp only [rsA, e0]; rfl) (by omega)
        (e := .exit 0) (se := ([(24, .bool false), (9, .int .i64 ((m0 : Int) - ((m0 + 1 : Nat) : Int))), (5, .ptr 3 0 1), (1, .int .i64 left), (0, .ref 0 0 k k k 1 false)], (0, ⟨.row, ics l⟩) :: (1, ⟨.box, [.int .i64 n]⟩) :: (2, ⟨.box, [oV 400 1 (fuR l (m + 1) left most).length]⟩) :: (3, ⟨.box, [rwK 1 2 3]⟩) :: oH 400 (lcs (fuR l (m + 1) left most))))
        (by
          simp only [rsA, hall]
          rcases ocvL 400 (fuR l (m + 1) left most) with ⟨_, o1, o2⟩ | ⟨_, o1, o2⟩ <;> rw [o1, o2] <;>
            simp (disch := omega) only [ZF, stp, just, Rd.bind, Rd.run, Rd.opt, upds, aBin, aInt, Nat.reduceBEq, Nat.reduceEqDiff, Nat.reduceLeDiff, ↓reduceIte, F_105, ge]) (by simp)
      have e0 : fuP l m left m0 0 = [] := rfl
      have v0 : oV 400 1 ([] : List (List Int)).length = .nilsl := rfl
      have o0 : oH 400 (lcs []) = [] := rfl
      have z0 : (m0 : Int) - ((0 : Nat) : Int) = m0 := by omega
      simp only [rsA, e0, v0, o0, z0, rhA] at hloop
      simp only [rhA]
      generalize fuR l (m + 1) left most = R at *
      generalize kF (d + m + 1) = C at *
      rcases ocvL 400 R with ⟨hn1, o1, o2⟩ | ⟨hp1, o1, o2⟩ <;> rw [o1, o2] at hloop
      · simp (disch := omega) only [ZF, frame0, stp, justO, just, Rd.bind, Rd.run, Rd.opt, upds, acells, zeroCells, tsz, elemT, rdCells, aLoad, resA, resL, fresh, aLen, aBuiltin, aMin, aBin, aInt, putC, evO, Nat.reduceAdd, Nat.reduceLT, Nat.reduceBEq, Nat.reduceEqDiff, Nat.reduceLeDiff, ↓reduceIte, reduceCtorEq, aBuildSlice, aBuildAt, partsOf, fillA, repC, isSliceT, aAppend, srcOf, window, snaps, ZT, F_105, hlen, gk', emin, hloop]
        exact ⟨_, 400, .row, rfl, ⟨rfl, .inl rfl, rfl, by rw [o1]; rfl, rfl, by omega, fun h => by rw [hn1] at h; simp at h⟩⟩
      · simp (disch := omega) only [ZF, frame0, stp, justO, just, Rd.bind, Rd.run, Rd.opt, upds, acells, zeroCells, tsz, elemT, rdCells, aLoad, resA, resL, fresh, aLen, aBuiltin, aMin, aBin, aInt, putC, evO, Nat.reduceAdd, Nat.reduceLT, Nat.reduceBEq, Nat.reduceEqDiff, Nat.reduceLeDiff, ↓reduceIte, reduceCtorEq, aBuildSlice, aBuildAt, partsOf, fillA, repC, isSliceT, aAppend, srcOf, window, snaps, ZT, F_105, hlen, gk', emin, hloop]
        exact ⟨_, 400, .row, rfl, ⟨rfl, .inl rfl, rfl, by rw [o1]; rfl, rfl, by omega, fun h => rfl⟩⟩
    · intro L h0 h8
      rw [show d + (m + 1) + 1 = (d + m + 1) + 1 by omega, pF_s]
      have hloop := loopM (f := execA E (kF (d + m + 1)) (fg 105) 64 42 (rhB l n L) 1000000 c105_16) (E0 := rhB l n L) (fun j => rsB l n k left ((m0 : Int) - j) (L ++ fuP l m left m0 j)) (m0 + 1) (fun j hj => by
          simp only [fuP_snoc, e2, ← List.append_assoc]
          exact rwB_go hl (by omega) (by omega) hlf (hrec j hj) L (L ++ fuP l m left m0 j) (by rw [List.length_append]; omega) (by rw [List.length_append]; have := hfl j (by omega); have := hj9 j (by omega); omega)) (headA_keep (by simp [rhB, hget_cons'])) (by omega)
        (e := .exit 0) (se := ([(24, .bool false), (9, .int .i64 ((m0 : Int) - ((m0 + 1 : Nat) : Int))), (5, .ptr 4 0 1), (1, .int .i64 left), (0, .ref 0 0 k k k 1 false)], [(0, ⟨.row, ics l⟩), (1, ⟨.box, [.int .i64 n]⟩), (2, ⟨.box, [.ref 3 0 (L ++ fuR l (m + 1) left most).length (L ++ fuR l (m + 1) left most).length (L ++ fuR l (m + 1) left most).length 1 false]⟩), (3, ⟨.row, lcs (L ++ fuR l (m + 1) left most)⟩), (4, ⟨.box, [rwK 1 2 4]⟩)]))
        (by
          simp only [rsB, hall]
          simp (disch := omega) only [ZF, stp, just, Rd.bind, Rd.run, Rd.opt, upds, aBin, aInt, Nat.reduceBEq, Nat.reduceEqDiff, Nat.reduceLeDiff, ↓reduceIte, F_105, ge]) (by simp)
      have e0 : fuP l m left m0 0 = [] := rfl
      have z0 : (m0 : Int) - ((0 : Nat) : Int) = m0 := by omega
      simp only [rsB, e0, z0, rhB, List.append_nil] at hloop
      simp only [rhB]
      generalize L ++ fuR l (m + 1) left most = R at *
      generalize kF (d + m + 1) = C at *
      simp (disch := omega) only [ZF, frame0, stp, justO, just, Rd.bind, Rd.run, Rd.opt, upds, acells, zeroCells, tsz, elemT, rdCells, aLoad, resA, resL, fresh, aLen, aBuiltin, aMin, aBin, aInt, putC, evO, Nat.reduceAdd, Nat.reduceLT, Nat.reduceBEq, Nat.reduceEqDiff, Nat.reduceLeDiff, ↓reduceIte, reduceCtorEq, aBuildSlice, aBuildAt, partsOf, fillA, repC, isSliceT, aAppend, srcOf, window, snaps, ZT, F_105, hlen, gk', emin, hloop]
      exact ⟨_, .row, rfl, ⟨rfl, .inl rfl, rfl, rfl, rfl, rfl⟩⟩
end Go.AM.Ytfmnoohhhokicaa
end

section
namespace Go.AM.Ytfmnoohhhokicaa
open Go Go.AM Go.AM.Rub
set_option maxRecDepth 100000
set_option maxHeartbeats 8000000
abbrev rhN (n : Nat) : AHeap := [(0, ⟨.box, [.int .i64 n]⟩), (1, ⟨.box, [.nilsl]⟩), (2, ⟨.box, [rwK 0 1 2]⟩)]
section
variable {d : Nat} {l' : List Int} {n k m : Nat} {left most : Int} {c : List AV}
theorem rw_callN0 (hC : RoC d l' n k m left most) : ∃ st, kF d 105 [.ref 100 0 k k k 1 false, .int .i64 left, .int .i64 most, .ptr 0 0 1, .ptr 1 0 1, .ptr 2 0 1] [(0, ⟨.box, [.int .i64 n]⟩), (1, ⟨.box, [.nilsl]⟩), (2, ⟨.box, [rwK 0 1 2]⟩), (99, ⟨.row, c⟩), (100, ⟨.row, ics l'⟩)] 400 =
    some (.tup [], (0, ⟨.box, [.int .i64 n]⟩) :: (1, ⟨.box, [oV 400 1 (fuR l' m left most).length]⟩) :: (2, ⟨.box, [rwK 0 1 2]⟩) :: (99, ⟨.row, c⟩) :: (100, ⟨st, ics l'⟩) :: oH 400 (lcs (fuR l' m left most))) := by
  obtain ⟨H, id, st, hp, ro⟩ := hC.a
  refine ⟨st, ?_⟩
  rw [kF_fr rfl]
  have hks : (mark [(0, ⟨.box, [.int .i64 n]⟩), (1, ⟨.box, [.nilsl]⟩), (2, ⟨.box, [rwK 0 1 2]⟩), (99, ⟨.row, c⟩), (100, ⟨.row, ics l'⟩)] 1000 (refsL [.ref 100 0 k k k 1 false, .int .i64 left, .int .i64 most, .ptr 0 0 1, .ptr 1 0 1, .ptr 2 0 1]) []).reverse = [100, 0, 1, 2] := rfl
  have hap : AM.apart [100, 0, 1, 2] = true := rfl
  have e1 : renL (posF [100, 0, 1, 2] 0) [.ref 100 0 k k k 1 false, .int .i64 left, .int .i64 most, .ptr 0 0 1, .ptr 1 0 1, .ptr 2 0 1] = some [.ref 0 0 k k k 1 false, .int .i64 left, .int .i64 most, .ptr 1 0 1, .ptr 2 0 1, .ptr 3 0 1] := rfl
  have e2 : foc (posF [100, 0, 1, 2] 0) [(0, ⟨.box, [.int .i64 n]⟩), (1, ⟨.box, [.nilsl]⟩), (2, ⟨.box, [rwK 0 1 2]⟩), (99, ⟨.row, c⟩), (100, ⟨.row, ics l'⟩)] 0 [100, 0, 1, 2] = some (rhA l' n) := rfl
  have hn := newsA ro
  obtain ⟨h0, hs, h1, h2, h3, h4, hr⟩ := ro
  have hl4 : ([100, 0, 1, 2] : List Nat).length = 4 := rfl
  have er : List.range 4 = [0, 1, 2, 3] := rfl
  rw [hks]
  unfold focus
  rw [if_pos hap]
  simp only [e1, e2, hp, backF, hl4, hn, er]
  rcases ocvL 400 (fuR l' m left most) with ⟨hn0, o1, o2⟩ | ⟨hp0, o1, o2⟩
  · rw [o1, o2]
    rw [hn0] at h2
    have hv : oV id 1 ([] : List (List Int)).length = .nilsl := rfl
    rw [hv] at h2
    rcases hs with rfl | rfl <;>
    simp only [hn0, if_true, List.length_nil, baseF, freeL, AM.apart, List.append_nil, ren, renL, unf, outF, posF, h0, h1, h2, h3, List.getElem?_cons_zero, List.getElem?_cons_succ, Nat.reduceLT, if_true, goodB, BS.open_, Bool.true_or, Bool.false_or, rhA, hget_cons', decide_true, Bool.and_self, renB, hl4, upds, hset_cons', hset_nil', Nat.reduceEqDiff, Nat.reduceLeDiff, if_false, Nat.reduceAdd, reduceCtorEq]
  · rw [o1, o2]
    rw [ov_pos hp0] at h2
    have hr := hr hp0
    have hne : ¬ fuR l' m left most = [] := fun e => by rw [e] at hp0; simp at hp0
    have c4 : ¬ id < 4 := by omega
    have hbase : baseF [(0, ⟨.box, [.int .i64 n]⟩), (1, ⟨.box, [.nilsl]⟩), (2, ⟨.box, [rwK 0 1 2]⟩), (99, ⟨.row, c⟩), (100, ⟨.row, ics l'⟩)] 1 8 400 = some 400 := rfl
    rcases hs with rfl | rfl <;>
    simp only [hne, if_false, List.length_cons, List.length_nil, Nat.zero_add, hbase, AM.apart, List.elem_nil, Bool.not_false, Bool.and_self, if_true, List.cons_append, List.nil_append, ren, renL, unf, outF, posF, h0, h1, h2, h3, hr, c4, List.getElem?_cons_zero, List.getElem?_cons_succ, Nat.reduceLT, goodB, BS.open_, Bool.true_or, Bool.false_or, rhA, hget_cons', decide_true, renB, hl4, upds, hset_cons', hset_nil', Nat.reduceEqDiff, Nat.reduceLeDiff, Nat.add_zero, reduceCtorEq]
theorem rw_callN1 (hC : RoC d l' n k m left most) {L : List (List Int)} (h0 : 0 < L.length) (h8 : L.length + 9 ^ m ≤ 900000) : ∃ st, kF d 105 [.ref 100 0 k k k 1 false, .int .i64 left, .int .i64 most, .ptr 0 0 1, .ptr 1 0 1, .ptr 2 0 1] [(0, ⟨.box, [.int .i64 n]⟩), (1, ⟨.box, [.ref 400 0 L.length L.length L.length 1 false]⟩), (2, ⟨.box, [rwK 0 1 2]⟩), (99, ⟨.row, c⟩), (100, ⟨.row, ics l'⟩), (400, ⟨.row, lcs L⟩)] 400 =
    some (.tup [], [(0, ⟨.box, [.int .i64 n]⟩), (1, ⟨.box, [.ref 400 0 (L ++ fuR l' m left most).length (L ++ fuR l' m left most).length (L ++ fuR l' m left most).length 1 false]⟩), (2, ⟨.box, [rwK 0 1 2]⟩), (99, ⟨.row, c⟩), (100, ⟨st, ics l'⟩), (400, ⟨.row, lcs (L ++ fuR l' m left most)⟩)]) := by
  obtain ⟨H, st, hp, ro⟩ := hC.b L h0 h8
  refine ⟨st, ?_⟩
  rw [kF_fr rfl]
  have hks : (mark [(0, ⟨.box, [.int .i64 n]⟩), (1, ⟨.box, [.ref 400 0 L.length L.length L.length 1 false]⟩), (2, ⟨.box, [rwK 0 1 2]⟩), (99, ⟨.row, c⟩), (100, ⟨.row, ics l'⟩), (400, ⟨.row, lcs L⟩)] 1000 (refsL [.ref 100 0 k k k 1 false, .int .i64 left, .int .i64 most, .ptr 0 0 1, .ptr 1 0 1, .ptr 2 0 1]) []).reverse = [100, 0, 1, 400, 2] := rfl
  have hap : AM.apart [100, 0, 1, 400, 2] = true := rfl
  have e1 : renL (posF [100, 0, 1, 400, 2] 0) [.ref 100 0 k k k 1 false, .int .i64 left, .int .i64 most, .ptr 0 0 1, .ptr 1 0 1, .ptr 2 0 1] = some [.ref 0 0 k k k 1 false, .int .i64 left, .int .i64 most, .ptr 1 0 1, .ptr 2 0 1, .ptr 4 0 1] := rfl
  have e2 : foc (posF [100, 0, 1, 400, 2] 0) [(0, ⟨.box, [.int .i64 n]⟩), (1, ⟨.box, [.ref 400 0 L.length L.length L.length 1 false]⟩), (2, ⟨.box, [rwK 0 1 2]⟩), (99, ⟨.row, c⟩), (100, ⟨.row, ics l'⟩), (400, ⟨.row, lcs L⟩)] 0 [100, 0, 1, 400, 2] = some (rhB l' n L) := rfl
  have hn := newsB ro
  obtain ⟨h0, hs, h1, h2, h3, h4⟩ := ro
  have hl5 : ([100, 0, 1, 400, 2] : List Nat).length = 5 := rfl
  have er : List.range 5 = [0, 1, 2, 3, 4] := rfl
  rw [hks]
  unfold focus
  rw [if_pos hap]
  simp only [e1, e2, hp, backF, hl5, hn, er]
  rcases hs with rfl | rfl <;>
  simp only [List.length_nil, baseF, freeL, AM.apart, if_true, List.append_nil, ren, renL, unf, outF, posF, h0, h1, h2, h3, h4, List.getElem?_cons_zero, List.getElem?_cons_succ, Nat.reduceLT, goodB, BS.open_, Bool.true_or, Bool.false_or, rhB, hget_cons', decide_true, Bool.and_self, renB, hl5, upds, hset_cons', hset_nil', Nat.reduceEqDiff, Nat.reduceLeDiff, if_false, Nat.reduceAdd, reduceCtorEq]
end
noncomputable abbrev rsN (n : Nat) (left t : Int) (L : List (List Int)) : St :=
  ([(9, .int .i64 t), (5, .ptr 2 0 1), (1, .int .i64 left), (0, .nilsl)], (0, ⟨.box, [.int .i64 n]⟩) :: (1, ⟨.box, [oV 400 1 L.length]⟩) :: (2, ⟨.box, [rwK 0 1 2]⟩) :: oH 400 (lcs L))
theorem rwN_go {d : Nat} {n m : Nat} {left t : Int} (ht : 0 ≤ t ∧ t ≤ 1000) (hlf : 0 ≤ left ∧ left ≤ 1000) (hC : RoC d [t] n 1 m (left - t) t) (L : List (List Int)) (h8 : L.length + 9 ^ m ≤ 900000) :
    ∃ s', execA E (kF d) (fg 105) 64 42 (rhN n) 1000000 c105_16 (rsN n left t L) = some (.normal, s') ∧ headA (rhN n) s' = rsN n left (t - 1) (L ++ fuR [t] m (left - t) t) := by
  have e1 : ics [t] = [.int .i64 t] := rfl
  have g1 : t ≥ 0 := ht.1
  have w1 : wrp .i64 (left - t) = left - t := wrp64 (by omega)
  have w2 : wrp .i64 (t - 1) = t - 1 := wrp64 (by omega)
  rcases ocvL 400 L with ⟨hn0, o1, o2⟩ | ⟨hp0, o1, o2⟩
  · obtain ⟨st, hc⟩ := rw_callN0 (c := [.int .i64 t]) hC
    subst hn0
    rw [List.nil_append]
    simp only [rsN]
    rw [o1, o2]
    rw [e1] at hc
    generalize fuR [t] m (left - t) t = new at *
    generalize kF d = C at *
    rcases ocvL 400 new with ⟨hn1, p1, p2⟩ | ⟨hp1, p1, p2⟩ <;> rw [p1, p2] at hc ⊢ <;>
      simp (disch := omega) only [ZF, stp, just, Rd.bind, Rd.run, Rd.opt, upds, acells, zeroCells, tsz, elemT, rdCells, aLoad, fresh, aNum, aLen, aBuiltin, aBin, aInt, putC, evO, Nat.reduceAdd, Nat.reduceMul, Nat.reduceLT, Nat.reduceBEq, Nat.reduceEqDiff, Nat.reduceLeDiff, ↓reduceIte, reduceCtorEq, stpT, Rd.foot, writing, touching, Tr.empty, dynPairs, apartT, disj, aBuildSlice, aBuildAt, partsOf, fillA, repC, isSliceT, aAppend, srcOf, window, mutX, snaps, aSlice, aBounds, bMax, bHigh, bLow, Int.reduceLE, Int.reduceToNat, ZT, F_105, callVT, rw_mut, g1, w1, w2, hc, room22 (show 1 ≤ 1000000 by omega)] <;> exact ⟨_, rfl, rfl⟩
  · obtain ⟨st, hc⟩ := rw_callN1 (c := [.int .i64 t]) hC hp0 h8
    simp only [rsN]
    rw [o1, o2, ov_pos (show 0 < (L ++ fuR [t] m (left - t) t).length by rw [List.length_append]; omega), ohl_pos (show 0 < (L ++ fuR [t] m (left - t) t).length by rw [List.length_append]; omega)]
    rw [e1] at hc
    generalize L ++ fuR [t] m (left - t) t = new at *
    generalize lcs new = LN at *
    generalize new.length = nn at *
    generalize lcs L = LL at *
    generalize L.length = ll at *
    generalize kF d = C at *
    simp (disch := omega) only [ZF, stp, just, Rd.bind, Rd.run, Rd.opt, upds, acells, zeroCells, tsz, elemT, rdCells, aLoad, fresh, aNum, aLen, aBuiltin, aBin, aInt, putC, evO, Nat.reduceAdd, Nat.reduceMul, Nat.reduceLT, Nat.reduceBEq, Nat.reduceEqDiff, Nat.reduceLeDiff, ↓reduceIte, reduceCtorEq, stpT, Rd.foot, writing, touching, Tr.empty, dynPairs, apartT, disj, aBuildSlice, aBuildAt, partsOf, fillA, repC, isSliceT, aAppend, srcOf, window, mutX, snaps, aSlice, aBounds, bMax, bHigh, bLow, Int.reduceLE, Int.reduceToNat, ZT, F_105, callVT, rw_mut, g1, w1, w2, hc, room22 (show 1 ≤ 1000000 by omega)]
    exact ⟨_, rfl, rfl⟩
/-- From no number chosen. -/
structure RoN (n : Nat) (new : List (List Int)) (H : AHeap) : Prop where
  h0 : hget H 0 = some ⟨.box, [.int .i64 n]⟩
  h1 : hget H 1 = some ⟨.box, [oV 400 1 new.length]⟩
  h2 : hget H 2 = some ⟨.box, [rwK 0 1 2]⟩
  hr : 0 < new.length → hget H 400 = some ⟨.row, lcs new⟩
theorem rw_none {d n : Nat} (h0 : 0 < n) (h6 : n ≤ 6) {left : Int} (hlf : 0 ≤ left ∧ left ≤ 1000) : ∃ H, pF (d + n + 1) 105 [.nilsl, .int .i64 left, .int .i64 8, .ptr 0 0 1, .ptr 1 0 1, .ptr 2 0 1] (rhN n) 64 = some (.tup [], H) ∧ RoN n (rowsL n left 8) H := by
  obtain ⟨m, rfl⟩ : ∃ m, n = m + 1 := ⟨n - 1, by omega⟩
  obtain ⟨m0, hm0⟩ : ∃ m0 : Nat, min 8 left = m0 := ⟨(min 8 left).toNat, by omega⟩
  have hrec : ∀ j : Nat, j < m0 + 1 → RoC (d + m + 1) ([] ++ [((m0 : Int) - j)]) (m + 1) 1 m (left - ((m0 : Int) - j)) ((m0 : Int) - j) := fun j hj =>
    rw_all h6 m _ 1 _ _ rfl (by omega) (by omega) (by omega)
  have hall := fuP_all [] m hm0
  rw [fuR_nil] at hall
  have h9 : 9 ^ (m + 1) ≤ 531441 := by have := Nat.pow_le_pow_right (n := 9) (by omega) (show m + 1 ≤ 6 by omega); omega
  have h9' : 9 ^ (m + 1) = 9 * 9 ^ m := by rw [Nat.pow_succ, Nat.mul_comm]
  have hfl : ∀ j, j ≤ m0 + 1 → (fuP [] m left m0 j).length ≤ j * 9 ^ m := fuP_len [] m left m0 (by omega)
  have hj9 : ∀ j, j ≤ m0 → j * 9 ^ m ≤ 8 * 9 ^ m := fun j hj => Nat.mul_le_mul_right _ (by omega)
  have emin : (if left < 8 then left else 8) = (m0 : Int) := by rw [← hm0]; split <;> omega
  have gk : ¬ (0 : Int) = ((m + 1 : Nat) : Int) := by omega
  have gk' : ((0 : Int) == ((m + 1 : Nat) : Int)) = false := by rw [beq_eq_false_iff_ne]; exact gk
  have e2 : ∀ j : Nat, (m0 : Int) - ((j + 1 : Nat) : Int) = (m0 : Int) - j - 1 := fun j => by omega
  have ge : ¬ (m0 : Int) - ((m0 + 1 : Nat) : Int) ≥ 0 := by omega
  rw [show d + (m + 1) + 1 = (d + m + 1) + 1 by omega, pF_s]
  have hloop := loopM (f := execA E (kF (d + m + 1)) (fg 105) 64 42 (rhN (m + 1)) 1000000 c105_16) (E0 := rhN (m + 1)) (fun j => rsN (m + 1) left ((m0 : Int) - j) (fuP [] m left m0 j)) (m0 + 1) (fun j hj => by
      simp only [fuP_snoc, e2]
      exact rwN_go (by omega) hlf (hrec j hj) (fuP [] m left m0 j) (by have := hfl j (by omega); have := hj9 j (by omega); omega)) (by
      have e0 : fuP [] m left m0 0 = [] := rfl
      simp only [rsN, e0]; rfl) (by omega)
    (e := .exit 0) (se := ([(24, .bool false), (9, .int .i64 ((m0 : Int) - ((m0 + 1 : Nat) : Int))), (5, .ptr 2 0 1), (1, .int .i64 left), (0, .nilsl)], (0, ⟨.box, [.int .i64 ((m + 1 : Nat) : Int)]⟩) :: (1, ⟨.box, [oV 400 1 (rowsL (m + 1) left 8).length]⟩) :: (2, ⟨.box, [rwK 0 1 2]⟩) :: oH 400 (lcs (rowsL (m + 1) left 8))))
    (by
      simp only [rsN, hall]
      rcases ocvL 400 (rowsL (m + 1) left 8) with ⟨_, o1, o2⟩ | ⟨_, o1, o2⟩ <;> rw [o1, o2] <;>
        simp (disch := omega) only [ZF, stp, just, Rd.bind, Rd.run, Rd.opt, upds, aBin, aInt, Nat.reduceBEq, Nat.reduceEqDiff, Nat.reduceLeDiff, ↓reduceIte, F_105, ge]) (by simp)
  have e0 : fuP [] m left m0 0 = [] := rfl
  have v0 : oV 400 1 ([] : List (List Int)).length = .nilsl := rfl
  have o0 : oH 400 (lcs []) = [] := rfl
  have z0 : (m0 : Int) - ((0 : Nat) : Int) = m0 := by omega
  simp only [rsN, e0, v0, o0, z0, rhN] at hloop
  simp only [rhN]
  generalize rowsL (m + 1) left 8 = R at *
  generalize kF (d + m + 1) = C at *
  rcases ocvL 400 R with ⟨hn1, o1, o2⟩ | ⟨hp1, o1, o2⟩ <;> rw [o1, o2] at hloop
  · simp (disch := omega) only [ZF, frame0, stp, justO, just, Rd.bind, Rd.run, Rd.opt, upds, acells, zeroCells, tsz, elemT, rdCells, aLoad, resA, resL, fresh, aLen, aBuiltin, aMin, aBin, aInt, putC, evO, Nat.reduceAdd, Nat.reduceLT, Nat.reduceBEq, Nat.reduceEqDiff, Nat.reduceLeDiff, ↓reduceIte, reduceCtorEq, aBuildSlice, aBuildAt, partsOf, fillA, repC, isSliceT, aAppend, srcOf, window, snaps, ZT, F_105, gk', emin, hloop]
    exact ⟨_, rfl, ⟨rfl, by rw [o1]; rfl, rfl, fun h => by rw [hn1] at h; simp at h⟩⟩
  · simp (disch := omega) only [ZF, frame0, stp, justO, just, Rd.bind, Rd.run, Rd.opt, upds, acells, zeroCells, tsz, elemT, rdCells, aLoad, resA, resL, fresh, aLen, aBuiltin, aMin, aBin, aInt, putC, evO, Nat.reduceAdd, Nat.reduceLT, Nat.reduceBEq, Nat.reduceEqDiff, Nat.reduceLeDiff, ↓reduceIte, reduceCtorEq, aBuildSlice, aBuildAt, partsOf, fillA, repC, isSliceT, aAppend, srcOf, window, snaps, ZT, F_105, gk', emin, hloop]
    exact ⟨_, rfl, ⟨rfl, by rw [o1]; rfl, rfl, fun h => rfl⟩⟩
theorem newsN {n : Nat} {new : List (List Int)} {H : AHeap} (h : RoN n new H) : newsF H (.tup []) 3 = if new = [] then [] else [400] := by
  obtain ⟨h0, h1, h2, hr⟩ := h
  have e : refsOf (.tup []) ++ List.range 3 = [0, 1, 2] := rfl
  unfold newsF
  rw [e]
  cases hn : new with
  | nil =>
    subst hn
    rw [if_pos rfl]
    have hv : oV 400 1 ([] : List (List Int)).length = .nilsl := rfl
    rw [hv] at h1
    simp [mark, h0, h1, h2, refsL, refsOf]
  | cons x xs =>
    rw [← hn]
    have hp : 0 < new.length := by rw [hn]; simp
    rw [if_neg (by rw [hn]; simp)]
    rw [ov_pos hp] at h1
    have hr := hr hp
    simp [mark, h0, h1, h2, hr, refsL, refsOf]
theorem rw_top {d n : Nat} (h0 : 0 < n) (h6 : n ≤ 6) {left : Int} (hlf : 0 ≤ left ∧ left ≤ 1000) : kF (d + n + 1) 105 [.nilsl, .int .i64 left, .int .i64 8, .ptr 2 0 1, .ptr 5 0 1, .ptr 6 0 1] [(2, ⟨.box, [.int .i64 n]⟩), (5, ⟨.box, [.nilsl]⟩), (6, ⟨.box, [rwK 2 5 6]⟩)] 96 =
    some (.tup [], (2, ⟨.box, [.int .i64 n]⟩) :: (5, ⟨.box, [oV 96 1 (rowsL n left 8).length]⟩) :: (6, ⟨.box, [rwK 2 5 6]⟩) :: oH 96 (lcs (rowsL n left 8))) := by
  obtain ⟨H, hp, ro⟩ := rw_none (d := d) h0 h6 hlf
  rw [kF_fr rfl]
  have hks : (mark [(2, ⟨.box, [.int .i64 n]⟩), (5, ⟨.box, [.nilsl]⟩), (6, ⟨.box, [rwK 2 5 6]⟩)] 1000 (refsL [.nilsl, .int .i64 left, .int .i64 8, .ptr 2 0 1, .ptr 5 0 1, .ptr 6 0 1]) []).reverse = [2, 5, 6] := rfl
  have hap : AM.apart [2, 5, 6] = true := rfl
  have e1 : renL (posF [2, 5, 6] 0) [.nilsl, .int .i64 left, .int .i64 8, .ptr 2 0 1, .ptr 5 0 1, .ptr 6 0 1] = some [.nilsl, .int .i64 left, .int .i64 8, .ptr 0 0 1, .ptr 1 0 1, .ptr 2 0 1] := rfl
  have e2 : foc (posF [2, 5, 6] 0) [(2, ⟨.box, [.int .i64 n]⟩), (5, ⟨.box, [.nilsl]⟩), (6, ⟨.box, [rwK 2 5 6]⟩)] 0 [2, 5, 6] = some (rhN n) := rfl
  have hn := newsN ro
  obtain ⟨h0, h1, h2, hr⟩ := ro
  have hl3 : ([2, 5, 6] : List Nat).length = 3 := rfl
  have er : List.range 3 = [0, 1, 2] := rfl
  rw [hks]
  unfold focus
  rw [if_pos hap]
  simp only [e1, e2, hp, backF, hl3, hn, er]
  rcases ocvL 96 (rowsL n left 8) with ⟨hn0, o1, o2⟩ | ⟨hp0, o1, o2⟩
  · rw [o1, o2]
    rw [hn0] at h1
    have hv : oV 400 1 ([] : List (List Int)).length = .nilsl := rfl
    rw [hv] at h1
    simp only [hn0, if_true, List.length_nil, baseF, freeL, AM.apart, List.append_nil, ren, renL, unf, outF, posF, h0, h1, h2, List.getElem?_cons_zero, List.getElem?_cons_succ, Nat.reduceLT, if_true, goodB, BS.open_, Bool.true_or, renB, hl3, upds, hset_cons', hset_nil', Nat.reduceEqDiff, Nat.reduceLeDiff, if_false, Nat.reduceAdd]
  · rw [o1, o2]
    rw [ov_pos hp0] at h1
    have hr := hr hp0
    have hne : ¬ rowsL n left 8 = [] := fun e => by rw [e] at hp0; simp at hp0
    have hbase : baseF [(2, ⟨.box, [.int .i64 n]⟩), (5, ⟨.box, [.nilsl]⟩), (6, ⟨.box, [rwK 2 5 6]⟩)] 1 8 96 = some 96 := rfl
    simp only [hne, if_false, List.length_cons, List.length_nil, Nat.zero_add, hbase, AM.apart, List.elem_nil, Bool.not_false, Bool.and_self, if_true, List.cons_append, List.nil_append, ren, renL, unf, outF, posF, h0, h1, h2, hr, List.getElem?_cons_zero, List.getElem?_cons_succ, Nat.reduceLT, goodB, BS.open_, Bool.true_or, renB, hl3, upds, hset_cons', hset_nil', Nat.reduceEqDiff, Nat.reduceLeDiff, Nat.add_zero, reduceCtorEq]
theorem rows_call {d n : Nat} {site : Nat → Nat} {seen : List Nat} (h0 : 0 < n) (h6 : n ≤ 6) {left : Int} (hlf : 0 ≤ left ∧ left ≤ 1000) : aBack site true seen (thaw (kF (d + n + 2)) 59 [.int .i64 n, .int .i64 left] [] 0) =
    if rowsL n left 8 = [] then .pure (.nilsl, []) else back1 (site 0) seen (fun k => .ref k 0 (rowsL n left 8).length (rowsL n left 8).length (rowsL n left 8).length 1 false) ⟨.row, lcs (rowsL n left 8)⟩ := by
  have hc := rw_top (d := d) h0 h6 hlf
  have key : (rowsL n left 8 = [] ∧ ∃ H, bodyA E (kF (d + n + 1)) fg 1000000 59 [.int .i64 n, .int .i64 left] [] 0 = some (.nilsl, H)) ∨ (0 < (rowsL n left 8).length ∧ ∃ H, bodyA E (kF (d + n + 1)) fg 1000000 59 [.int .i64 n, .int .i64 left] [] 0 = some (.ref 96 0 (rowsL n left 8).length (rowsL n left 8).length (rowsL n left 8).length 1 false, H) ∧ hget H 96 = some ⟨.row, lcs (rowsL n left 8)⟩) := by
    generalize rowsL n left 8 = R at *
    generalize kF (d + n + 1) = C at *
    rcases ocvL 96 R with ⟨hn1, o1, o2⟩ | ⟨hp1, o1, o2⟩ <;> rw [o1, o2] at hc
    · refine .inl ⟨hn1, ?_⟩
      simp (disch := omega) only [ZF, frame0, stp, opBox, just, Rd.bind, Rd.run, Rd.opt, upds, acells, zeroCells, tsz, rdCells, aLoad, aStore, opStore, resA, resL, fresh, putC, Nat.reduceMul, Nat.reduceBEq, Nat.reduceEqDiff, Nat.reduceLeDiff, ↓reduceIte, reduceCtorEq, mutX, snaps, ZT, F_59, callV, rw_mut, hc]
      exact ⟨_, rfl⟩
    · refine .inr ⟨hp1, ?_⟩
      simp (disch := omega) only [ZF, frame0, stp, opBox, just, Rd.bind, Rd.run, Rd.opt, upds, acells, zeroCells, tsz, rdCells, aLoad, aStore, opStore, resA, resL, fresh, putC, Nat.reduceMul, Nat.reduceBEq, Nat.reduceEqDiff, Nat.reduceLeDiff, ↓reduceIte, reduceCtorEq, mutX, snaps, ZT, F_59, callV, rw_mut, hc]
      exact ⟨_, rfl, rfl⟩
  rcases key with ⟨e, H, h1⟩ | ⟨hp, H, h1, h2⟩
  · rw [if_pos e]
    exact aBack_nil ⟨H, by rw [kF_no rfl]; exact h1⟩
  · rw [if_neg (fun e => by rw [e] at hp; simp at hp)]
    exact aBack_refc (by rw [kF_no rfl]; exact h1) h2 (lcs_length _)
end Go.AM.Ytfmnoohhhokicaa
end

section
namespace Go.AM.Ytfmnoohhhokicaa
open Go Go.AM
set_option maxRecDepth 100000
variable {C : Callee} {B N : Nat} {E0 : AHeap} (φ : AFr) (H : AHeap) (s : St)
noncomputable def c103_0 : Code := kBody Proofs.Try.f103
noncomputable def c103_1 : Code := kL c103_0
noncomputable def r103_0 : Array Oper := kO c103_1
noncomputable def o103_0_0 : Oper := opN r103_0 0
theorem x103_1 : execA E C (fg 103) B 34 E0 N c103_1 s = regX (runA E C B 34 r103_0 r103_0.toList s) (fun s => gcM E0 [4] (forget s.1 [4], s.2)) := x_reg (ops := r103_0) (by rfl) (by rfl) s
theorem r103_0_l : r103_0.toList = [o103_0_0] := nrfl rfl
theorem s103_0_0 : stepA E C B 34 r103_0 o103_0_0 (φ, H) = some (fput φ 4 (.nilsl), H) := nrfl rfl
noncomputable def c103_2 : Code := kR c103_0
noncomputable def c103_3 : Code := kL c103_2
noncomputable def r103_1 : Array Oper := kO c103_3
noncomputable def o103_1_0 : Oper := opN r103_1 0
noncomputable def o103_1_1 : Oper := opN r103_1 1
noncomputable def o103_1_2 : Oper := opN r103_1 2
theorem x103_3 : execA E C (fg 103) B 34 E0 N c103_3 s = regX (runA E C B 34 r103_1 r103_1.toList s) (fun s => gcM E0 [1, 9, 10] (forget s.1 [1, 9, 10], s.2)) := x_reg (ops := r103_1) (by rfl) (by rfl) s
theorem r103_1_l : r103_1.toList = [o103_1_0, o103_1_1, o103_1_2] := nrfl rfl
theorem s103_1_0 : stepA E C B 34 r103_1 o103_1_0 (φ, H) = some (fput φ 9 (fget φ 1), H) := nrfl rfl
theorem s103_1_1 : stepA E C B 34 r103_1 o103_1_1 (φ, H) = stp (some 10) φ H (aMake E.T (B + 10) 22 (fget φ 9) (fget φ 9)) := nrfl rfl
theorem s103_1_2 : stepA E C B 34 r103_1 o103_1_2 (φ, H) = some (fput φ 5 (fget φ 10), H) := nrfl rfl
noncomputable def c103_4 : Code := kR c103_2
noncomputable def c103_5 : Code := kL c103_4
noncomputable def c103_6 : Code := kL c103_5
noncomputable def r103_2 : Array Oper := kO c103_6
noncomputable def o103_2_0 : Oper := opN r103_2 0
noncomputable def o103_2_1 : Oper := opN r103_2 1
noncomputable def o103_2_2 : Oper := opN r103_2 2
theorem x103_6 : execA E C (fg 103) B 34 E0 N c103_6 s = regX (runA E C B 34 r103_2 r103_2.toList s) (fun s => gcM E0 [11] (forget s.1 [11], s.2)) := x_reg (ops := r103_2) (by rfl) (by rfl) s
theorem r103_2_l : r103_2.toList = [o103_2_0, o103_2_1, o103_2_2] := nrfl rfl
theorem s103_2_0 : stepA E C B 34 r103_2 o103_2_0 (φ, H) = some (fput φ 11 (fget φ 5), H) := nrfl rfl
theorem s103_2_1 : stepA E C B 34 r103_2 o103_2_1 (φ, H) = stp (some 12) φ H (aBuiltin E.T (B + 12) .len #[22] [(fget φ 11)]) := nrfl rfl
theorem s103_2_2 : stepA E C B 34 r103_2 o103_2_2 (φ, H) = some (fput φ 13 (.int .i64 0), H) := nrfl rfl
noncomputable def c103_7 : Code := kR c103_5
noncomputable def c103_8 : Code := kB c103_7
noncomputable def c103_9 : Code := kB c103_8
noncomputable def c103_10 : Code := kL c103_9
noncomputable def r103_3 : Array Oper := kO c103_10
noncomputable def o103_3_0 : Oper := opN r103_3 0
theorem x103_10 : execA E C (fg 103) B 34 E0 N c103_10 s = regX (runA E C B 34 r103_3 r103_3.toList s) (fun s => gcM E0 [] (forget s.1 [], s.2)) := x_reg (ops := r103_3) (by rfl) (by rfl) s
theorem r103_3_l : r103_3.toList = [o103_3_0] := nrfl rfl
theorem s103_3_0 : stepA E C B 34 r103_3 o103_3_0 (φ, H) = stp (some 14) φ H (just (aBin E.T .lss 3 (fget φ 13) (fget φ 12))) := nrfl rfl
noncomputable def c103_11 : Code := kR c103_9
noncomputable def c103_12 : Code := kL c103_11
noncomputable def c103_13 : Code := kT c103_12
theorem x103_13 : execA E C (fg 103) B 34 E0 N c103_13 s = some (.normal, s) := x_skip (by rfl) s
noncomputable def c103_14 : Code := kE c103_12
theorem x103_14 : execA E C (fg 103) B 34 E0 N c103_14 s = some (.exit 0, s) := x_exit (by rfl) s
theorem x103_12 : execA E C (fg 103) B 34 E0 N c103_12 (φ, H) = condX (fget φ 14) (execA E C (fg 103) B 34 E0 N c103_13 (φ, H)) (execA E C (fg 103) B 34 E0 N c103_14 (φ, H)) := x_cond (by rfl) _
noncomputable def c103_15 : Code := kR c103_11
noncomputable def c103_16 : Code := kL c103_15
noncomputable def c103_17 : Code := kB c103_16
noncomputable def c103_18 : Code := kL c103_17
noncomputable def r103_4 : Array Oper := kO c103_18
noncomputable def o103_4_0 : Oper := opN r103_4 0
noncomputable def o103_4_1 : Oper := opN r103_4 1
theorem x103_18 : execA E C (fg 103) B 34 E0 N c103_18 s = regX (runA E C B 34 r103_4 r103_4.toList s) (fun s => gcM E0 [14, 15] (forget s.1 [14, 15], s.2)) := x_reg (ops := r103_4) (by rfl) (by rfl) s
theorem r103_4_l : r103_4.toList = [o103_4_0, o103_4_1] := nrfl rfl
theorem s103_4_0 : stepA E C B 34 r103_4 o103_4_0 (φ, H) = some (fput φ 15 (fget φ 13), H) := nrfl rfl
theorem s103_4_1 : stepA E C B 34 r103_4 o103_4_1 (φ, H) = some (fput φ 6 (fget φ 15), H) := nrfl rfl
noncomputable def c103_19 : Code := kR c103_17
noncomputable def c103_20 : Code := kL c103_19
noncomputable def r103_5 : Array Oper := kO c103_20
noncomputable def o103_5_0 : Oper := opN r103_5 0
noncomputable def o103_5_1 : Oper := opN r103_5 1
noncomputable def o103_5_2 : Oper := opN r103_5 2
theorem x103_20 : execA E C (fg 103) B 34 E0 N c103_20 s = regX (runA E C B 34 r103_5 r103_5.toList s) (fun s => gcM E0 [] (forget s.1 [], s.2)) := x_reg (ops := r103_5) (by rfl) (by rfl) s
theorem r103_5_l : r103_5.toList = [o103_5_0, o103_5_1, o103_5_2] := nrfl rfl
theorem s103_5_0 : stepA E C B 34 r103_5 o103_5_0 (φ, H) = some (fput φ 16 (fget φ 0), H) := nrfl rfl
theorem s103_5_1 : stepA E C B 34 r103_5 o103_5_1 (φ, H) = stp (some 17) φ H (aBuiltin E.T (B + 17) .len #[22] [(fget φ 16)]) := nrfl rfl
theorem s103_5_2 : stepA E C B 34 r103_5 o103_5_2 (φ, H) = some (fput φ 18 (.int .i64 0), H) := nrfl rfl
noncomputable def c103_21 : Code := kR c103_19
noncomputable def c103_22 : Code := kB c103_21
noncomputable def c103_23 : Code := kB c103_22
noncomputable def c103_24 : Code := kL c103_23
noncomputable def r103_6 : Array Oper := kO c103_24
noncomputable def o103_6_0 : Oper := opN r103_6 0
theorem x103_24 : execA E C (fg 103) B 34 E0 N c103_24 s = regX (runA E C B 34 r103_6 r103_6.toList s) (fun s => gcM E0 [] (forget s.1 [], s.2)) := x_reg (ops := r103_6) (by rfl) (by rfl) s
theorem r103_6_l : r103_6.toList = [o103_6_0] := nrfl rfl
theorem s103_6_0 : stepA E C B 34 r103_6 o103_6_0 (φ, H) = stp (some 19) φ H (just (aBin E.T .lss 3 (fget φ 18) (fget φ 17))) := nrfl rfl
noncomputable def c103_25 : Code := kR c103_23
noncomputable def c103_26 : Code := kL c103_25
noncomputable def c103_27 : Code := kT c103_26
theorem x103_27 : execA E C (fg 103) B 34 E0 N c103_27 s = some (.normal, s) := x_skip (by rfl) s
noncomputable def c103_28 : Code := kE c103_26
theorem x103_28 : execA E C (fg 103) B 34 E0 N c103_28 s = some (.exit 2, s) := x_exit (by rfl) s
theorem x103_26 : execA E C (fg 103) B 34 E0 N c103_26 (φ, H) = condX (fget φ 19) (execA E C (fg 103) B 34 E0 N c103_27 (φ, H)) (execA E C (fg 103) B 34 E0 N c103_28 (φ, H)) := x_cond (by rfl) _
noncomputable def c103_29 : Code := kR c103_25
noncomputable def c103_30 : Code := kL c103_29
noncomputable def c103_31 : Code := kB c103_30
noncomputable def c103_32 : Code := kL c103_31
noncomputable def r103_7 : Array Oper := kO c103_32
noncomputable def o103_7_0 : Oper := opN r103_7 0
noncomputable def o103_7_1 : Oper := opN r103_7 1
noncomputable def o103_7_2 : Oper := opN r103_7 2
theorem x103_32 : execA E C (fg 103) B 34 E0 N c103_32 s = regX (runA E C B 34 r103_7 r103_7.toList s) (fun s => gcM E0 [19, 20, 21] (forget s.1 [19, 20, 21], s.2)) := x_reg (ops := r103_7) (by rfl) (by rfl) s
theorem r103_7_l : r103_7.toList = [o103_7_0, o103_7_1, o103_7_2] := nrfl rfl
theorem s103_7_0 : stepA E C B 34 r103_7 o103_7_0 (φ, H) = stp (some 20) φ H (just (aIndexAddr E.T 22 (fget φ 16) (fget φ 18))) := nrfl rfl
theorem s103_7_1 : stepA E C B 34 r103_7 o103_7_1 (φ, H) = stp (some 21) φ H (just (aLoad E.T 3 (fget φ 20))) := nrfl rfl
theorem s103_7_2 : stepA E C B 34 r103_7 o103_7_2 (φ, H) = some (fput φ 8 (fget φ 21), H) := nrfl rfl
noncomputable def c103_33 : Code := kR c103_31
noncomputable def c103_34 : Code := kL c103_33
noncomputable def r103_8 : Array Oper := kO c103_34
noncomputable def o103_8_0 : Oper := opN r103_8 0
noncomputable def o103_8_1 : Oper := opN r103_8 1
noncomputable def o103_8_2 : Oper := opN r103_8 2
theorem x103_34 : execA E C (fg 103) B 34 E0 N c103_34 s = regX (runA E C B 34 r103_8 r103_8.toList s) (fun s => gcM E0 [8, 22, 23] (forget s.1 [8, 22, 23], s.2)) := x_reg (ops := r103_8) (by rfl) (by rfl) s
theorem r103_8_l : r103_8.toList = [o103_8_0, o103_8_1, o103_8_2] := nrfl rfl
theorem s103_8_0 : stepA E C B 34 r103_8 o103_8_0 (φ, H) = some (fput φ 22 (fget φ 8), H) := nrfl rfl
theorem s103_8_1 : stepA E C B 34 r103_8 o103_8_1 (φ, H) = some (fput φ 23 (fget φ 6), H) := nrfl rfl
theorem s103_8_2 : stepA E C B 34 r103_8 o103_8_2 (φ, H) = stp (some 24) φ H (just (aBin E.T .gtr 3 (fget φ 22) (fget φ 23))) := nrfl rfl
noncomputable def c103_35 : Code := kR c103_33
noncomputable def c103_36 : Code := kT c103_35
noncomputable def r103_9 : Array Oper := kO c103_36
noncomputable def o103_9_0 : Oper := opN r103_9 0
noncomputable def o103_9_1 : Oper := opN r103_9 1
noncomputable def o103_9_2 : Oper := opN r103_9 2
noncomputable def o103_9_3 : Oper := opN r103_9 3
noncomputable def o103_9_4 : Oper := opN r103_9 4
noncomputable def o103_9_5 : Oper := opN r103_9 5
noncomputable def o103_9_6 : Oper := opN r103_9 6
theorem x103_36 : execA E C (fg 103) B 34 E0 N c103_36 s = regX (runA E C B 34 r103_9 r103_9.toList s) (fun s => gcM E0 [24, 25, 26, 27, 28, 29, 30] (forget s.1 [24, 25, 26, 27, 28, 29, 30], s.2)) := x_reg (ops := r103_9) (by rfl) (by rfl) s
theorem r103_9_l : r103_9.toList = [o103_9_0, o103_9_1, o103_9_2, o103_9_3, o103_9_4, o103_9_5, o103_9_6] := nrfl rfl
theorem s103_9_0 : stepA E C B 34 r103_9 o103_9_0 (φ, H) = some (fput φ 25 (fget φ 5), H) := nrfl rfl
theorem s103_9_1 : stepA E C B 34 r103_9 o103_9_1 (φ, H) = some (fput φ 26 (fget φ 6), H) := nrfl rfl
theorem s103_9_2 : stepA E C B 34 r103_9 o103_9_2 (φ, H) = stp (some 27) φ H (just (aIndexAddr E.T 22 (fget φ 25) (fget φ 26))) := nrfl rfl
theorem s103_9_3 : stepA E C B 34 r103_9 o103_9_3 (φ, H) = stp (some 28) φ H (just (aLoad E.T 3 (fget φ 27))) := nrfl rfl
theorem s103_9_4 : stepA E C B 34 r103_9 o103_9_4 (φ, H) = stp (some 29) φ H (just (aBin E.T .add 3 (fget φ 28) (.int .i64 1))) := nrfl rfl
theorem s103_9_5 : stepA E C B 34 r103_9 o103_9_5 (φ, H) = stp (some 30) φ H (just (aIndexAddr E.T 22 (fget φ 25) (fget φ 26))) := nrfl rfl
theorem s103_9_6 : stepA E C B 34 r103_9 o103_9_6 (φ, H) = stp none φ H (opStore E.T 3 (fget φ 30) (fget φ 29)) := nrfl rfl
noncomputable def c103_37 : Code := kE c103_35
theorem x103_37 : execA E C (fg 103) B 34 E0 N c103_37 s = some (.normal, s) := x_skip (by rfl) s
theorem x103_35 : execA E C (fg 103) B 34 E0 N c103_35 (φ, H) = condX (fget φ 24) (execA E C (fg 103) B 34 E0 N c103_36 (φ, H)) (execA E C (fg 103) B 34 E0 N c103_37 (φ, H)) := x_cond (by rfl) _
theorem x103_33 : execA E C (fg 103) B 34 E0 N c103_33 s = seqX (execA E C (fg 103) B 34 E0 N c103_34 s) (execA E C (fg 103) B 34 E0 N c103_35) := x_seq (by rfl) s
theorem x103_31 : execA E C (fg 103) B 34 E0 N c103_31 s = seqX (execA E C (fg 103) B 34 E0 N c103_32 s) (execA E C (fg 103) B 34 E0 N c103_33) := x_seq (by rfl) s
theorem x103_30 : execA E C (fg 103) B 34 E0 N c103_30 s = blockX 3 (fun s => (forget s.1 [24], s.2)) (execA E C (fg 103) B 34 E0 N c103_31 s) := x_block (by rfl) (by rfl) s
noncomputable def c103_38 : Code := kR c103_29
noncomputable def r103_10 : Array Oper := kO c103_38
noncomputable def o103_10_0 : Oper := opN r103_10 0
noncomputable def o103_10_1 : Oper := opN r103_10 1
theorem x103_38 : execA E C (fg 103) B 34 E0 N c103_38 s = regX (runA E C B 34 r103_10 r103_10.toList s) (fun s => gcM E0 [31] (forget s.1 [31], s.2)) := x_reg (ops := r103_10) (by rfl) (by rfl) s
theorem r103_10_l : r103_10.toList = [o103_10_0, o103_10_1] := nrfl rfl
theorem s103_10_0 : stepA E C B 34 r103_10 o103_10_0 (φ, H) = stp (some 31) φ H (just (aBin E.T .add 3 (fget φ 18) (.int .i64 1))) := nrfl rfl
theorem s103_10_1 : stepA E C B 34 r103_10 o103_10_1 (φ, H) = some (fput φ 18 (fget φ 31), H) := nrfl rfl
theorem x103_29 : execA E C (fg 103) B 34 E0 N c103_29 s = seqX (execA E C (fg 103) B 34 E0 N c103_30 s) (execA E C (fg 103) B 34 E0 N c103_38) := x_seq (by rfl) s
theorem x103_25 : execA E C (fg 103) B 34 E0 N c103_25 s = seqX (execA E C (fg 103) B 34 E0 N c103_26 s) (execA E C (fg 103) B 34 E0 N c103_29) := x_seq (by rfl) s
theorem x103_23 : execA E C (fg 103) B 34 E0 N c103_23 s = seqX (execA E C (fg 103) B 34 E0 N c103_24 s) (execA E C (fg 103) B 34 E0 N c103_25) := x_seq (by rfl) s
theorem x103_22 : execA E C (fg 103) B 34 E0 N c103_22 s = iterA (execA E C (fg 103) B 34 E0 N c103_23) (headA E0) N s := x_loop (by rfl) s
theorem x103_21 : execA E C (fg 103) B 34 E0 N c103_21 s = blockX 2 (fun s => (forget s.1 [6, 16, 17, 18, 19], s.2)) (execA E C (fg 103) B 34 E0 N c103_22 s) := x_block (by rfl) (by rfl) s
theorem x103_19 : execA E C (fg 103) B 34 E0 N c103_19 s = seqX (execA E C (fg 103) B 34 E0 N c103_20 s) (execA E C (fg 103) B 34 E0 N c103_21) := x_seq (by rfl) s
theorem x103_17 : execA E C (fg 103) B 34 E0 N c103_17 s = seqX (execA E C (fg 103) B 34 E0 N c103_18 s) (execA E C (fg 103) B 34 E0 N c103_19) := x_seq (by rfl) s
theorem x103_16 : execA E C (fg 103) B 34 E0 N c103_16 s = blockX 1 (fun s => (forget s.1 [], s.2)) (execA E C (fg 103) B 34 E0 N c103_17 s) := x_block (by rfl) (by rfl) s
noncomputable def c103_39 : Code := kR c103_15
noncomputable def r103_11 : Array Oper := kO c103_39
noncomputable def o103_11_0 : Oper := opN r103_11 0
noncomputable def o103_11_1 : Oper := opN r103_11 1
theorem x103_39 : execA E C (fg 103) B 34 E0 N c103_39 s = regX (runA E C B 34 r103_11 r103_11.toList s) (fun s => gcM E0 [32] (forget s.1 [32], s.2)) := x_reg (ops := r103_11) (by rfl) (by rfl) s
theorem r103_11_l : r103_11.toList = [o103_11_0, o103_11_1] := nrfl rfl
theorem s103_11_0 : stepA E C B 34 r103_11 o103_11_0 (φ, H) = stp (some 32) φ H (just (aBin E.T .add 3 (fget φ 13) (.int .i64 1))) := nrfl rfl
theorem s103_11_1 : stepA E C B 34 r103_11 o103_11_1 (φ, H) = some (fput φ 13 (fget φ 32), H) := nrfl rfl
theorem x103_15 : execA E C (fg 103) B 34 E0 N c103_15 s = seqX (execA E C (fg 103) B 34 E0 N c103_16 s) (execA E C (fg 103) B 34 E0 N c103_39) := x_seq (by rfl) s
theorem x103_11 : execA E C (fg 103) B 34 E0 N c103_11 s = seqX (execA E C (fg 103) B 34 E0 N c103_12 s) (execA E C (fg 103) B 34 E0 N c103_15) := x_seq (by rfl) s
theorem x103_9 : execA E C (fg 103) B 34 E0 N c103_9 s = seqX (execA E C (fg 103) B 34 E0 N c103_10 s) (execA E C (fg 103) B 34 E0 N c103_11) := x_seq (by rfl) s
theorem x103_8 : execA E C (fg 103) B 34 E0 N c103_8 s = iterA (execA E C (fg 103) B 34 E0 N c103_9) (headA E0) N s := x_loop (by rfl) s
theorem x103_7 : execA E C (fg 103) B 34 E0 N c103_7 s = blockX 0 (fun s => (forget s.1 [0, 12, 13, 14], s.2)) (execA E C (fg 103) B 34 E0 N c103_8 s) := x_block (by rfl) (by rfl) s
theorem x103_5 : execA E C (fg 103) B 34 E0 N c103_5 s = seqX (execA E C (fg 103) B 34 E0 N c103_6 s) (execA E C (fg 103) B 34 E0 N c103_7) := x_seq (by rfl) s
noncomputable def c103_40 : Code := kR c103_4
noncomputable def c103_41 : Code := kL c103_40
noncomputable def r103_12 : Array Oper := kO c103_41
noncomputable def o103_12_0 : Oper := opN r103_12 0
noncomputable def o103_12_1 : Oper := opN r103_12 1
theorem x103_41 : execA E C (fg 103) B 34 E0 N c103_41 s = regX (runA E C B 34 r103_12 r103_12.toList s) (fun s => gcM E0 [5, 33] (forget s.1 [5, 33], s.2)) := x_reg (ops := r103_12) (by rfl) (by rfl) s
theorem r103_12_l : r103_12.toList = [o103_12_0, o103_12_1] := nrfl rfl
theorem s103_12_0 : stepA E C B 34 r103_12 o103_12_0 (φ, H) = some (fput φ 33 (fget φ 5), H) := nrfl rfl
theorem s103_12_1 : stepA E C B 34 r103_12 o103_12_1 (φ, H) = some (fput φ 4 (fget φ 33), H) := nrfl rfl
noncomputable def c103_42 : Code := kR c103_40
theorem x103_42 : execA E C (fg 103) B 34 E0 N c103_42 s = some (.ret, s) := x_ret (by rfl) s
theorem x103_40 : execA E C (fg 103) B 34 E0 N c103_40 s = seqX (execA E C (fg 103) B 34 E0 N c103_41 s) (execA E C (fg 103) B 34 E0 N c103_42) := x_seq (by rfl) s
theorem x103_4 : execA E C (fg 103) B 34 E0 N c103_4 s = seqX (execA E C (fg 103) B 34 E0 N c103_5 s) (execA E C (fg 103) B 34 E0 N c103_40) := x_seq (by rfl) s
theorem x103_2 : execA E C (fg 103) B 34 E0 N c103_2 s = seqX (execA E C (fg 103) B 34 E0 N c103_3 s) (execA E C (fg 103) B 34 E0 N c103_4) := x_seq (by rfl) s
theorem x103_0 : execA E C (fg 103) B 34 E0 N c103_0 s = seqX (execA E C (fg 103) B 34 E0 N c103_1 s) (execA E C (fg 103) B 34 E0 N c103_2) := x_seq (by rfl) s
theorem fi_103 : fInfo E 103 = some ⟨34, #[.tmp 4], c103_0⟩ := nrfl rfl
theorem b_103 (args : List AV) : bodyA E C fg N 103 args H B = bodyX E [.tmp 4] (execA E C (fg 103) B 34 H N c103_0 (frame0 args 0 [], H)) := bodyA_eq fi_103 args H
abbrev F_103 := And.intro (And.intro (And.intro (And.intro (And.intro (And.intro @x103_1 @r103_0_l) (And.intro @s103_0_0 (And.intro @x103_3 @r103_1_l))) (And.intro (And.intro @s103_1_0 (And.intro @s103_1_1 @s103_1_2)) (And.intro @x103_6 (And.intro @r103_2_l @s103_2_0)))) (And.intro (And.intro (And.intro @s103_2_1 @s103_2_2) (And.intro @x103_10 (And.intro @r103_3_l @s103_3_0))) (And.intro (And.intro @x103_13 (And.intro @x103_14 @x103_12)) (And.intro @x103_18 (And.intro @r103_4_l @s103_4_0))))) (And.intro (And.intro (And.intro (And.intro @s103_4_1 @x103_20) (And.intro @r103_5_l (And.intro @s103_5_0 @s103_5_1))) (And.intro (And.intro @s103_5_2 (And.intro @x103_24 @r103_6_l)) (And.intro @s103_6_0 (And.intro @x103_27 @x103_28)))) (And.intro (And.intro (And.intro @x103_26 (And.intro @x103_32 @r103_7_l)) (And.intro @s103_7_0 (And.intro @s103_7_1 @s103_7_2))) (And.intro (And.intro @x103_34 (And.intro @r103_8_l @s103_8_0)) (And.intro @s103_8_1 (And.intro @s103_8_2 @x103_36)))))) (And.intro (And.intro (And.intro (And.intro (And.intro @r103_9_l @s103_9_0) (And.intro @s103_9_1 (And.intro @s103_9_2 @s103_9_3))) (And.intro (And.intro @s103_9_4 (And.intro @s103_9_5 @s103_9_6)) (And.intro @x103_37 (And.intro @x103_35 @x103_33)))) (And.intro (And.intro (And.intro @x103_31 @x103_30) (And.intro @x103_38 (And.intro @r103_10_l @s103_10_0))) (And.intro (And.intro @s103_10_1 (And.intro @x103_29 @x103_25)) (And.intro @x103_23 (And.intro @x103_22 @x103_21))))) (And.intro (And.intro (And.intro (And.intro @x103_19 @x103_17) (And.intro @x103_16 (And.intro @x103_39 @r103_11_l))) (And.intro (And.intro @s103_11_0 (And.intro @s103_11_1 @x103_15)) (And.intro @x103_11 (And.intro @x103_9 @x103_8)))) (And.intro (And.intro (And.intro @x103_7 (And.intro @x103_5 @x103_41)) (And.intro @r103_12_l (And.intro @s103_12_0 @s103_12_1))) (And.intro (And.intro @x103_42 (And.intro @x103_40 @x103_4)) (And.intro @x103_2 (And.intro @x103_0 @b_103))))))
noncomputable def c101_0 : Code := kBody Proofs.Try.f101
noncomputable def c101_1 : Code := kL c101_0
noncomputable def r101_0 : Array Oper := kO c101_1
noncomputable def o101_0_0 : Oper := opN r101_0 0
theorem x101_1 : execA E C (fg 101) B 44 E0 N c101_1 s = regX (runA E C B 44 r101_0 r101_0.toList s) (fun s => gcM E0 [4] (forget s.1 [4], s.2)) := x_reg (ops := r101_0) (by rfl) (by rfl) s
theorem r101_0_l : r101_0.toList = [o101_0_0] := nrfl rfl
theorem s101_0_0 : stepA E C B 44 r101_0 o101_0_0 (φ, H) = some (fput φ 4 (.nilsl), H) := nrfl rfl
noncomputable def c101_2 : Code := kR c101_0
noncomputable def c101_3 : Code := kL c101_2
noncomputable def r101_1 : Array Oper := kO c101_3
noncomputable def o101_1_0 : Oper := opN r101_1 0
noncomputable def o101_1_1 : Oper := opN r101_1 1
noncomputable def o101_1_2 : Oper := opN r101_1 2
noncomputable def o101_1_3 : Oper := opN r101_1 3
noncomputable def o101_1_4 : Oper := opN r101_1 4
noncomputable def o101_1_5 : Oper := opN r101_1 5
theorem x101_3 : execA E C (fg 101) B 44 E0 N c101_3 s = regX (runA E C B 44 r101_1 r101_1.toList s) (fun s => gcM E0 [1, 9, 10, 11, 12] (forget s.1 [1, 9, 10, 11, 12], s.2)) := x_reg (ops := r101_1) (by rfl) (by rfl) s
theorem r101_1_l : r101_1.toList = [o101_1_0, o101_1_1, o101_1_2, o101_1_3, o101_1_4, o101_1_5] := nrfl rfl
theorem s101_1_0 : stepA E C B 44 r101_1 o101_1_0 (φ, H) = some (fput φ 9 (fget φ 0), H) := nrfl rfl
theorem s101_1_1 : stepA E C B 44 r101_1 o101_1_1 (φ, H) = stp (some 10) φ H (aCall C (fun j => B + j * 44 + 10) true 79 [(fget φ 9)]) := nrfl rfl
theorem s101_1_2 : stepA E C B 44 r101_1 o101_1_2 (φ, H) = some (fput φ 11 (fget φ 1), H) := nrfl rfl
theorem s101_1_3 : stepA E C B 44 r101_1 o101_1_3 (φ, H) = stp (some 12) φ H (aCall C (fun j => B + j * 44 + 12) true 79 [(fget φ 11)]) := nrfl rfl
theorem s101_1_4 : stepA E C B 44 r101_1 o101_1_4 (φ, H) = some (fput φ 5 (fget φ 10), H) := nrfl rfl
theorem s101_1_5 : stepA E C B 44 r101_1 o101_1_5 (φ, H) = some (fput φ 6 (fget φ 12), H) := nrfl rfl
noncomputable def c101_4 : Code := kR c101_2
noncomputable def c101_5 : Code := kL c101_4
noncomputable def r101_2 : Array Oper := kO c101_5
noncomputable def o101_2_0 : Oper := opN r101_2 0
theorem x101_5 : execA E C (fg 101) B 44 E0 N c101_5 s = regX (runA E C B 44 r101_2 r101_2.toList s) (fun s => gcM E0 [] (forget s.1 [], s.2)) := x_reg (ops := r101_2) (by rfl) (by rfl) s
theorem r101_2_l : r101_2.toList = [o101_2_0] := nrfl rfl
theorem s101_2_0 : stepA E C B 44 r101_2 o101_2_0 (φ, H) = some (fput φ 7 (.nilsl), H) := nrfl rfl
noncomputable def c101_6 : Code := kR c101_4
noncomputable def c101_7 : Code := kL c101_6
noncomputable def c101_8 : Code := kL c101_7
noncomputable def r101_3 : Array Oper := kO c101_8
noncomputable def o101_3_0 : Oper := opN r101_3 0
noncomputable def o101_3_1 : Oper := opN r101_3 1
noncomputable def o101_3_2 : Oper := opN r101_3 2
theorem x101_8 : execA E C (fg 101) B 44 E0 N c101_8 s = regX (runA E C B 44 r101_3 r101_3.toList s) (fun s => gcM E0 [0, 13] (forget s.1 [0, 13], s.2)) := x_reg (ops := r101_3) (by rfl) (by rfl) s
theorem r101_3_l : r101_3.toList = [o101_3_0, o101_3_1, o101_3_2] := nrfl rfl
theorem s101_3_0 : stepA E C B 44 r101_3 o101_3_0 (φ, H) = some (fput φ 13 (fget φ 0), H) := nrfl rfl
theorem s101_3_1 : stepA E C B 44 r101_3 o101_3_1 (φ, H) = stp (some 14) φ H (aBuiltin E.T (B + 14) .len #[22] [(fget φ 13)]) := nrfl rfl
theorem s101_3_2 : stepA E C B 44 r101_3 o101_3_2 (φ, H) = some (fput φ 15 (.int .i64 0), H) := nrfl rfl
noncomputable def c101_9 : Code := kR c101_7
noncomputable def c101_10 : Code := kB c101_9
noncomputable def c101_11 : Code := kB c101_10
noncomputable def c101_12 : Code := kL c101_11
noncomputable def r101_4 : Array Oper := kO c101_12
noncomputable def o101_4_0 : Oper := opN r101_4 0
theorem x101_12 : execA E C (fg 101) B 44 E0 N c101_12 s = regX (runA E C B 44 r101_4 r101_4.toList s) (fun s => gcM E0 [] (forget s.1 [], s.2)) := x_reg (ops := r101_4) (by rfl) (by rfl) s
theorem r101_4_l : r101_4.toList = [o101_4_0] := nrfl rfl
theorem s101_4_0 : stepA E C B 44 r101_4 o101_4_0 (φ, H) = stp (some 16) φ H (just (aBin E.T .lss 3 (fget φ 15) (fget φ 14))) := nrfl rfl
noncomputable def c101_13 : Code := kR c101_11
noncomputable def c101_14 : Code := kL c101_13
noncomputable def c101_15 : Code := kT c101_14
theorem x101_15 : execA E C (fg 101) B 44 E0 N c101_15 s = some (.normal, s) := x_skip (by rfl) s
noncomputable def c101_16 : Code := kE c101_14
theorem x101_16 : execA E C (fg 101) B 44 E0 N c101_16 s = some (.exit 0, s) := x_exit (by rfl) s
theorem x101_14 : execA E C (fg 101) B 44 E0 N c101_14 (φ, H) = condX (fget φ 16) (execA E C (fg 101) B 44 E0 N c101_15 (φ, H)) (execA E C (fg 101) B 44 E0 N c101_16 (φ, H)) := x_cond (by rfl) _
noncomputable def c101_17 : Code := kR c101_13
noncomputable def c101_18 : Code := kL c101_17
noncomputable def c101_19 : Code := kB c101_18
noncomputable def c101_20 : Code := kL c101_19
noncomputable def r101_5 : Array Oper := kO c101_20
noncomputable def o101_5_0 : Oper := opN r101_5 0
noncomputable def o101_5_1 : Oper := opN r101_5 1
theorem x101_20 : execA E C (fg 101) B 44 E0 N c101_20 s = regX (runA E C B 44 r101_5 r101_5.toList s) (fun s => gcM E0 [16, 17] (forget s.1 [16, 17], s.2)) := x_reg (ops := r101_5) (by rfl) (by rfl) s
theorem r101_5_l : r101_5.toList = [o101_5_0, o101_5_1] := nrfl rfl
theorem s101_5_0 : stepA E C B 44 r101_5 o101_5_0 (φ, H) = some (fput φ 17 (fget φ 15), H) := nrfl rfl
theorem s101_5_1 : stepA E C B 44 r101_5 o101_5_1 (φ, H) = some (fput φ 8 (fget φ 17), H) := nrfl rfl
noncomputable def c101_21 : Code := kR c101_19
noncomputable def r101_6 : Array Oper := kO c101_21
noncomputable def o101_6_0 : Oper := opN r101_6 0
noncomputable def o101_6_1 : Oper := opN r101_6 1
noncomputable def o101_6_2 : Oper := opN r101_6 2
noncomputable def o101_6_3 : Oper := opN r101_6 3
noncomputable def o101_6_4 : Oper := opN r101_6 4
noncomputable def o101_6_5 : Oper := opN r101_6 5
noncomputable def o101_6_6 : Oper := opN r101_6 6
noncomputable def o101_6_7 : Oper := opN r101_6 7
noncomputable def o101_6_8 : Oper := opN r101_6 8
noncomputable def o101_6_9 : Oper := opN r101_6 9
noncomputable def o101_6_10 : Oper := opN r101_6 10
noncomputable def o101_6_11 : Oper := opN r101_6 11
noncomputable def o101_6_12 : Oper := opN r101_6 12
noncomputable def o101_6_13 : Oper := opN r101_6 13
noncomputable def o101_6_14 : Oper := opN r101_6 14
noncomputable def o101_6_15 : Oper := opN r101_6 15
noncomputable def o101_6_16 : Oper := opN r101_6 16
noncomputable def o101_6_17 : Oper := opN r101_6 17
noncomputable def o101_6_18 : Oper := opN r101_6 18
noncomputable def o101_6_19 : Oper := opN r101_6 19
noncomputable def o101_6_20 : Oper := opN r101_6 20
noncomputable def o101_6_21 : Oper := opN r101_6 21
noncomputable def o101_6_22 : Oper := opN r101_6 22
noncomputable def o101_6_23 : Oper := opN r101_6 23
noncomputable def o101_6_24 : Oper := opN r101_6 24
theorem x101_21 : execA E C (fg 101) B 44 E0 N c101_21 s = regX (drawA E C B 44 r101_6 s) (fun s => gcM E0 [8, 18, 19, 20, 21, 22, 23, 24, 25, 26, 27, 28, 29, 30, 31, 32, 33, 34, 35, 36, 37, 38, 39, 40, 41] (forget s.1 [8, 18, 19, 20, 21, 22, 23, 24, 25, 26, 27, 28, 29, 30, 31, 32, 33, 34, 35, 36, 37, 38, 39, 40, 41], s.2)) := x_draw (ops := r101_6) (by rfl) (by rfl) s
theorem r101_6_l : r101_6.toList = [o101_6_0, o101_6_1, o101_6_2, o101_6_3, o101_6_4, o101_6_5, o101_6_6, o101_6_7, o101_6_8, o101_6_9, o101_6_10, o101_6_11, o101_6_12, o101_6_13, o101_6_14, o101_6_15, o101_6_16, o101_6_17, o101_6_18, o101_6_19, o101_6_20, o101_6_21, o101_6_22, o101_6_23, o101_6_24] := nrfl rfl
theorem r101_6_st : statOk r101_6 = true := by kernel_rfl
theorem r101_6_dr : drawA E C B 44 r101_6 s = if neat 44 s = true then drX r101_6 (runT E C B 44 r101_6 r101_6.toList 0 s) else none := draw_eq r101_6_st s
theorem r101_6_an (l : List (Nat × Tr)) : dynOk r101_6 l = (!writing l || dynPairs [[], [], [], [2], [1, 2, 3], [1, 2, 3, 4], [], [], [7], [6, 7, 8], [6, 7, 8, 9], [1, 2, 3, 4, 5, 6, 7, 8, 9, 10], [], [], [12, 13], [12, 13, 14], [], [], [16, 17], [16, 17, 18], [12, 13, 14, 15, 16, 17, 18, 19], [1, 2, 3, 4, 5, 6, 7, 8, 9, 10, 11, 12, 13, 14, 15, 16, 17, 18, 19, 20], [1, 2, 3, 4, 5, 6, 7, 8, 9, 10, 11, 12, 13, 14, 15, 16, 17, 18, 19, 20, 21], [0, 1, 2, 3, 4, 5, 6, 7, 8, 9, 10, 11, 12, 13, 14, 15, 16, 17, 18, 19, 20, 21, 22], [0, 1, 2, 3, 4, 5, 6, 7, 8, 9, 10, 11, 12, 13, 14, 15, 16, 17, 18, 19, 20, 21, 22, 23]] (touching l)) := dynOk_eq (by kernel_rfl) l
theorem s101_6_0 : stepT E C B 44 r101_6 o101_6_0 (φ, H) = some ((fput φ 18 (fget φ 7), H), ⟨false, [], []⟩) := stT_go rfl (goT_mv rfl rfl)
theorem s101_6_1 : stepT E C B 44 r101_6 o101_6_1 (φ, H) = some ((fput φ 19 (fget φ 5), H), ⟨false, [], []⟩) := stT_go rfl (goT_mv rfl rfl)
theorem s101_6_2 : stepT E C B 44 r101_6 o101_6_2 (φ, H) = some ((fput φ 20 (fget φ 8), H), ⟨false, [], []⟩) := stT_go rfl (goT_mv rfl rfl)
theorem s101_6_3 : stepT E C B 44 r101_6 o101_6_3 (φ, H) = stpT (some 21) φ H (just (aBin E.T .add 3 (fget φ 20) (.int .i64 1))) := stT_go rfl (goT_R rfl rfl)
theorem s101_6_4 : stepT E C B 44 r101_6 o101_6_4 (φ, H) = stpT (some 22) φ H (just (aIndexAddr E.T 22 (fget φ 19) (fget φ 21))) := stT_go rfl (goT_R rfl rfl)
theorem s101_6_5 : stepT E C B 44 r101_6 o101_6_5 (φ, H) = stpT (some 23) φ H (just (aLoad E.T 3 (fget φ 22))) := stT_go rfl (goT_R rfl rfl)
theorem s101_6_6 : stepT E C B 44 r101_6 o101_6_6 (φ, H) = some ((fput φ 24 (fget φ 6), H), ⟨false, [], []⟩) := stT_go rfl (goT_mv rfl rfl)
theorem s101_6_7 : stepT E C B 44 r101_6 o101_6_7 (φ, H) = some ((fput φ 25 (fget φ 8), H), ⟨false, [], []⟩) := stT_go rfl (goT_mv rfl rfl)
theorem s101_6_8 : stepT E C B 44 r101_6 o101_6_8 (φ, H) = stpT (some 26) φ H (just (aBin E.T .add 3 (fget φ 25) (.int .i64 1))) := stT_go rfl (goT_R rfl rfl)
theorem s101_6_9 : stepT E C B 44 r101_6 o101_6_9 (φ, H) = stpT (some 27) φ H (just (aIndexAddr E.T 22 (fget φ 24) (fget φ 26))) := stT_go rfl (goT_R rfl rfl)
theorem s101_6_10 : stepT E C B 44 r101_6 o101_6_10 (φ, H) = stpT (some 28) φ H (just (aLoad E.T 3 (fget φ 27))) := stT_go rfl (goT_R rfl rfl)
theorem s101_6_11 : stepT E C B 44 r101_6 o101_6_11 (φ, H) = stpT (some 29) φ H (aBuiltin E.T (B + 29) .min #[3, 3] [(fget φ 23), (fget φ 28)]) := stT_go rfl (goT_R rfl rfl)
theorem s101_6_12 : stepT E C B 44 r101_6 o101_6_12 (φ, H) = some ((fput φ 30 (fget φ 5), H), ⟨false, [], []⟩) := stT_go rfl (goT_mv rfl rfl)
theorem s101_6_13 : stepT E C B 44 r101_6 o101_6_13 (φ, H) = some ((fput φ 31 (fget φ 8), H), ⟨false, [], []⟩) := stT_go rfl (goT_mv rfl rfl)
theorem s101_6_14 : stepT E C B 44 r101_6 o101_6_14 (φ, H) = stpT (some 32) φ H (just (aIndexAddr E.T 22 (fget φ 30) (fget φ 31))) := stT_go rfl (goT_R rfl rfl)
theorem s101_6_15 : stepT E C B 44 r101_6 o101_6_15 (φ, H) = stpT (some 33) φ H (just (aLoad E.T 3 (fget φ 32))) := stT_go rfl (goT_R rfl rfl)
theorem s101_6_16 : stepT E C B 44 r101_6 o101_6_16 (φ, H) = some ((fput φ 34 (fget φ 6), H), ⟨false, [], []⟩) := stT_go rfl (goT_mv rfl rfl)
theorem s101_6_17 : stepT E C B 44 r101_6 o101_6_17 (φ, H) = some ((fput φ 35 (fget φ 8), H), ⟨false, [], []⟩) := stT_go rfl (goT_mv rfl rfl)
theorem s101_6_18 : stepT E C B 44 r101_6 o101_6_18 (φ, H) = stpT (some 36) φ H (just (aIndexAddr E.T 22 (fget φ 34) (fget φ 35))) := stT_go rfl (goT_R rfl rfl)
theorem s101_6_19 : stepT E C B 44 r101_6 o101_6_19 (φ, H) = stpT (some 37) φ H (just (aLoad E.T 3 (fget φ 36))) := stT_go rfl (goT_R rfl rfl)
theorem s101_6_20 : stepT E C B 44 r101_6 o101_6_20 (φ, H) = stpT (some 38) φ H (aBuiltin E.T (B + 38) .min #[3, 3] [(fget φ 33), (fget φ 37)]) := stT_go rfl (goT_R rfl rfl)
theorem s101_6_21 : stepT E C B 44 r101_6 o101_6_21 (φ, H) = stpT (some 39) φ H (just (aBin E.T .sub 3 (fget φ 29) (fget φ 38))) := stT_go rfl (goT_R rfl rfl)
theorem s101_6_22 : stepT E C B 44 r101_6 o101_6_22 (φ, H) = stpT (some 40) φ H (aBuildSlice E.T (B + 40) 22 1 (evO E φ) [(0, Operand.tmp 39)]) := stT_go rfl (goT_R rfl rfl)
theorem s101_6_23 : stepT E C B 44 r101_6 o101_6_23 (φ, H) = stpT (some 41) φ H (aBuiltin E.T (B + 41) .append #[22, 22] [(fget φ 18), (fget φ 40)]) := stT_go rfl (goT_R rfl rfl)
theorem s101_6_24 : stepT E C B 44 r101_6 o101_6_24 (φ, H) = some ((fput φ 7 (fget φ 41), H), ⟨false, [], []⟩) := stT_go rfl (goT_mv rfl rfl)
theorem x101_19 : execA E C (fg 101) B 44 E0 N c101_19 s = seqX (execA E C (fg 101) B 44 E0 N c101_20 s) (execA E C (fg 101) B 44 E0 N c101_21) := x_seq (by rfl) s
theorem x101_18 : execA E C (fg 101) B 44 E0 N c101_18 s = blockX 1 (fun s => (forget s.1 [], s.2)) (execA E C (fg 101) B 44 E0 N c101_19 s) := x_block (by rfl) (by rfl) s
noncomputable def c101_22 : Code := kR c101_17
noncomputable def r101_7 : Array Oper := kO c101_22
noncomputable def o101_7_0 : Oper := opN r101_7 0
noncomputable def o101_7_1 : Oper := opN r101_7 1
theorem x101_22 : execA E C (fg 101) B 44 E0 N c101_22 s = regX (runA E C B 44 r101_7 r101_7.toList s) (fun s => gcM E0 [42] (forget s.1 [42], s.2)) := x_reg (ops := r101_7) (by rfl) (by rfl) s
theorem r101_7_l : r101_7.toList = [o101_7_0, o101_7_1] := nrfl rfl
theorem s101_7_0 : stepA E C B 44 r101_7 o101_7_0 (φ, H) = stp (some 42) φ H (just (aBin E.T .add 3 (fget φ 15) (.int .i64 1))) := nrfl rfl
theorem s101_7_1 : stepA E C B 44 r101_7 o101_7_1 (φ, H) = some (fput φ 15 (fget φ 42), H) := nrfl rfl
theorem x101_17 : execA E C (fg 101) B 44 E0 N c101_17 s = seqX (execA E C (fg 101) B 44 E0 N c101_18 s) (execA E C (fg 101) B 44 E0 N c101_22) := x_seq (by rfl) s
theorem x101_13 : execA E C (fg 101) B 44 E0 N c101_13 s = seqX (execA E C (fg 101) B 44 E0 N c101_14 s) (execA E C (fg 101) B 44 E0 N c101_17) := x_seq (by rfl) s
theorem x101_11 : execA E C (fg 101) B 44 E0 N c101_11 s = seqX (execA E C (fg 101) B 44 E0 N c101_12 s) (execA E C (fg 101) B 44 E0 N c101_13) := x_seq (by rfl) s
theorem x101_10 : execA E C (fg 101) B 44 E0 N c101_10 s = iterA (execA E C (fg 101) B 44 E0 N c101_11) (headA E0) N s := x_loop (by rfl) s
theorem x101_9 : execA E C (fg 101) B 44 E0 N c101_9 s = blockX 0 (fun s => (forget s.1 [5, 6, 14, 15, 16], s.2)) (execA E C (fg 101) B 44 E0 N c101_10 s) := x_block (by rfl) (by rfl) s
theorem x101_7 : execA E C (fg 101) B 44 E0 N c101_7 s = seqX (execA E C (fg 101) B 44 E0 N c101_8 s) (execA E C (fg 101) B 44 E0 N c101_9) := x_seq (by rfl) s
noncomputable def c101_23 : Code := kR c101_6
noncomputable def c101_24 : Code := kL c101_23
noncomputable def r101_8 : Array Oper := kO c101_24
noncomputable def o101_8_0 : Oper := opN r101_8 0
noncomputable def o101_8_1 : Oper := opN r101_8 1
theorem x101_24 : execA E C (fg 101) B 44 E0 N c101_24 s = regX (runA E C B 44 r101_8 r101_8.toList s) (fun s => gcM E0 [7, 43] (forget s.1 [7, 43], s.2)) := x_reg (ops := r101_8) (by rfl) (by rfl) s
theorem r101_8_l : r101_8.toList = [o101_8_0, o101_8_1] := nrfl rfl
theorem s101_8_0 : stepA E C B 44 r101_8 o101_8_0 (φ, H) = some (fput φ 43 (fget φ 7), H) := nrfl rfl
theorem s101_8_1 : stepA E C B 44 r101_8 o101_8_1 (φ, H) = some (fput φ 4 (fget φ 43), H) := nrfl rfl
noncomputable def c101_25 : Code := kR c101_23
theorem x101_25 : execA E C (fg 101) B 44 E0 N c101_25 s = some (.ret, s) := x_ret (by rfl) s
theorem x101_23 : execA E C (fg 101) B 44 E0 N c101_23 s = seqX (execA E C (fg 101) B 44 E0 N c101_24 s) (execA E C (fg 101) B 44 E0 N c101_25) := x_seq (by rfl) s
theorem x101_6 : execA E C (fg 101) B 44 E0 N c101_6 s = seqX (execA E C (fg 101) B 44 E0 N c101_7 s) (execA E C (fg 101) B 44 E0 N c101_23) := x_seq (by rfl) s
theorem x101_4 : execA E C (fg 101) B 44 E0 N c101_4 s = seqX (execA E C (fg 101) B 44 E0 N c101_5 s) (execA E C (fg 101) B 44 E0 N c101_6) := x_seq (by rfl) s
theorem x101_2 : execA E C (fg 101) B 44 E0 N c101_2 s = seqX (execA E C (fg 101) B 44 E0 N c101_3 s) (execA E C (fg 101) B 44 E0 N c101_4) := x_seq (by rfl) s
theorem x101_0 : execA E C (fg 101) B 44 E0 N c101_0 s = seqX (execA E C (fg 101) B 44 E0 N c101_1 s) (execA E C (fg 101) B 44 E0 N c101_2) := x_seq (by rfl) s
theorem fi_101 : fInfo E 101 = some ⟨44, #[.tmp 4], c101_0⟩ := nrfl rfl
theorem b_101 (args : List AV) : bodyA E C fg N 101 args H B = bodyX E [.tmp 4] (execA E C (fg 101) B 44 H N c101_0 (frame0 args 0 [], H)) := bodyA_eq fi_101 args H
abbrev F_101 := And.intro (And.intro (And.intro (And.intro (And.intro (And.intro @x101_1 @r101_0_l) (And.intro @s101_0_0 (And.intro @x101_3 @r101_1_l))) (And.intro (And.intro @s101_1_0 @s101_1_1) (And.intro @s101_1_2 (And.intro @s101_1_3 @s101_1_4)))) (And.intro (And.intro (And.intro @s101_1_5 @x101_5) (And.intro @r101_2_l (And.intro @s101_2_0 @x101_8))) (And.intro (And.intro @r101_3_l @s101_3_0) (And.intro @s101_3_1 (And.intro @s101_3_2 @x101_12))))) (And.intro (And.intro (And.intro (And.intro @r101_4_l @s101_4_0) (And.intro @x101_15 (And.intro @x101_16 @x101_14))) (And.intro (And.intro @x101_20 @r101_5_l) (And.intro @s101_5_0 (And.intro @s101_5_1 @x101_21)))) (And.intro (And.intro (And.intro @r101_6_l @r101_6_dr) (And.intro @r101_6_an (And.intro @s101_6_0 @s101_6_1))) (And.intro (And.intro @s101_6_2 @s101_6_3) (And.intro @s101_6_4 (And.intro @s101_6_5 @s101_6_6)))))) (And.intro (And.intro (And.intro (And.intro (And.intro @s101_6_7 @s101_6_8) (And.intro @s101_6_9 (And.intro @s101_6_10 @s101_6_11))) (And.intro (And.intro @s101_6_12 @s101_6_13) (And.intro @s101_6_14 (And.intro @s101_6_15 @s101_6_16)))) (And.intro (And.intro (And.intro @s101_6_17 @s101_6_18) (And.intro @s101_6_19 (And.intro @s101_6_20 @s101_6_21))) (And.intro (And.intro @s101_6_22 @s101_6_23) (And.intro @s101_6_24 (And.intro @x101_19 @x101_18))))) (And.intro (And.intro (And.intro (And.intro @x101_22 @r101_7_l) (And.intro @s101_7_0 (And.intro @s101_7_1 @x101_17))) (And.intro (And.intro @x101_13 @x101_11) (And.intro @x101_10 (And.intro @x101_9 @x101_7)))) (And.intro (And.intro (And.intro @x101_24 @r101_8_l) (And.intro @s101_8_0 (And.intro @s101_8_1 @x101_25))) (And.intro (And.intro @x101_23 (And.intro @x101_6 @x101_4)) (And.intro @x101_2 (And.intro @x101_0 @b_101))))))
noncomputable def c46_0 : Code := kBody Proofs.Try.f46
noncomputable def c46_1 : Code := kL c46_0
noncomputable def r46_0 : Array Oper := kO c46_1
noncomputable def o46_0_0 : Oper := opN r46_0 0
noncomputable def o46_0_1 : Oper := opN r46_0 1
theorem x46_1 : execA E C (fg 46) B 22 E0 N c46_1 s = regX (runA E C B 22 r46_0 r46_0.toList s) (fun s => gcM E0 [4, 5] (forget s.1 [4, 5], s.2)) := x_reg (ops := r46_0) (by rfl) (by rfl) s
theorem r46_0_l : r46_0.toList = [o46_0_0, o46_0_1] := nrfl rfl
theorem s46_0_0 : stepA E C B 22 r46_0 o46_0_0 (φ, H) = some (fput φ 4 (.nilsl), H) := nrfl rfl
theorem s46_0_1 : stepA E C B 22 r46_0 o46_0_1 (φ, H) = some (fput φ 5 (.int .i64 0), H) := nrfl rfl
noncomputable def c46_2 : Code := kR c46_0
noncomputable def c46_3 : Code := kL c46_2
noncomputable def c46_4 : Code := kL c46_3
noncomputable def r46_1 : Array Oper := kO c46_4
noncomputable def o46_1_0 : Oper := opN r46_1 0
noncomputable def o46_1_1 : Oper := opN r46_1 1
noncomputable def o46_1_2 : Oper := opN r46_1 2
noncomputable def o46_1_3 : Oper := opN r46_1 3
noncomputable def o46_1_4 : Oper := opN r46_1 4
noncomputable def o46_1_5 : Oper := opN r46_1 5
noncomputable def o46_1_6 : Oper := opN r46_1 6
noncomputable def o46_1_7 : Oper := opN r46_1 7
noncomputable def o46_1_8 : Oper := opN r46_1 8
noncomputable def o46_1_9 : Oper := opN r46_1 9
theorem x46_4 : execA E C (fg 46) B 22 E0 N c46_4 s = regX (runA E C B 22 r46_1 r46_1.toList s) (fun s => gcM E0 [6, 7, 9, 10, 11, 12, 13, 14, 15] (forget s.1 [6, 7, 9, 10, 11, 12, 13, 14, 15], s.2)) := x_reg (ops := r46_1) (by rfl) (by rfl) s
theorem r46_1_l : r46_1.toList = [o46_1_0, o46_1_1, o46_1_2, o46_1_3, o46_1_4, o46_1_5, o46_1_6, o46_1_7, o46_1_8, o46_1_9] := nrfl rfl
theorem s46_1_0 : stepA E C B 22 r46_1 o46_1_0 (φ, H) = some (fput φ 10 (fget φ 0), H) := nrfl rfl
theorem s46_1_1 : stepA E C B 22 r46_1 o46_1_1 (φ, H) = some (fput φ 11 (fget φ 1), H) := nrfl rfl
theorem s46_1_2 : stepA E C B 22 r46_1 o46_1_2 (φ, H) = stp (some 12) φ H (aCall C (fun j => B + j * 22 + 12) true 85 [(fget φ 10), (fget φ 11)]) := nrfl rfl
theorem s46_1_3 : stepA E C B 22 r46_1 o46_1_3 (φ, H) = some (fput φ 9 (fget φ 12), H) := nrfl rfl
theorem s46_1_4 : stepA E C B 22 r46_1 o46_1_4 (φ, H) = stp (some 13) φ H (opExtract (fget φ 9) 0) := nrfl rfl
theorem s46_1_5 : stepA E C B 22 r46_1 o46_1_5 (φ, H) = stp (some 14) φ H (opExtract (fget φ 9) 1) := nrfl rfl
theorem s46_1_6 : stepA E C B 22 r46_1 o46_1_6 (φ, H) = stp (some 15) φ H (opExtract (fget φ 9) 2) := nrfl rfl
theorem s46_1_7 : stepA E C B 22 r46_1 o46_1_7 (φ, H) = some (fput φ 6 (fget φ 13), H) := nrfl rfl
theorem s46_1_8 : stepA E C B 22 r46_1 o46_1_8 (φ, H) = some (fput φ 7 (fget φ 14), H) := nrfl rfl
theorem s46_1_9 : stepA E C B 22 r46_1 o46_1_9 (φ, H) = some (fput φ 8 (fget φ 15), H) := nrfl rfl
noncomputable def c46_5 : Code := kR c46_3
noncomputable def c46_6 : Code := kL c46_5
noncomputable def r46_2 : Array Oper := kO c46_6
noncomputable def o46_2_0 : Oper := opN r46_2 0
noncomputable def o46_2_1 : Oper := opN r46_2 1
theorem x46_6 : execA E C (fg 46) B 22 E0 N c46_6 s = regX (runA E C B 22 r46_2 r46_2.toList s) (fun s => gcM E0 [16] (forget s.1 [16], s.2)) := x_reg (ops := r46_2) (by rfl) (by rfl) s
theorem r46_2_l : r46_2.toList = [o46_2_0, o46_2_1] := nrfl rfl
theorem s46_2_0 : stepA E C B 22 r46_2 o46_2_0 (φ, H) = some (fput φ 16 (fget φ 8), H) := nrfl rfl
theorem s46_2_1 : stepA E C B 22 r46_2 o46_2_1 (φ, H) = stp (some 17) φ H (just (aBin E.T .neq 24 (fget φ 16) (.int .i64 0))) := nrfl rfl
noncomputable def c46_7 : Code := kR c46_5
noncomputable def c46_8 : Code := kT c46_7
noncomputable def c46_9 : Code := kL c46_8
noncomputable def r46_3 : Array Oper := kO c46_9
noncomputable def o46_3_0 : Oper := opN r46_3 0
noncomputable def o46_3_1 : Oper := opN r46_3 1
noncomputable def o46_3_2 : Oper := opN r46_3 2
theorem x46_9 : execA E C (fg 46) B 22 E0 N c46_9 s = regX (runA E C B 22 r46_3 r46_3.toList s) (fun s => gcM E0 [0, 1, 8, 17, 18] (forget s.1 [0, 1, 8, 17, 18], s.2)) := x_reg (ops := r46_3) (by rfl) (by rfl) s
theorem r46_3_l : r46_3.toList = [o46_3_0, o46_3_1, o46_3_2] := nrfl rfl
theorem s46_3_0 : stepA E C B 22 r46_3 o46_3_0 (φ, H) = some (fput φ 18 (fget φ 8), H) := nrfl rfl
theorem s46_3_1 : stepA E C B 22 r46_3 o46_3_1 (φ, H) = some (fput φ 4 (.nilsl), H) := nrfl rfl
theorem s46_3_2 : stepA E C B 22 r46_3 o46_3_2 (φ, H) = some (fput φ 5 (fget φ 18), H) := nrfl rfl
noncomputable def c46_10 : Code := kR c46_8
theorem x46_10 : execA E C (fg 46) B 22 E0 N c46_10 s = some (.ret, s) := x_ret (by rfl) s
theorem x46_8 : execA E C (fg 46) B 22 E0 N c46_8 s = seqX (execA E C (fg 46) B 22 E0 N c46_9 s) (execA E C (fg 46) B 22 E0 N c46_10) := x_seq (by rfl) s
noncomputable def c46_11 : Code := kE c46_7
theorem x46_11 : execA E C (fg 46) B 22 E0 N c46_11 s = some (.normal, s) := x_skip (by rfl) s
theorem x46_7 : execA E C (fg 46) B 22 E0 N c46_7 (φ, H) = condX (fget φ 17) (execA E C (fg 46) B 22 E0 N c46_8 (φ, H)) (execA E C (fg 46) B 22 E0 N c46_11 (φ, H)) := x_cond (by rfl) _
theorem x46_5 : execA E C (fg 46) B 22 E0 N c46_5 s = seqX (execA E C (fg 46) B 22 E0 N c46_6 s) (execA E C (fg 46) B 22 E0 N c46_7) := x_seq (by rfl) s
theorem x46_3 : execA E C (fg 46) B 22 E0 N c46_3 s = seqX (execA E C (fg 46) B 22 E0 N c46_4 s) (execA E C (fg 46) B 22 E0 N c46_5) := x_seq (by rfl) s
noncomputable def c46_12 : Code := kR c46_2
noncomputable def c46_13 : Code := kL c46_12
noncomputable def r46_4 : Array Oper := kO c46_13
noncomputable def o46_4_0 : Oper := opN r46_4 0
noncomputable def o46_4_1 : Oper := opN r46_4 1
noncomputable def o46_4_2 : Oper := opN r46_4 2
noncomputable def o46_4_3 : Oper := opN r46_4 3
noncomputable def o46_4_4 : Oper := opN r46_4 4
theorem x46_13 : execA E C (fg 46) B 22 E0 N c46_13 s = regX (runA E C B 22 r46_4 r46_4.toList s) (fun s => gcM E0 [0, 1, 8, 17, 19, 20, 21] (forget s.1 [0, 1, 8, 17, 19, 20, 21], s.2)) := x_reg (ops := r46_4) (by rfl) (by rfl) s
theorem r46_4_l : r46_4.toList = [o46_4_0, o46_4_1, o46_4_2, o46_4_3, o46_4_4] := nrfl rfl
theorem s46_4_0 : stepA E C B 22 r46_4 o46_4_0 (φ, H) = some (fput φ 19 (fget φ 0), H) := nrfl rfl
theorem s46_4_1 : stepA E C B 22 r46_4 o46_4_1 (φ, H) = some (fput φ 20 (fget φ 1), H) := nrfl rfl
theorem s46_4_2 : stepA E C B 22 r46_4 o46_4_2 (φ, H) = stp (some 21) φ H (aCall C (fun j => B + j * 22 + 21) true 101 [(fget φ 19), (fget φ 20)]) := nrfl rfl
theorem s46_4_3 : stepA E C B 22 r46_4 o46_4_3 (φ, H) = some (fput φ 4 (fget φ 21), H) := nrfl rfl
theorem s46_4_4 : stepA E C B 22 r46_4 o46_4_4 (φ, H) = some (fput φ 5 (.int .i64 0), H) := nrfl rfl
noncomputable def c46_14 : Code := kR c46_12
theorem x46_14 : execA E C (fg 46) B 22 E0 N c46_14 s = some (.ret, s) := x_ret (by rfl) s
theorem x46_12 : execA E C (fg 46) B 22 E0 N c46_12 s = seqX (execA E C (fg 46) B 22 E0 N c46_13 s) (execA E C (fg 46) B 22 E0 N c46_14) := x_seq (by rfl) s
theorem x46_2 : execA E C (fg 46) B 22 E0 N c46_2 s = seqX (execA E C (fg 46) B 22 E0 N c46_3 s) (execA E C (fg 46) B 22 E0 N c46_12) := x_seq (by rfl) s
theorem x46_0 : execA E C (fg 46) B 22 E0 N c46_0 s = seqX (execA E C (fg 46) B 22 E0 N c46_1 s) (execA E C (fg 46) B 22 E0 N c46_2) := x_seq (by rfl) s
theorem fi_46 : fInfo E 46 = some ⟨22, #[.tmp 4, .tmp 5], c46_0⟩ := nrfl rfl
theorem b_46 (args : List AV) : bodyA E C fg N 46 args H B = bodyX E [.tmp 4, .tmp 5] (execA E C (fg 46) B 22 H N c46_0 (frame0 args 0 [], H)) := bodyA_eq fi_46 args H
abbrev F_46 := And.intro (And.intro (And.intro (And.intro (And.intro @x46_1 @r46_0_l) (And.intro @s46_0_0 (And.intro @s46_0_1 @x46_4))) (And.intro (And.intro @r46_1_l @s46_1_0) (And.intro @s46_1_1 (And.intro @s46_1_2 @s46_1_3)))) (And.intro (And.intro (And.intro @s46_1_4 @s46_1_5) (And.intro @s46_1_6 (And.intro @s46_1_7 @s46_1_8))) (And.intro (And.intro @s46_1_9 (And.intro @x46_6 @r46_2_l)) (And.intro @s46_2_0 (And.intro @s46_2_1 @x46_9))))) (And.intro (And.intro (And.intro (And.intro @r46_3_l @s46_3_0) (And.intro @s46_3_1 (And.intro @s46_3_2 @x46_10))) (And.intro (And.intro @x46_8 (And.intro @x46_11 @x46_7)) (And.intro @x46_5 (And.intro @x46_3 @x46_13)))) (And.intro (And.intro (And.intro @r46_4_l @s46_4_0) (And.intro @s46_4_1 (And.intro @s46_4_2 @s46_4_3))) (And.intro (And.intro @s46_4_4 (And.intro @x46_14 @x46_12)) (And.intro @x46_2 (And.intro @x46_0 @b_46)))))
noncomputable def c48_0 : Code := kBody Proofs.Try.f48
noncomputable def c48_1 : Code := kL c48_0
noncomputable def r48_0 : Array Oper := kO c48_1
noncomputable def o48_0_0 : Oper := opN r48_0 0
noncomputable def o48_0_1 : Oper := opN r48_0 1
theorem x48_1 : execA E C (fg 48) B 27 E0 N c48_1 s = regX (runA E C B 27 r48_0 r48_0.toList s) (fun s => gcM E0 [4, 5] (forget s.1 [4, 5], s.2)) := x_reg (ops := r48_0) (by rfl) (by rfl) s
theorem r48_0_l : r48_0.toList = [o48_0_0, o48_0_1] := nrfl rfl
theorem s48_0_0 : stepA E C B 27 r48_0 o48_0_0 (φ, H) = some (fput φ 4 (.nilsl), H) := nrfl rfl
theorem s48_0_1 : stepA E C B 27 r48_0 o48_0_1 (φ, H) = some (fput φ 5 (.int .i64 0), H) := nrfl rfl
noncomputable def c48_2 : Code := kR c48_0
noncomputable def c48_3 : Code := kL c48_2
noncomputable def c48_4 : Code := kL c48_3
noncomputable def r48_1 : Array Oper := kO c48_4
noncomputable def o48_1_0 : Oper := opN r48_1 0
noncomputable def o48_1_1 : Oper := opN r48_1 1
noncomputable def o48_1_2 : Oper := opN r48_1 2
noncomputable def o48_1_3 : Oper := opN r48_1 3
noncomputable def o48_1_4 : Oper := opN r48_1 4
noncomputable def o48_1_5 : Oper := opN r48_1 5
noncomputable def o48_1_6 : Oper := opN r48_1 6
noncomputable def o48_1_7 : Oper := opN r48_1 7
noncomputable def o48_1_8 : Oper := opN r48_1 8
noncomputable def o48_1_9 : Oper := opN r48_1 9
theorem x48_4 : execA E C (fg 48) B 27 E0 N c48_4 s = regX (runA E C B 27 r48_1 r48_1.toList s) (fun s => gcM E0 [6, 7, 9, 10, 11, 12, 13, 14, 15] (forget s.1 [6, 7, 9, 10, 11, 12, 13, 14, 15], s.2)) := x_reg (ops := r48_1) (by rfl) (by rfl) s
theorem r48_1_l : r48_1.toList = [o48_1_0, o48_1_1, o48_1_2, o48_1_3, o48_1_4, o48_1_5, o48_1_6, o48_1_7, o48_1_8, o48_1_9] := nrfl rfl
theorem s48_1_0 : stepA E C B 27 r48_1 o48_1_0 (φ, H) = some (fput φ 10 (fget φ 0), H) := nrfl rfl
theorem s48_1_1 : stepA E C B 27 r48_1 o48_1_1 (φ, H) = some (fput φ 11 (fget φ 1), H) := nrfl rfl
theorem s48_1_2 : stepA E C B 27 r48_1 o48_1_2 (φ, H) = stp (some 12) φ H (aCall C (fun j => B + j * 27 + 12) true 85 [(fget φ 10), (fget φ 11)]) := nrfl rfl
theorem s48_1_3 : stepA E C B 27 r48_1 o48_1_3 (φ, H) = some (fput φ 9 (fget φ 12), H) := nrfl rfl
theorem s48_1_4 : stepA E C B 27 r48_1 o48_1_4 (φ, H) = stp (some 13) φ H (opExtract (fget φ 9) 0) := nrfl rfl
theorem s48_1_5 : stepA E C B 27 r48_1 o48_1_5 (φ, H) = stp (some 14) φ H (opExtract (fget φ 9) 1) := nrfl rfl
theorem s48_1_6 : stepA E C B 27 r48_1 o48_1_6 (φ, H) = stp (some 15) φ H (opExtract (fget φ 9) 2) := nrfl rfl
theorem s48_1_7 : stepA E C B 27 r48_1 o48_1_7 (φ, H) = some (fput φ 6 (fget φ 13), H) := nrfl rfl
theorem s48_1_8 : stepA E C B 27 r48_1 o48_1_8 (φ, H) = some (fput φ 7 (fget φ 14), H) := nrfl rfl
theorem s48_1_9 : stepA E C B 27 r48_1 o48_1_9 (φ, H) = some (fput φ 8 (fget φ 15), H) := nrfl rfl
noncomputable def c48_5 : Code := kR c48_3
noncomputable def c48_6 : Code := kL c48_5
noncomputable def r48_2 : Array Oper := kO c48_6
noncomputable def o48_2_0 : Oper := opN r48_2 0
noncomputable def o48_2_1 : Oper := opN r48_2 1
theorem x48_6 : execA E C (fg 48) B 27 E0 N c48_6 s = regX (runA E C B 27 r48_2 r48_2.toList s) (fun s => gcM E0 [16] (forget s.1 [16], s.2)) := x_reg (ops := r48_2) (by rfl) (by rfl) s
theorem r48_2_l : r48_2.toList = [o48_2_0, o48_2_1] := nrfl rfl
theorem s48_2_0 : stepA E C B 27 r48_2 o48_2_0 (φ, H) = some (fput φ 16 (fget φ 8), H) := nrfl rfl
theorem s48_2_1 : stepA E C B 27 r48_2 o48_2_1 (φ, H) = stp (some 17) φ H (just (aBin E.T .neq 24 (fget φ 16) (.int .i64 0))) := nrfl rfl
noncomputable def c48_7 : Code := kR c48_5
noncomputable def c48_8 : Code := kT c48_7
noncomputable def c48_9 : Code := kL c48_8
noncomputable def r48_3 : Array Oper := kO c48_9
noncomputable def o48_3_0 : Oper := opN r48_3 0
noncomputable def o48_3_1 : Oper := opN r48_3 1
noncomputable def o48_3_2 : Oper := opN r48_3 2
theorem x48_9 : execA E C (fg 48) B 27 E0 N c48_9 s = regX (runA E C B 27 r48_3 r48_3.toList s) (fun s => gcM E0 [0, 1, 8, 17, 18] (forget s.1 [0, 1, 8, 17, 18], s.2)) := x_reg (ops := r48_3) (by rfl) (by rfl) s
theorem r48_3_l : r48_3.toList = [o48_3_0, o48_3_1, o48_3_2] := nrfl rfl
theorem s48_3_0 : stepA E C B 27 r48_3 o48_3_0 (φ, H) = some (fput φ 18 (fget φ 8), H) := nrfl rfl
theorem s48_3_1 : stepA E C B 27 r48_3 o48_3_1 (φ, H) = some (fput φ 4 (.nilsl), H) := nrfl rfl
theorem s48_3_2 : stepA E C B 27 r48_3 o48_3_2 (φ, H) = some (fput φ 5 (fget φ 18), H) := nrfl rfl
noncomputable def c48_10 : Code := kR c48_8
theorem x48_10 : execA E C (fg 48) B 27 E0 N c48_10 s = some (.ret, s) := x_ret (by rfl) s
theorem x48_8 : execA E C (fg 48) B 27 E0 N c48_8 s = seqX (execA E C (fg 48) B 27 E0 N c48_9 s) (execA E C (fg 48) B 27 E0 N c48_10) := x_seq (by rfl) s
noncomputable def c48_11 : Code := kE c48_7
theorem x48_11 : execA E C (fg 48) B 27 E0 N c48_11 s = some (.normal, s) := x_skip (by rfl) s
theorem x48_7 : execA E C (fg 48) B 27 E0 N c48_7 (φ, H) = condX (fget φ 17) (execA E C (fg 48) B 27 E0 N c48_8 (φ, H)) (execA E C (fg 48) B 27 E0 N c48_11 (φ, H)) := x_cond (by rfl) _
theorem x48_5 : execA E C (fg 48) B 27 E0 N c48_5 s = seqX (execA E C (fg 48) B 27 E0 N c48_6 s) (execA E C (fg 48) B 27 E0 N c48_7) := x_seq (by rfl) s
theorem x48_3 : execA E C (fg 48) B 27 E0 N c48_3 s = seqX (execA E C (fg 48) B 27 E0 N c48_4 s) (execA E C (fg 48) B 27 E0 N c48_5) := x_seq (by rfl) s
noncomputable def c48_12 : Code := kR c48_2
noncomputable def c48_13 : Code := kL c48_12
noncomputable def r48_4 : Array Oper := kO c48_13
noncomputable def o48_4_0 : Oper := opN r48_4 0
noncomputable def o48_4_1 : Oper := opN r48_4 1
noncomputable def o48_4_2 : Oper := opN r48_4 2
noncomputable def o48_4_3 : Oper := opN r48_4 3
noncomputable def o48_4_4 : Oper := opN r48_4 4
noncomputable def o48_4_5 : Oper := opN r48_4 5
noncomputable def o48_4_6 : Oper := opN r48_4 6
noncomputable def o48_4_7 : Oper := opN r48_4 7
noncomputable def o48_4_8 : Oper := opN r48_4 8
noncomputable def o48_4_9 : Oper := opN r48_4 9
theorem x48_13 : execA E C (fg 48) B 27 E0 N c48_13 s = regX (runA E C B 27 r48_4 r48_4.toList s) (fun s => gcM E0 [0, 1, 8, 17, 19, 20, 21, 22, 23, 24, 25, 26] (forget s.1 [0, 1, 8, 17, 19, 20, 21, 22, 23, 24, 25, 26], s.2)) := x_reg (ops := r48_4) (by rfl) (by rfl) s
theorem r48_4_l : r48_4.toList = [o48_4_0, o48_4_1, o48_4_2, o48_4_3, o48_4_4, o48_4_5, o48_4_6, o48_4_7, o48_4_8, o48_4_9] := nrfl rfl
theorem s48_4_0 : stepA E C B 27 r48_4 o48_4_0 (φ, H) = some (fput φ 19 (fget φ 0), H) := nrfl rfl
theorem s48_4_1 : stepA E C B 27 r48_4 o48_4_1 (φ, H) = stp (some 20) φ H (aCall C (fun j => B + j * 27 + 20) true 103 [(fget φ 19), (.int .i64 8)]) := nrfl rfl
theorem s48_4_2 : stepA E C B 27 r48_4 o48_4_2 (φ, H) = some (fput φ 21 (fget φ 1), H) := nrfl rfl
theorem s48_4_3 : stepA E C B 27 r48_4 o48_4_3 (φ, H) = stp (some 22) φ H (aCall C (fun j => B + j * 27 + 22) true 103 [(fget φ 21), (.int .i64 8)]) := nrfl rfl
theorem s48_4_4 : stepA E C B 27 r48_4 o48_4_4 (φ, H) = stp (some 23) φ H (aCall C (fun j => B + j * 27 + 23) true 101 [(fget φ 20), (fget φ 22)]) := nrfl rfl
theorem s48_4_5 : stepA E C B 27 r48_4 o48_4_5 (φ, H) = some (fput φ 24 (fget φ 0), H) := nrfl rfl
theorem s48_4_6 : stepA E C B 27 r48_4 o48_4_6 (φ, H) = stp (some 25) φ H (aBuiltin E.T (B + 25) .len #[22] [(fget φ 24)]) := nrfl rfl
theorem s48_4_7 : stepA E C B 27 r48_4 o48_4_7 (φ, H) = stp (some 26) φ H (aCall C (fun j => B + j * 27 + 26) true 103 [(fget φ 23), (fget φ 25)]) := nrfl rfl
theorem s48_4_8 : stepA E C B 27 r48_4 o48_4_8 (φ, H) = some (fput φ 4 (fget φ 26), H) := nrfl rfl
theorem s48_4_9 : stepA E C B 27 r48_4 o48_4_9 (φ, H) = some (fput φ 5 (.int .i64 0), H) := nrfl rfl
noncomputable def c48_14 : Code := kR c48_12
theorem x48_14 : execA E C (fg 48) B 27 E0 N c48_14 s = some (.ret, s) := x_ret (by rfl) s
theorem x48_12 : execA E C (fg 48) B 27 E0 N c48_12 s = seqX (execA E C (fg 48) B 27 E0 N c48_13 s) (execA E C (fg 48) B 27 E0 N c48_14) := x_seq (by rfl) s
theorem x48_2 : execA E C (fg 48) B 27 E0 N c48_2 s = seqX (execA E C (fg 48) B 27 E0 N c48_3 s) (execA E C (fg 48) B 27 E0 N c48_12) := x_seq (by rfl) s
theorem x48_0 : execA E C (fg 48) B 27 E0 N c48_0 s = seqX (execA E C (fg 48) B 27 E0 N c48_1 s) (execA E C (fg 48) B 27 E0 N c48_2) := x_seq (by rfl) s
theorem fi_48 : fInfo E 48 = some ⟨27, #[.tmp 4, .tmp 5], c48_0⟩ := nrfl rfl
theorem b_48 (args : List AV) : bodyA E C fg N 48 args H B = bodyX E [.tmp 4, .tmp 5] (execA E C (fg 48) B 27 H N c48_0 (frame0 args 0 [], H)) := bodyA_eq fi_48 args H
abbrev F_48 := And.intro (And.intro (And.intro (And.intro (And.intro @x48_1 (And.intro @r48_0_l @s48_0_0)) (And.intro @s48_0_1 (And.intro @x48_4 @r48_1_l))) (And.intro (And.intro @s48_1_0 (And.intro @s48_1_1 @s48_1_2)) (And.intro @s48_1_3 (And.intro @s48_1_4 @s48_1_5)))) (And.intro (And.intro (And.intro @s48_1_6 (And.intro @s48_1_7 @s48_1_8)) (And.intro @s48_1_9 (And.intro @x48_6 @r48_2_l))) (And.intro (And.intro @s48_2_0 (And.intro @s48_2_1 @x48_9)) (And.intro @r48_3_l (And.intro @s48_3_0 @s48_3_1))))) (And.intro (And.intro (And.intro (And.intro @s48_3_2 (And.intro @x48_10 @x48_8)) (And.intro @x48_11 (And.intro @x48_7 @x48_5))) (And.intro (And.intro @x48_3 (And.intro @x48_13 @r48_4_l)) (And.intro @s48_4_0 (And.intro @s48_4_1 @s48_4_2)))) (And.intro (And.intro (And.intro @s48_4_3 (And.intro @s48_4_4 @s48_4_5)) (And.intro @s48_4_6 (And.intro @s48_4_7 @s48_4_8))) (And.intro (And.intro @s48_4_9 (And.intro @x48_14 @x48_12)) (And.intro @x48_2 (And.intro @x48_0 @b_48)))))
end Go.AM.Ytfmnoohhhokicaa
end

section
namespace Go.AM.Ytfmnoohhhokicaa
open Go Go.AM Go.AM.Rub
set_option maxRecDepth 100000
set_option maxHeartbeats 4000000
theorem aBack_ref2int {C : Callee} {site : Nat → Nat} {seen : List Nat} {f : FuncId} {args : List AV} {id id' n n' g g' sz sz' : Nat} {cells cells' : List AV} {k : IntKind} {z : Int} {H' : AHeap} (h : C f args [] 0 = some (.tup [.ref id 0 n n g sz false, .ref id' 0 n' n' g' sz' false, .int k z], H')) (hg : hget H' id = some ⟨.row, cells⟩) (hg' : hget H' id' = some ⟨.row, cells'⟩) (hne : id' ≠ id) (hs : site 1 ≠ site 0) (e1 : cells.length = g) (e2 : cells'.length = g') :
    aBack site true seen (thaw C f args [] 0) = back2 (site 0) (site 1) seen (fun k0 k1 => .tup [.ref k0 0 n n g sz false, .ref k1 0 n' n' g' sz' false, .int k z]) ⟨.row, cells⟩ ⟨.row, cells'⟩ := by
  subst e1; subst e2
  have hb : ∀ off, (site 1 + off == site 0 + off) = false := fun off => by rw [beq_eq_false_iff_ne]; omega
  simp only [thaw, h, frzRet, aBack, sitesB, aBackAt, imp, imps, hg, hg', hne, hb, List.length_nil, List.length_cons, List.not_mem_nil, List.mem_cons, or_false, not_false_eq_true, and_true, if_true, List.map_cons, List.map_nil, AM.apart, List.elem_cons, List.elem_nil, Bool.not_false, Bool.and_true, AV.leads, AV.leads.leadsL, Bool.or_false, Bool.true_or, Nat.zero_add, back2]
def pairE (a b : List Int) : Int := if chkR a ≠ 0 then chkR a else if chkR b ≠ 0 then chkR b else if a.length ≠ b.length then 5 else if ps (rowF a) a.length ≠ ps (rowF b) b.length then 17 else 0
theorem pairE_zero {a b : List Int} : pairE a b = 0 ↔ ∃ n, 0 < n ∧ n ≤ 6 ∧ Rw n a ∧ Rw n b ∧ ps (rowF a) n = ps (rowF b) n := by
  unfold pairE
  by_cases ha : chkR a = 0
  · rw [if_neg (fun e => e ha)]
    by_cases hb : chkR b = 0
    · rw [if_neg (fun e => e hb)]
      obtain ⟨a1, a2, a3⟩ := chkR_zero.1 ha
      obtain ⟨b1, b2, b3⟩ := chkR_zero.1 hb
      by_cases hl : a.length = b.length
      · rw [if_neg (fun e => e hl)]
        by_cases hs : ps (rowF a) a.length = ps (rowF b) b.length
        · rw [if_neg (fun e => e hs)]
          rw [← hl] at hs b3
          exact ⟨fun _ => ⟨a.length, a1, a2, a3, b3, hs⟩, fun _ => rfl⟩
        · rw [if_pos hs]
          refine ⟨fun e => absurd e (by decide), fun ⟨n, _, _, r1, r2, r3⟩ => ?_⟩
          rw [r1.len, r2.len] at hs; exact absurd r3 hs
      · rw [if_pos hl]
        refine ⟨fun e => absurd e (by decide), fun ⟨n, _, _, r1, r2, r3⟩ => ?_⟩
        rw [r1.len, r2.len] at hl; exact absurd rfl hl
    · rw [if_pos hb]
      refine ⟨fun e => absurd e hb, fun ⟨n, h0, h6, r1, r2, r3⟩ => absurd (chkR_zero.2 ⟨by rw [r2.len]; exact h0, by rw [r2.len]; exact h6, by rw [r2.len]; exact r2⟩) hb⟩
  · rw [if_pos ha]
    refine ⟨fun e => absurd e ha, fun ⟨n, h0, h6, r1, r2, r3⟩ => absurd (chkR_zero.2 ⟨by rw [r1.len]; exact h0, by rw [r1.len]; exact h6, by rw [r1.len]; exact r1⟩) ha⟩
theorem pair_run {d : Nat} {l m : List Int} {a b : AV} (ha : IV l a) (hb : IV m b) (hl : l.length ≤ 1000) (hm : m.length ≤ 1000) :
    (pairE l m ≠ 0 ∧ ∃ H, bodyA E (kF (d + 1)) fg 1000000 85 [a, b] [] 0 = some (.tup [.nilsl, .nilsl, .int .i64 (pairE l m)], H)) ∨
    (pairE l m = 0 ∧ ∃ H, bodyA E (kF (d + 1)) fg 1000000 85 [a, b] [] 0 = some (.tup [.ref 20 0 (l.length + 1) (l.length + 1) (l.length + 1) 1 false, .ref 22 0 (m.length + 1) (m.length + 1) (m.length + 1) 1 false, .int .i64 0], H) ∧ hget H 20 = some ⟨.row, ics (riL l)⟩ ∧ hget H 22 = some ⟨.row, ics (riL m)⟩) := by
  have hc1 := fun (site : Nat → Nat) seen => check_call (d := d) (site := site) (seen := seen) ha hl
  have hc2 := fun (site : Nat → Nat) seen => check_call (d := d) (site := site) (seen := seen) hb hm
  have sa := iv_snap ha
  have sb := iv_snap hb
  unfold pairE
  by_cases h1 : chkR l = 0
  · rw [if_neg (fun e => e h1)]
    rw [h1] at hc1
    obtain ⟨a1, a2, a3⟩ := chkR_zero.1 h1
    by_cases h2 : chkR m = 0
    · rw [if_neg (fun e => e h2)]
      rw [h2] at hc2
      obtain ⟨b1, b2, b3⟩ := chkR_zero.1 h2
      have r1 := fun (site : Nat → Nat) seen => rises_call (d := d) (site := site) (seen := seen) ha a3 (by omega)
      have r2 := fun (site : Nat → Nat) seen => rises_call (d := d) (site := site) (seen := seen) hb b3 (by omega)
      obtain ⟨ea, rfl⟩ := iv_ne ha a1
      obtain ⟨eb, rfl⟩ := iv_ne hb b1
      have l1 := ics_length l
      have l2 := ics_length m
      have l3 := ri_len l
      have l4 := ri_len m
      generalize kF (d + 1) = C at *
      by_cases h3 : l.length = m.length
      · rw [if_neg (fun e => e h3)]
        have g1 : ¬ (l.length : Int) ≠ m.length := by omega
        have g2 : ((l.length : Int) != m.length) = false := by rw [bne_eq_false_iff_eq]; omega
        have g3 : (l.length : Int) = m.length := by omega
        have g4 : (l.length : Int) < ((l.length + 1 : Nat) : Int) := by omega
        have g5 : (m.length : Int) < ((m.length + 1 : Nat) : Int) := by omega
        have t1 : (ics (riL l))[l.length]? = some (.int .i64 (ps (rowF l) l.length)) := ics_at (riP_at (Nat.le_refl _))
        have t2 : (ics (riL m))[m.length]? = some (.int .i64 (ps (rowF m) m.length)) := ics_at (riP_at (Nat.le_refl _))
        by_cases h4 : ps (rowF l) l.length = ps (rowF m) m.length
        · rw [if_neg (fun e => e h4)]
          refine .inr ⟨rfl, ?_⟩
          generalize ps (rowF l) l.length = p at *
          generalize ps (rowF m) m.length = q at *
          subst h4
          simp (disch := omega) only [ZF, frame0, stp, just, Rd.bind, Rd.run, Rd.opt, upds, tsz, rdCells, aLoad, resA, resL, aIndexAddr, aNum, aLen, aBuiltin, aBin, aInt, Nat.reduceAdd, Nat.reduceLT, Nat.reduceBEq, Nat.reduceEqDiff, Nat.reduceLeDiff, ↓reduceIte, reduceCtorEq, stpT, Rd.foot, writing, touching, Tr.empty, dynPairs, apartT, disj, aCall, snaps, ZT, F_85, hc1, hc2, r1, r2, l3, l4, g2, g4, g5, t1, t2]
          exact ⟨_, rfl, rfl, rfl⟩
        · rw [if_pos h4]
          refine .inl ⟨by decide, ?_⟩
          generalize ps (rowF l) l.length = p at *
          generalize ps (rowF m) m.length = q at *
          have h4' : (p != q) = true := by rw [bne_iff_ne]; exact h4
          simp (disch := omega) only [ZF, frame0, stp, just, Rd.bind, Rd.run, Rd.opt, upds, tsz, rdCells, aLoad, resA, resL, aIndexAddr, aNum, aLen, aBuiltin, aBin, aInt, Nat.reduceAdd, Nat.reduceLT, Nat.reduceBEq, Nat.reduceEqDiff, Nat.reduceLeDiff, ↓reduceIte, reduceCtorEq, stpT, Rd.foot, writing, touching, Tr.empty, dynPairs, apartT, disj, aCall, snaps, ZT, F_85, hc1, hc2, r1, r2, l3, l4, g2, g4, g5, h4', t1, t2]
          exact ⟨_, rfl⟩
      · rw [if_pos h3]
        refine .inl ⟨by decide, ?_⟩
        have g1 : (l.length : Int) ≠ m.length := by omega
        have g2 : ((l.length : Int) != m.length) = true := by rw [bne_iff_ne]; omega
        have g3 : ¬ (l.length : Int) = m.length := by omega
        simp (disch := omega) only [ZF, frame0, stp, just, Rd.bind, Rd.run, Rd.opt, upds, tsz, rdCells, aLoad, resA, resL, aIndexAddr, aNum, aLen, aBuiltin, aBin, aInt, Nat.reduceAdd, Nat.reduceLT, Nat.reduceBEq, Nat.reduceEqDiff, Nat.reduceLeDiff, ↓reduceIte, reduceCtorEq, stpT, Rd.foot, aCall, snaps, ZT, F_85, hc1, hc2, r1, r2, l3, g2, if_pos]
        exact ⟨_, rfl⟩
    · rw [if_pos h2]
      refine .inl ⟨h2, ?_⟩
      generalize kF (d + 1) = C at *
      generalize chkR m = z at *
      have h0' : (z == 0) = false := by rw [beq_eq_false_iff_ne]; exact h2
      simp (disch := omega) only [ZF, frame0, stp, just, Rd.bind, Rd.run, Rd.opt, upds, resA, resL, aBin, aInt, Nat.reduceBEq, Nat.reduceEqDiff, Nat.reduceLeDiff, ↓reduceIte, reduceCtorEq, aCall, snaps, F_85, hc1, hc2, h2, sa 198, sb 198]
      exact ⟨_, rfl⟩
  · rw [if_pos h1]
    refine .inl ⟨h1, ?_⟩
    generalize kF (d + 1) = C at *
    generalize chkR l = z at *
    have h0' : (z == 0) = false := by rw [beq_eq_false_iff_ne]; exact h1
    simp (disch := omega) only [ZF, frame0, stp, just, Rd.bind, Rd.run, Rd.opt, upds, resA, resL, aBin, aInt, Nat.reduceBEq, Nat.reduceEqDiff, Nat.reduceLeDiff, ↓reduceIte, reduceCtorEq, aCall, snaps, F_85, hc1, h1, sa 198]
    exact ⟨_, rfl⟩
/-- What 'pair' gives. -/
def PaC (C : Callee) (a b : AV) (l m : List Int) : Prop :=
  (pairE l m ≠ 0 ∧ ∀ (site : Nat → Nat) seen, aBack site true seen (thaw C 85 [a, b] [] 0) = .pure (.tup [.nilsl, .nilsl, .int .i64 (pairE l m)], [])) ∨
  (pairE l m = 0 ∧ ∀ (site : Nat → Nat) seen, site 1 ≠ site 0 → aBack site true seen (thaw C 85 [a, b] [] 0) = back2 (site 0) (site 1) seen (fun k k' => .tup [.ref k 0 (l.length + 1) (l.length + 1) (l.length + 1) 1 false, .ref k' 0 (m.length + 1) (m.length + 1) (m.length + 1) 1 false, .int .i64 0]) ⟨.row, ics (riL l)⟩ ⟨.row, ics (riL m)⟩)
theorem paC {d : Nat} {l m : List Int} {a b : AV} (ha : IV l a) (hb : IV m b) (hl : l.length ≤ 1000) (hm : m.length ≤ 1000) : PaC (kF (d + 2)) a b l m := by
  rcases pair_run (d := d) ha hb hl hm with ⟨h, H, h1⟩ | ⟨h, H, h1, h2, h3⟩
  · exact .inl ⟨h, fun site seen => aBack_plain (by rw [kF_no rfl]; exact h1) rfl (fun _ => rfl) rfl⟩
  · exact .inr ⟨h, fun site seen hs => aBack_ref2int (by rw [kF_no rfl]; exact h1) h2 h3 (by decide) hs (ri_len l) (ri_len m)⟩
end Go.AM.Ytfmnoohhhokicaa
end

section
namespace Go.AM.Ytfmnoohhhokicaa
open Go Go.AM Go.AM.Rub
set_option maxRecDepth 100000
set_option maxHeartbeats 8000000
theorem cntL_snoc (t x : Int) : ∀ l : List Int, cntL t (l ++ [x]) = cntL t l + (if x > t then 1 else 0)
  | [] => by simp [cntL]
  | y :: l => by rw [List.cons_append, cntL, cntL_snoc t x l, cntL]; omega
def tuP (l : List Int) (m t : Nat) : List Int := (List.range t).map (cnjF l) ++ List.replicate (m - t) 0
theorem tuP_len (l : List Int) {m t : Nat} (h : t ≤ m) : (tuP l m t).length = m := by simp [tuP]; omega
theorem tuP_all (l : List Int) (m : Nat) : tuP l m m = cnjL l m := by simp [tuP, cnjL]
theorem tuP_at (l : List Int) {m t : Nat} (h : t < m) : (tuP l m t)[t]? = some 0 := by
  simp only [tuP]
  rw [List.getElem?_append_right (by simp)]
  simp only [List.length_map, List.length_range, Nat.sub_self]
  rw [List.getElem?_replicate, if_pos (by omega)]
def tuQ (l : List Int) (m t j : Nat) : List Int := (tuP l m t).set t (cntL t (l.take j))
theorem tuQ_zero (l : List Int) {m t : Nat} (h : t < m) : tuQ l m t 0 = tuP l m t := by
  unfold tuQ
  rw [List.take_zero]
  have h1 := tuP_at l h
  apply List.ext_getElem?
  intro i
  rw [List.getElem?_set]
  split
  · rename_i e; subst e
    rw [if_pos (by rw [tuP_len l (by omega)]; exact h), h1]; rfl
  · rfl
theorem tuQ_all {n : Nat} (l : List Int) (hl : l.length = n) {m t : Nat} (h : t < m) : tuQ l m t n = tuP l m (t + 1) := by
  unfold tuQ tuP
  rw [List.take_of_length_le (by omega), List.set_append_right _ _ (by simp)]
  simp only [List.length_map, List.length_range, Nat.sub_self, List.range_succ, List.map_append, List.map_cons, List.map_nil, List.append_assoc]
  obtain ⟨r, hr⟩ : ∃ r, m - t = r + 1 := ⟨m - t - 1, by omega⟩
  rw [hr, show m - (t + 1) = r by omega, List.replicate_succ, List.set_cons_zero]
  rfl
abbrev tuI (l : List Int) (n m : Nat) (a : AV) (t j : Nat) : St := ([(18, .int .i64 j), (17, .int .i64 n), (16, a), (13, .int .i64 t), (12, .int .i64 m), (6, .int .i64 t), (5, .ref 10 0 m m m 1 false), (0, a)], [(10, ⟨.row, ics (tuQ l m t j)⟩)])
abbrev tuS (l : List Int) (m : Nat) (a : AV) (t : Nat) : St := ([(13, .int .i64 t), (12, .int .i64 m), (5, .ref 10 0 m m m 1 false), (0, a)], [(10, ⟨.row, ics (tuP l m t)⟩)])
theorem cntL_le (t : Int) (l : List Int) (n : Nat) (h : l.length ≤ n) : 0 ≤ cntL t l ∧ cntL t l ≤ n := by
  have := cntL_b t l
  omega
theorem tu_in {C : Callee} {l : List Int} {n m : Nat} {x : Bool} (hl : l.length = n) (hn : n ≤ 100) {t : Nat} (ht : t < m) (_ : m ≤ 100) (j : Nat) (hj : j < n) :
    ∃ s', (execA E C (fg 103) 0 34 [] 1000000 c103_23) (tuI l n m (.imm (ics l) n x) t j) = some (.normal, s') ∧ headA [] s' = tuI l n m (.imm (ics l) n x) t (j + 1) := by
  have hlen : (ics l).length = n := by rw [ics_length, hl]
  have hat := icr_at (l := l) (k := j) (by omega)
  have g1 : (j : Int) < n := by omega
  have g2 : (t : Int) < m := by omega
  have htk : l.take (j + 1) = l.take j ++ [rowF l j] := by rw [List.take_add_one, rowF_at (by omega)]; rfl
  have hc := cntL_le t (l.take j) 100 (by rw [List.length_take]; omega)
  have e1 : tuQ l m t (j + 1) = (tuP l m t).set t (cntL t (l.take j) + (if rowF l j > t then 1 else 0)) := by
    unfold tuQ; rw [htk, cntL_snoc]
  have hql : (ics (tuQ l m t j)).length = m := by
    rw [ics_length]; unfold tuQ; rw [List.length_set, tuP_len l (by omega)]
  have hqa : (ics (tuQ l m t j))[t]? = some (.int .i64 (cntL t (l.take j))) := by
    refine ics_at ?_
    unfold tuQ
    rw [List.getElem?_set_self (by rw [tuP_len l (by omega)]; exact ht)]
  by_cases hx : rowF l j > t
  · rw [if_pos hx] at e1
    have hqs : (ics (tuQ l m t j)).set t (.int .i64 (cntL t (l.take j) + 1)) = ics (tuQ l m t (j + 1)) := by
      rw [ics_set, e1]; unfold tuQ; rw [List.set_set]
    have w : wrp .i64 (cntL t (l.take j) + 1) = cntL t (l.take j) + 1 := wrp64 (by omega)
    simp only [tuI]
    generalize ics (tuQ l m t (j + 1)) = Q1 at *
    generalize ics (tuQ l m t j) = Q0 at *
    simp (disch := omega) only [ZF, stp, just, Rd.bind, Rd.run, Rd.opt, upds, acells, tsz, rdCells, aLoad, aStore, opStore, aIndexAddr, aNum, aBin, aInt, putC, Nat.reduceLT, Nat.reduceBEq, Nat.reduceEqDiff, Nat.reduceLeDiff, ↓reduceIte, snaps, ZT, F_103, hlen, hat, hql, hqa, hqs, g1, g2, hx, w, if_pos, wrp_succ (show j < 1000000 by omega)]
    exact ⟨_, rfl, rfl⟩
  · rw [if_neg hx, Int.add_zero] at e1
    have e2 : tuQ l m t (j + 1) = tuQ l m t j := e1
    simp only [tuI, e2]
    generalize ics (tuQ l m t j) = Q0 at *
    simp (disch := omega) only [ZF, stp, just, Rd.bind, Rd.run, Rd.opt, upds, tsz, rdCells, aLoad, aIndexAddr, aNum, aBin, aInt, Nat.reduceLT, Nat.reduceBEq, Nat.reduceEqDiff, Nat.reduceLeDiff, ↓reduceIte, ZT, F_103, hlen, hat, hql, g1, g2, hx, wrp_succ (show j < 1000000 by omega)]
    exact ⟨_, rfl, rfl⟩
theorem turned_run {C : Callee} {l : List Int} {n m : Nat} {x : Bool} (hl : l.length = n) (hn : n ≤ 100) (hm : m ≤ 100) :
    ∃ H, bodyA E C fg 1000000 103 [.imm (ics l) n x, .int .i64 m] [] 0 = some (.ref 10 0 m m m 1 false, H) ∧ hget H 10 = some ⟨.row, ics (cnjL l m)⟩ := by
  have hlen : (ics l).length = n := by rw [ics_length, hl]
  have hgo : ∀ t, t < m → ∃ s', (execA E C (fg 103) 0 34 [] 1000000 c103_9) (tuS l m (.imm (ics l) n x) t) = some (.normal, s') ∧ headA [] s' = tuS l m (.imm (ics l) n x) (t + 1) := by
    intro t ht
    have hloop := loopM (f := (execA E C (fg 103) 0 34 [] 1000000 c103_23)) (E0 := []) (tuI l n m (.imm (ics l) n x) t) n (fun j hj => tu_in hl hn ht hm j hj) rfl (by omega)
      (e := .exit 2) (se := ([(19, .bool false), (18, .int .i64 n), (17, .int .i64 n), (16, .imm (ics l) n x), (13, .int .i64 t), (12, .int .i64 m), (6, .int .i64 t), (5, .ref 10 0 m m m 1 false), (0, .imm (ics l) n x)], [(10, ⟨.row, ics (tuP l m (t + 1))⟩)]))
      (by
        simp only [tuI, tuQ_all l hl ht]
        simp (disch := omega) only [ZF, stp, just, Rd.bind, Rd.run, Rd.opt, upds, aBin, aInt, Nat.reduceEqDiff, Nat.reduceLeDiff, ↓reduceIte, F_103]) (by simp)
    simp only [tuI, tuQ_zero l ht, cl0] at hloop
    have g1 : (t : Int) < m := by omega
    simp only [tuS]
    generalize ics (tuP l m (t + 1)) = Q1 at *
    generalize ics (tuP l m t) = Q0 at *
    simp (disch := omega) only [ZF, stp, just, Rd.bind, Rd.run, Rd.opt, upds, aLen, aBuiltin, aBin, aInt, Nat.reduceBEq, Nat.reduceEqDiff, Nat.reduceLeDiff, ↓reduceIte, reduceCtorEq, ZT, F_103, hloop, g1, wrp_succ (show t < 1000000 by omega)]
    exact ⟨_, rfl, rfl⟩
  have hloop := loopM (f := (execA E C (fg 103) 0 34 [] 1000000 c103_9)) (E0 := []) (tuS l m (.imm (ics l) n x)) m hgo rfl (by omega)
    (e := .exit 0) (se := ([(14, .bool false), (13, .int .i64 m), (12, .int .i64 m), (5, .ref 10 0 m m m 1 false), (0, .imm (ics l) n x)], [(10, ⟨.row, ics (cnjL l m)⟩)]))
    (by
      simp only [tuS, tuP_all]
      simp (disch := omega) only [ZF, stp, just, Rd.bind, Rd.run, Rd.opt, upds, aBin, aInt, Nat.reduceEqDiff, Nat.reduceLeDiff, ↓reduceIte, F_103]) (by simp)
  have e0 : tuP l m 0 = List.replicate m 0 := by simp [tuP]
  simp only [tuS, e0, cl0] at hloop
  have rep := repC_ics m
  have hflat : [AV.int .i64 0].all AV.flat = true := rfl
  have hk : (m : Int) ≤ kHi .i64 := by simp only [kHi]; omega
  have hby : ((8 : Nat) : Int) * (m : Int) ≤ 281474976710656 := by omega
  have hil : (ics (List.replicate m 0)).length = m := by rw [ics_length, List.length_replicate]
  simp (disch := omega) only [ZF, frame0, stp, just, Rd.bind, Rd.run, upds, zeroCells, elemT, resA, resL, fresh, aNum, aLen, aBuiltin, Nat.reduceLT, Nat.reduceBEq, Nat.reduceEqDiff, Nat.reduceLeDiff, ↓reduceIte, ZT, F_103, aMake, rep, hflat, hk, hby, hil, hloop, if_pos]
  exact ⟨_, rfl, rfl⟩
theorem turned_call {d : Nat} {site : Nat → Nat} {seen : List Nat} {l : List Int} {n m : Nat} {x : Bool} (hl : l.length = n) (hn : n ≤ 100) (hm : m ≤ 100) : aBack site true seen (thaw (kF (d + 1)) 103 [.imm (ics l) n x, .int .i64 m] [] 0) =
    back1 (site 0) seen (fun k => .ref k 0 m m m 1 false) ⟨.row, ics (cnjL l m)⟩ := by
  obtain ⟨H, h1, h2⟩ := turned_run (C := kF d) (x := x) hl hn hm
  exact aBack_refc (by rw [kF_no rfl]; exact h1) h2 (by rw [ics_length, cnjL_length])
def loP (a b : List Int) (k : Nat) : List Int := (List.range k).map (lowF (rowF a) (rowF b))
theorem loP_len (a b : List Int) (k : Nat) : (loP a b k).length = k := by simp [loP]
theorem loP_snoc (a b : List Int) (k : Nat) : loP a b (k + 1) = loP a b k ++ [lowF (rowF a) (rowF b) k] := by simp [loP, List.range_succ]
noncomputable abbrev loS (a b : List Int) (n k : Nat) : St := ([(15, .int .i64 k), (14, .int .i64 n), (7, oV 41 1 k), (6, .ref 12 0 (n + 1) (n + 1) (n + 1) 1 false), (5, .ref 10 0 (n + 1) (n + 1) (n + 1) 1 false)], (10, ⟨.row, ics (riL a)⟩) :: (12, ⟨.row, ics (riL b)⟩) :: oH 41 (ics (loP a b k)))
theorem lo_go {C : Callee} {a b : List Int} {n : Nat} (ha : Rw n a) (hb : Rw n b) (hn : n ≤ 8) (k : Nat) (hk : k < n) :
    ∃ s', (execA E C (fg 101) 0 44 [] 1000000 c101_11) (loS a b n k) = some (.normal, s') ∧ headA [] s' = loS a b n (k + 1) := by
  have la := ri_len a
  have lb := ri_len b
  rw [ha.len] at la
  rw [hb.len] at lb
  have a1 : (ics (riL a))[k + 1]? = some (.int .i64 (ps (rowF a) (k + 1))) := ics_at (riP_at (by rw [ha.len]; omega))
  have a0 : (ics (riL a))[k]? = some (.int .i64 (ps (rowF a) k)) := ics_at (riP_at (by rw [ha.len]; omega))
  have b1 : (ics (riL b))[k + 1]? = some (.int .i64 (ps (rowF b) (k + 1))) := ics_at (riP_at (by rw [hb.len]; omega))
  have b0 : (ics (riL b))[k]? = some (.int .i64 (ps (rowF b) k)) := ics_at (riP_at (by rw [hb.len]; omega))
  have p1 := ps_b ha (k + 1) (by omega)
  have p0 := ps_b ha k (by omega)
  have q1 := ps_b hb (k + 1) (by omega)
  have q0 := ps_b hb k (by omega)
  have hsn := ics_snoc (loP a b k) (lowF (rowF a) (rowF b) k)
  have hlo : lowF (rowF a) (rowF b) k = min (ps (rowF a) (k + 1)) (ps (rowF b) (k + 1)) - min (ps (rowF a) k) (ps (rowF b) k) := rfl
  have hrl : (ics (loP a b k)).length = k := by rw [ics_length, loP_len]
  simp only [loS]
  rw [ov_pos (show 0 < k + 1 by omega), ohi_pos (l := loP a b (k + 1)) (by rw [loP_len]; omega), loP_snoc, ← hsn, hlo]
  generalize ps (rowF a) (k + 1) = u1 at *
  generalize ps (rowF a) k = u0 at *
  generalize ps (rowF b) (k + 1) = v1 at *
  generalize ps (rowF b) k = v0 at *
  have e1 : (if v1 < u1 then v1 else u1) = min u1 v1 := by split <;> omega
  have e0 : (if v0 < u0 then v0 else u0) = min u0 v0 := by split <;> omega
  have w : wrp .i64 (min u1 v1 - min u0 v0) = min u1 v1 - min u0 v0 := wrp64 (by omega)
  have g1 : (k : Int) < n := by omega
  have g2 : ((k + 1 : Nat) : Int) < ((n + 1 : Nat) : Int) := by omega
  have g3 : (k : Int) < ((n + 1 : Nat) : Int) := by omega
  generalize ics (riL a) = RA at *
  generalize ics (riL b) = RB at *
  rcases Nat.eq_zero_or_pos k with hp | hp
  · subst hp
    have z1 : ((0 + 1 : Nat) : Int) = 1 := rfl
    have ee0 : ics (loP a b 0) = [] := rfl
    rw [ee0, ov_zero]
    have oh0 : oH 41 [] = [] := rfl
    rw [oh0]
    simp only [z1, cl0, Nat.zero_add] at *
    have w01 : wrp .i64 (0 + 1) = 1 := by decide
    simp (disch := omega) only [ZF, stp, justO, just, Rd.bind, Rd.run, Rd.opt, upds, acells, zeroCells, tsz, elemT, rdCells, aLoad, fresh, aIndexAddr, aNum, aBuiltin, aMin, aBin, aInt, putC, evO, Nat.reduceAdd, Nat.reduceLT, Nat.reduceBEq, Nat.reduceEqDiff, Nat.reduceLeDiff, ↓reduceIte, reduceCtorEq, stpT, Rd.foot, writing, touching, Tr.empty, dynPairs, apartT, disj, aBuildSlice, aBuildAt, partsOf, fillA, repC, isSliceT, aAppend, srcOf, window, snaps, Int.reduceLE, ZT, F_101, w01, aMin, la, lb, a1, a0, b1, b0, e1, e0, w, g1, g2, g3, room22 (show 1 ≤ 1000000 by omega), Int.toNat_zero, Int.toNat_one]
    exact ⟨_, rfl, rfl⟩
  · rw [ov_pos hp, ohi_pos (by rw [loP_len]; exact hp)]
    have htk : List.take k (ics (loP a b k)) = ics (loP a b k) := List.take_of_length_le (by omega)
    have hno : ¬ k + 1 ≤ k := by omega
    generalize ics (loP a b k) = L at *
    simp (disch := omega) only [ZF, stp, justO, just, Rd.bind, Rd.run, Rd.opt, upds, acells, zeroCells, tsz, elemT, rdCells, aLoad, fresh, aIndexAddr, aNum, aBuiltin, aMin, aBin, aInt, putC, evO, Nat.reduceAdd, Nat.reduceLT, Nat.reduceBEq, Nat.reduceEqDiff, Nat.reduceLeDiff, ↓reduceIte, reduceCtorEq, stpT, Rd.foot, writing, touching, Tr.empty, dynPairs, apartT, disj, aBuildSlice, aBuildAt, partsOf, fillA, repC, isSliceT, aAppend, srcOf, window, snaps, ZT, F_101, aMin, la, lb, a1, a0, b1, b0, e1, e0, w, g1, g2, g3, hrl, htk, hno, room22 (show k + 1 ≤ 1000000 by omega), wrp_succ (show k < 1000000 by omega)]
    exact ⟨_, rfl, rfl⟩
theorem lower_run {d : Nat} {a b : List Int} {n : Nat} {x y : Bool} (ha : Rw n a) (hb : Rw n b) (h0 : 0 < n) (hn : n ≤ 8) :
    ∃ H, bodyA E (kF (d + 1)) fg 1000000 101 [.imm (ics a) n x, .imm (ics b) n y] [] 0 = some (.ref 41 0 n n n 1 false, H) ∧ hget H 41 = some ⟨.row, ics (lowL a b)⟩ := by
  have r1 := fun (site : Nat → Nat) seen => rises_call (d := d) (site := site) (seen := seen) (a := .imm (ics a) n x) (.inr ⟨x, by rw [ha.len]⟩) ha hn
  have r2 := fun (site : Nat → Nat) seen => rises_call (d := d) (site := site) (seen := seen) (a := .imm (ics b) n y) (.inr ⟨y, by rw [hb.len]⟩) hb hn
  rw [ha.len] at r1
  rw [hb.len] at r2
  have la : (ics a).length = n := by rw [ics_length, ha.len]
  have l1 := ri_len a
  have l2 := ri_len b
  rw [ha.len] at l1
  rw [hb.len] at l2
  have eL : loP a b n = lowL a b := by unfold loP lowL; rw [ha.len]
  have hloop := loopM (f := execA E (kF (d + 1)) (fg 101) 0 44 [] 1000000 c101_11) (E0 := []) (loS a b n) n (fun k hk => lo_go ha hb hn k hk) (by
      have e0 : oH 41 (ics (loP a b 0)) = [] := rfl
      simp only [loS, e0, ov_zero]; rfl) (by omega)
    (e := .exit 0) (se := ([(16, .bool false), (15, .int .i64 n), (14, .int .i64 n), (7, .ref 41 0 n n n 1 false), (6, .ref 12 0 (n + 1) (n + 1) (n + 1) 1 false), (5, .ref 10 0 (n + 1) (n + 1) (n + 1) 1 false)], [(10, ⟨.row, ics (riL a)⟩), (12, ⟨.row, ics (riL b)⟩), (41, ⟨.row, ics (lowL a b)⟩)]))
    (by
      simp only [loS]
      rw [ov_pos h0, ohi_pos (by rw [loP_len]; exact h0), eL]
      simp (disch := omega) only [ZF, stp, just, Rd.bind, Rd.run, Rd.opt, upds, aBin, aInt, Nat.reduceEqDiff, Nat.reduceLeDiff, ↓reduceIte, F_101]) (by simp)
  have e0 : oH 41 (ics (loP a b 0)) = [] := rfl
  simp only [loS, e0, ov_zero, cl0] at hloop
  generalize kF (d + 1) = C at *
  simp (disch := omega) only [ZF, frame0, stp, just, Rd.bind, Rd.run, upds, resA, resL, aLen, aBuiltin, Nat.reduceBEq, Nat.reduceEqDiff, Nat.reduceLeDiff, ↓reduceIte, reduceCtorEq, aCall, snaps, ZT, F_101, r1, r2, hloop]
  exact ⟨_, rfl, rfl⟩
theorem lower_call {d : Nat} {site : Nat → Nat} {seen : List Nat} {a b : List Int} {n : Nat} {x y : Bool} (ha : Rw n a) (hb : Rw n b) (h0 : 0 < n) (hn : n ≤ 8) : aBack site true seen (thaw (kF (d + 2)) 101 [.imm (ics a) n x, .imm (ics b) n y] [] 0) =
    back1 (site 0) seen (fun k => .ref k 0 n n n 1 false) ⟨.row, ics (lowL a b)⟩ := by
  obtain ⟨H, h1, h2⟩ := lower_run (d := d) (x := x) (y := y) ha hb h0 hn
  exact aBack_refc (by rw [kF_no rfl]; exact h1) h2 (by rw [ics_length, lowL_length, ha.len])
end Go.AM.Ytfmnoohhhokicaa
end

section
namespace Go.AM.Ytfmnoohhhokicaa
open Go Go.AM Go.AM.Rub
set_option maxRecDepth 100000
set_option maxHeartbeats 8000000
theorem Meet_run {d : Nat} {l m : List Int} {a b : AV} (ha : IV l a) (hb : IV m b) (hl : l.length ≤ 1000) (hm : m.length ≤ 1000) :
    (pairE l m ≠ 0 ∧ ∃ H, bodyA E (kF (d + 2)) fg 1000000 46 [a, b] [] 0 = some (.tup [.nilsl, .int .i64 (pairE l m)], H)) ∨
    (pairE l m = 0 ∧ ∃ g H, bodyA E (kF (d + 2)) fg 1000000 46 [a, b] [] 0 = some (.tup [.ref g 0 l.length l.length l.length 1 false, .int .i64 0], H) ∧ hget H g = some ⟨.row, ics (lowL l m)⟩) := by
  have hp := paC (d := d) ha hb hl hm
  have sa := iv_snap ha
  have sb := iv_snap hb
  rcases hp with ⟨h, hp⟩ | ⟨h, hp⟩
  · refine .inl ⟨h, ?_⟩
    generalize kF (d + 2) = C at *
    generalize pairE l m = z at *
    have h0' : (z == 0) = false := by rw [beq_eq_false_iff_ne]; exact h
    simp (disch := omega) only [ZF, frame0, stp, justO, just, Rd.bind, Rd.run, Rd.opt, upds, opExtract, resA, resL, aBin, aInt, Nat.reduceBEq, Nat.reduceEqDiff, Nat.reduceLeDiff, ↓reduceIte, reduceCtorEq, aCall, snaps, F_46, hp, h, sa 198, sb 197]
    exact ⟨_, rfl⟩
  · obtain ⟨n, n0, n6, r1, r2, re⟩ := pairE_zero.1 h
    refine .inr ⟨h, 21, ?_⟩
    have hlo := fun (site : Nat → Nat) seen x y => lower_call (d := d) (site := site) (seen := seen) (x := x) (y := y) r1 r2 n0 (by omega)
    obtain ⟨xa, rfl⟩ := iv_ne ha (by rw [r1.len]; exact n0)
    obtain ⟨xb, rfl⟩ := iv_ne hb (by rw [r2.len]; exact n0)
    rw [r1.len, r2.len] at hp
    rw [r1.len, r2.len]
    have l1 := ri_len l
    have l2 := ri_len m
    rw [r1.len] at l1
    rw [r2.len] at l2
    generalize kF (d + 2) = C at *
    simp (disch := omega) only [ZF, frame0, stp, justO, just, Rd.bind, Rd.run, Rd.opt, upds, opExtract, resA, resL, aBin, aInt, Nat.reduceAdd, Nat.reduceMul, Nat.reduceBEq, Nat.reduceEqDiff, Nat.reduceLeDiff, ↓reduceIte, reduceCtorEq, aCall, snaps, F_46, hp, hlo]
    exact ⟨_, rfl, rfl⟩
theorem Meet_rl {d : Nat} {l m : List Int} {a b : AV} (ha : IV l a) (hb : IV m b) (hl : l.length ≤ 1000) (hm : m.length ≤ 1000) : RL (kF (d + 3)) 46 [a, b] (pairE l m) (lowL l m) := by
  refine rl_of (n := l.length) ?_ (lowL_length l m)
  rw [kF_no rfl]; exact Meet_run ha hb hl hm
theorem Join_run {d : Nat} {l m : List Int} {a b : AV} (ha : IV l a) (hb : IV m b) (hl : l.length ≤ 1000) (hm : m.length ≤ 1000) :
    (pairE l m ≠ 0 ∧ ∃ H, bodyA E (kF (d + 2)) fg 1000000 48 [a, b] [] 0 = some (.tup [.nilsl, .int .i64 (pairE l m)], H)) ∨
    (pairE l m = 0 ∧ ∃ g H, bodyA E (kF (d + 2)) fg 1000000 48 [a, b] [] 0 = some (.tup [.ref g 0 l.length l.length l.length 1 false, .int .i64 0], H) ∧ hget H g = some ⟨.row, ics (joinL l m)⟩) := by
  have hp := paC (d := d) ha hb hl hm
  have sa := iv_snap ha
  have sb := iv_snap hb
  rcases hp with ⟨h, hp⟩ | ⟨h, hp⟩
  · refine .inl ⟨h, ?_⟩
    generalize kF (d + 2) = C at *
    generalize pairE l m = z at *
    have h0' : (z == 0) = false := by rw [beq_eq_false_iff_ne]; exact h
    simp (disch := omega) only [ZF, frame0, stp, justO, just, Rd.bind, Rd.run, Rd.opt, upds, opExtract, resA, resL, aBin, aInt, Nat.reduceBEq, Nat.reduceEqDiff, Nat.reduceLeDiff, ↓reduceIte, reduceCtorEq, aCall, snaps, F_48, hp, h, sa 198, sb 197]
    exact ⟨_, rfl⟩
  · obtain ⟨n, n0, n6, r1, r2, re⟩ := pairE_zero.1 h
    refine .inr ⟨h, 26, ?_⟩
    have c1 := cnj_row r1.len (show n ≤ 8 by omega) 8
    have c2 := cnj_row r2.len (show n ≤ 8 by omega) 8
    have hlo := fun (site : Nat → Nat) seen x y => lower_call (d := d) (site := site) (seen := seen) (x := x) (y := y) c1 c2 (by omega) (by omega)
    have t1 := fun (site : Nat → Nat) seen x => turned_call (d := d + 1) (site := site) (seen := seen) (m := 8) (x := x) r1.len (by omega) (by omega)
    have t2 := fun (site : Nat → Nat) seen x => turned_call (d := d + 1) (site := site) (seen := seen) (m := 8) (x := x) r2.len (by omega) (by omega)
    have t3 := fun (site : Nat → Nat) seen x => turned_call (d := d + 1) (site := site) (seen := seen) (m := n) (x := x) (l := lowL (cnjL l 8) (cnjL m 8)) (n := 8) (by rw [lowL_length, cnjL_length]) (by omega) (by omega)
    have eJ : joinL l m = cnjL (lowL (cnjL l 8) (cnjL m 8)) n := by unfold joinL; rw [r1.len]
    obtain ⟨xa, rfl⟩ := iv_ne ha (by rw [r1.len]; exact n0)
    obtain ⟨xb, rfl⟩ := iv_ne hb (by rw [r2.len]; exact n0)
    rw [r1.len, r2.len] at hp
    rw [r1.len, r2.len, eJ]
    have z8 : ((8 : Nat) : Int) = 8 := rfl
    rw [z8] at t1 t2
    have l0 : (ics l).length = n := by rw [ics_length, r1.len]
    have l1 : (ics (cnjL l 8)).length = 8 := by rw [ics_length, cnjL_length]
    have l2 : (ics (cnjL m 8)).length = 8 := by rw [ics_length, cnjL_length]
    have l3 : (ics (lowL (cnjL l 8) (cnjL m 8))).length = 8 := by rw [ics_length, lowL_length, cnjL_length]
    have k1 : List.take 8 (ics (cnjL l 8)) = ics (cnjL l 8) := List.take_of_length_le (by omega)
    have k2 : List.take 8 (ics (cnjL m 8)) = ics (cnjL m 8) := List.take_of_length_le (by omega)
    have k3 : List.take 8 (ics (lowL (cnjL l 8) (cnjL m 8))) = ics (lowL (cnjL l 8) (cnjL m 8)) := List.take_of_length_le (by omega)
    generalize kF (d + 2) = C at *
    generalize ics (cnjL (lowL (cnjL l 8) (cnjL m 8)) n) = J at *
    generalize ics (lowL (cnjL l 8) (cnjL m 8)) = W at *
    generalize ics (cnjL l 8) = U at *
    generalize ics (cnjL m 8) = V at *
    simp (disch := omega) only [ZF, frame0, stp, justO, just, Rd.bind, Rd.run, Rd.opt, upds, opExtract, resA, resL, aLen, aBuiltin, aBin, aInt, Nat.reduceAdd, Nat.reduceMul, Nat.reduceBEq, Nat.reduceEqDiff, Nat.reduceLeDiff, ↓reduceIte, reduceCtorEq, aCall, snaps, ZT, F_48, hp, hlo, t1, t2, t3, l1, l2, l3, k1, k2, k3]
    exact ⟨_, rfl, rfl⟩
theorem Join_rl {d : Nat} {l m : List Int} {a b : AV} (ha : IV l a) (hb : IV m b) (hl : l.length ≤ 1000) (hm : m.length ≤ 1000) : RL (kF (d + 3)) 48 [a, b] (pairE l m) (joinL l m) := by
  refine rl_of (n := l.length) ?_ (by unfold joinL; rw [cnjL_length])
  rw [kF_no rfl]; exact Join_run ha hb hl hm
def mjE (a b : List Int) (i : Nat) : Int := if ps (rowF a) (i + 1) < ps (rowF b) (i + 1) then 1 else 0
theorem mj_maj {n : Nat} {a b : List Int} (ha : Rw n a) (_ : Rw n b) (he : ps (rowF a) n = ps (rowF b) n) : fe (mjE a b) 0 n = 0 ↔ MajL a b := by
  rw [fe_zero]
  constructor
  · intro h
    refine ⟨by rw [ha.len]; exact he, fun k hk => ?_⟩
    rw [ha.len] at hk
    cases k with
    | zero => exact Int.le_refl _
    | succ k =>
      have := h k (by omega) (by omega)
      unfold mjE at this
      split at this
      · exact absurd this (by decide)
      · omega
  · intro h i _ hi
    have := h.le (i + 1) (by rw [ha.len]; omega)
    unfold mjE
    rw [if_neg (by omega)]
abbrev voS (a b : List Int) (n : Nat) (x y : Bool) (i : Nat) : St := ([(8, .int .i64 i), (7, .int .i64 n), (1, .imm (ics b) n y), (0, .imm (ics a) n x)], [])
theorem vover_run {d : Nat} {a b : List Int} {n : Nat} {x y : Bool} (ha : Rw n a) (hb : Rw n b) (hn : n ≤ 8) : rsOf (bodyA E (kF (d + 1)) fg 1000000 62 [.imm (ics a) n x, .imm (ics b) n y] [] 0) = some (.bool (decide (fe (mjE a b) 0 n = 0))) := by
  have la : (ics a).length = n := by rw [ics_length, ha.len]
  have lb : (ics b).length = n := by rw [ics_length, hb.len]
  have hloop := loopE (f := execA E (kF (d + 1)) (fg 62) 0 23 [] 1000000 c62_7) (e := mjE a b) (R := fun _ H => ([(4, .bool false)], H)) (voS a b n x y) n (E0 := []) rfl (by omega) (x := .exit 0) (se := ([(9, .bool false), (8, .int .i64 n), (7, .int .i64 n), (1, .imm (ics b) n y), (0, .imm (ics a) n x)], [])) (by simp)
    (fun i hi _ he => by
      have ta := fun (site : Nat → Nat) seen x => totalk_call (d := d) (site := site) (seen := seen) (ex := x) ha hn (show i + 1 ≤ n by omega)
      have tb := fun (site : Nat → Nat) seen x => totalk_call (d := d) (site := site) (seen := seen) (ex := x) hb hn (show i + 1 ≤ n by omega)
      have a1 : List.take (i + 1) (ics a) = ics (a.take (i + 1)) := ics_take a _
      have b1 : List.take (i + 1) (ics b) = ics (b.take (i + 1)) := ics_take b _
      have g1 : (i : Int) < n := by omega
      have g2 : (0 : Int) ≤ ((i + 1 : Nat) : Int) ∧ ((i + 1 : Nat) : Int) ≤ (n : Int) := by omega
      have g3 : ¬ ps (rowF a) (i + 1) < ps (rowF b) (i + 1) := fun h => by unfold mjE at he; rw [if_pos h] at he; exact absurd he (by decide)
      generalize kF (d + 1) = C at *
      generalize ps (rowF a) (i + 1) = u at *
      generalize ps (rowF b) (i + 1) = v at *
      simp (disch := omega) only [ZF, stp, just, Rd.bind, Rd.run, Rd.opt, upds, tsz, aNum, aBin, aInt, Nat.reduceAdd, Nat.reduceBEq, Nat.reduceEqDiff, Nat.reduceLeDiff, ↓reduceIte, reduceCtorEq, stpT, Rd.foot, writing, touching, Tr.empty, dynPairs, window, aCall, snaps, aSlice, aBounds, bMax, bHigh, bLow, ZT, F_62, voS, la, lb, ta, tb, a1, b1, g1, g2, g3, wrp_succ (show i < 1000000 by omega)]
      exact ⟨_, rfl, rfl⟩)
    (fun i hi _ he => by
      have ta := fun (site : Nat → Nat) seen x => totalk_call (d := d) (site := site) (seen := seen) (ex := x) ha hn (show i + 1 ≤ n by omega)
      have tb := fun (site : Nat → Nat) seen x => totalk_call (d := d) (site := site) (seen := seen) (ex := x) hb hn (show i + 1 ≤ n by omega)
      have a1 : List.take (i + 1) (ics a) = ics (a.take (i + 1)) := ics_take a _
      have b1 : List.take (i + 1) (ics b) = ics (b.take (i + 1)) := ics_take b _
      have g1 : (i : Int) < n := by omega
      have g2 : (0 : Int) ≤ ((i + 1 : Nat) : Int) ∧ ((i + 1 : Nat) : Int) ≤ (n : Int) := by omega
      have g3 : ps (rowF a) (i + 1) < ps (rowF b) (i + 1) := Classical.byContradiction fun h => he (by unfold mjE; rw [if_neg h])
      generalize kF (d + 1) = C at *
      generalize ps (rowF a) (i + 1) = u at *
      generalize ps (rowF b) (i + 1) = v at *
      simp (disch := omega) only [ZF, stp, just, Rd.bind, Rd.run, Rd.opt, upds, tsz, aNum, aBin, aInt, Nat.reduceAdd, Nat.reduceBEq, Nat.reduceEqDiff, Nat.reduceLeDiff, ↓reduceIte, reduceCtorEq, stpT, Rd.foot, writing, touching, Tr.empty, dynPairs, window, aCall, snaps, aSlice, aBounds, bMax, bHigh, bLow, ZT, F_62, voS, la, lb, ta, tb, a1, b1, g1, g2, g3, wrp_succ (show i < 1000000 by omega)]
      exact ⟨_, rfl⟩)
    (fun _ => by
      generalize kF (d + 1) = C at *
      simp (disch := omega) only [ZF, stp, just, Rd.bind, Rd.run, Rd.opt, upds, aBin, aInt, Nat.reduceEqDiff, Nat.reduceLeDiff, ↓reduceIte, F_62, voS])
  simp only [voS, cl0] at hloop
  generalize kF (d + 1) = C at *
  rcases hloop with ⟨hz, hloop⟩ | ⟨hz, H, hloop⟩
  · rw [decide_eq_true hz]
    simp (disch := omega) only [ZF, frame0, stp, just, Rd.bind, Rd.run, upds, resA, resL, aLen, aBuiltin, Nat.reduceBEq, Nat.reduceEqDiff, Nat.reduceLeDiff, ↓reduceIte, reduceCtorEq, ZT, F_62, hloop]
  · rw [decide_eq_false hz]
    simp (disch := omega) only [ZF, frame0, stp, just, Rd.bind, Rd.run, upds, resA, resL, aLen, aBuiltin, Nat.reduceBEq, Nat.reduceEqDiff, Nat.reduceLeDiff, ↓reduceIte, reduceCtorEq, ZT, F_62, hloop]
theorem vover_call {d : Nat} {site : Nat → Nat} {seen : List Nat} {a b : List Int} {n : Nat} {x y : Bool} (ha : Rw n a) (hb : Rw n b) (hn : n ≤ 8) : aBack site true seen (thaw (kF (d + 2)) 62 [.imm (ics a) n x, .imm (ics b) n y] [] 0) = .pure (.bool (decide (fe (mjE a b) 0 n = 0)), []) :=
  aBack_bool (kF_ex rfl (vover_run ha hb hn))
end Go.AM.Ytfmnoohhhokicaa
end

section
namespace Go.AM.Ytfmnoohhhokicaa
open Go Go.AM
set_option maxRecDepth 100000
variable {C : Callee} {B N : Nat} {E0 : AHeap} (φ : AFr) (H : AHeap) (s : St)
noncomputable def c72_0 : Code := kBody Proofs.Try.f72
noncomputable def c72_1 : Code := kL c72_0
noncomputable def r72_0 : Array Oper := kO c72_1
noncomputable def o72_0_0 : Oper := opN r72_0 0
noncomputable def o72_0_1 : Oper := opN r72_0 1
theorem x72_1 : execA E C (fg 72) B 7 E0 N c72_1 s = regX (runA E C B 7 r72_0 r72_0.toList s) (fun s => gcM E0 [0, 3] (forget s.1 [0, 3], s.2)) := x_reg (ops := r72_0) (by rfl) (by rfl) s
theorem r72_0_l : r72_0.toList = [o72_0_0, o72_0_1] := nrfl rfl
theorem s72_0_0 : stepA E C B 7 r72_0 o72_0_0 (φ, H) = stp (some 2) φ H (opBox (B + 2) (acells (fget φ 0))) := nrfl rfl
theorem s72_0_1 : stepA E C B 7 r72_0 o72_0_1 (φ, H) = some (fput φ 3 (.bool false), H) := nrfl rfl
noncomputable def c72_2 : Code := kR c72_0
noncomputable def c72_3 : Code := kL c72_2
noncomputable def r72_1 : Array Oper := kO c72_3
noncomputable def o72_1_0 : Oper := opN r72_1 0
noncomputable def o72_1_1 : Oper := opN r72_1 1
noncomputable def o72_1_2 : Oper := opN r72_1 2
noncomputable def o72_1_3 : Oper := opN r72_1 3
theorem x72_3 : execA E C (fg 72) B 7 E0 N c72_3 s = regX (runA E C B 7 r72_1 r72_1.toList s) (fun s => gcM E0 [1, 2, 4, 5, 6] (forget s.1 [1, 2, 4, 5, 6], s.2)) := x_reg (ops := r72_1) (by rfl) (by rfl) s
theorem r72_1_l : r72_1.toList = [o72_1_0, o72_1_1, o72_1_2, o72_1_3] := nrfl rfl
theorem s72_1_0 : stepA E C B 7 r72_1 o72_1_0 (φ, H) = stp (some 4) φ H (just (aLoad E.T 39 (fget φ 1))) := nrfl rfl
theorem s72_1_1 : stepA E C B 7 r72_1 o72_1_1 (φ, H) = stp (some 5) φ H (.pure (.clo 74 [(fget φ 2)], [])) := nrfl rfl
theorem s72_1_2 : stepA E C B 7 r72_1 o72_1_2 (φ, H) = stp (some 6) φ H (aCall C (fun j => B + j * 7 + 6) true 73 [(fget φ 4), (fget φ 5)]) := nrfl rfl
theorem s72_1_3 : stepA E C B 7 r72_1 o72_1_3 (φ, H) = some (fput φ 3 (fget φ 6), H) := nrfl rfl
noncomputable def c72_4 : Code := kR c72_2
theorem x72_4 : execA E C (fg 72) B 7 E0 N c72_4 s = some (.ret, s) := x_ret (by rfl) s
theorem x72_2 : execA E C (fg 72) B 7 E0 N c72_2 s = seqX (execA E C (fg 72) B 7 E0 N c72_3 s) (execA E C (fg 72) B 7 E0 N c72_4) := x_seq (by rfl) s
theorem x72_0 : execA E C (fg 72) B 7 E0 N c72_0 s = seqX (execA E C (fg 72) B 7 E0 N c72_1 s) (execA E C (fg 72) B 7 E0 N c72_2) := x_seq (by rfl) s
theorem fi_72 : fInfo E 72 = some ⟨7, #[.tmp 3], c72_0⟩ := nrfl rfl
theorem b_72 (args : List AV) : bodyA E C fg N 72 args H B = bodyX E [.tmp 3] (execA E C (fg 72) B 7 H N c72_0 (frame0 args 0 [], H)) := bodyA_eq fi_72 args H
abbrev F_72 := And.intro (And.intro (And.intro @x72_1 (And.intro @r72_0_l @s72_0_0)) (And.intro (And.intro @s72_0_1 @x72_3) (And.intro @r72_1_l @s72_1_0))) (And.intro (And.intro @s72_1_1 (And.intro @s72_1_2 @s72_1_3)) (And.intro (And.intro @x72_4 @x72_2) (And.intro @x72_0 @b_72)))
noncomputable def c74_0 : Code := kBody Proofs.Try.f74
noncomputable def c74_1 : Code := kL c74_0
noncomputable def r74_0 : Array Oper := kO c74_1
noncomputable def o74_0_0 : Oper := opN r74_0 0
theorem x74_1 : execA E C (fg 74) B 7 E0 N c74_1 s = regX (runA E C B 7 r74_0 r74_0.toList s) (fun s => gcM E0 [3] (forget s.1 [3], s.2)) := x_reg (ops := r74_0) (by rfl) (by rfl) s
theorem r74_0_l : r74_0.toList = [o74_0_0] := nrfl rfl
theorem s74_0_0 : stepA E C B 7 r74_0 o74_0_0 (φ, H) = some (fput φ 3 (.bool false), H) := nrfl rfl
noncomputable def c74_2 : Code := kR c74_0
noncomputable def c74_3 : Code := kL c74_2
noncomputable def r74_1 : Array Oper := kO c74_3
noncomputable def o74_1_0 : Oper := opN r74_1 0
noncomputable def o74_1_1 : Oper := opN r74_1 1
noncomputable def o74_1_2 : Oper := opN r74_1 2
noncomputable def o74_1_3 : Oper := opN r74_1 3
theorem x74_3 : execA E C (fg 74) B 7 E0 N c74_3 s = regX (runA E C B 7 r74_1 r74_1.toList s) (fun s => gcM E0 [0, 1, 4, 5, 6] (forget s.1 [0, 1, 4, 5, 6], s.2)) := x_reg (ops := r74_1) (by rfl) (by rfl) s
theorem r74_1_l : r74_1.toList = [o74_1_0, o74_1_1, o74_1_2, o74_1_3] := nrfl rfl
theorem s74_1_0 : stepA E C B 7 r74_1 o74_1_0 (φ, H) = some (fput φ 4 (fget φ 0), H) := nrfl rfl
theorem s74_1_1 : stepA E C B 7 r74_1 o74_1_1 (φ, H) = stp (some 5) φ H (just (aLoad E.T 22 (fget φ 1))) := nrfl rfl
theorem s74_1_2 : stepA E C B 7 r74_1 o74_1_2 (φ, H) = stp (some 6) φ H (aCall C (fun j => B + j * 7 + 6) true 24 [(fget φ 4), (fget φ 5)]) := nrfl rfl
theorem s74_1_3 : stepA E C B 7 r74_1 o74_1_3 (φ, H) = some (fput φ 3 (fget φ 6), H) := nrfl rfl
noncomputable def c74_4 : Code := kR c74_2
theorem x74_4 : execA E C (fg 74) B 7 E0 N c74_4 s = some (.ret, s) := x_ret (by rfl) s
theorem x74_2 : execA E C (fg 74) B 7 E0 N c74_2 s = seqX (execA E C (fg 74) B 7 E0 N c74_3 s) (execA E C (fg 74) B 7 E0 N c74_4) := x_seq (by rfl) s
theorem x74_0 : execA E C (fg 74) B 7 E0 N c74_0 s = seqX (execA E C (fg 74) B 7 E0 N c74_1 s) (execA E C (fg 74) B 7 E0 N c74_2) := x_seq (by rfl) s
theorem fi_74 : fInfo E 74 = some ⟨7, #[.tmp 3], c74_0⟩ := nrfl rfl
theorem b_74 (args : List AV) : bodyA E C fg N 74 args H B = bodyX E [.tmp 3] (execA E C (fg 74) B 7 H N c74_0 (frame0 args 0 [], H)) := bodyA_eq fi_74 args H
abbrev F_74 := And.intro (And.intro (And.intro @x74_1 (And.intro @r74_0_l @s74_0_0)) (And.intro @x74_3 (And.intro @r74_1_l @s74_1_0))) (And.intro (And.intro @s74_1_1 (And.intro @s74_1_2 @s74_1_3)) (And.intro (And.intro @x74_4 @x74_2) (And.intro @x74_0 @b_74)))
end Go.AM.Ytfmnoohhhokicaa
end

section
namespace Go.AM.Ytfmnoohhhokicaa
open Go Go.AM Go.AM.Rub
set_option maxRecDepth 100000
set_option maxHeartbeats 16000000
theorem pr3_run {d : Nat} {l m : List Int} {x y : Bool} {n : Nat} (hl : l.length ≤ 1000) (hm : m.length = n) : rsOf (bodyA E (kF (d + 1)) fg 1000000 74 [.imm (ics l) l.length x, .iptr [.imm (ics m) n y] 0] [] 0) = some (.bool (decide (l = m))) := by
  subst hm
  have hs := fun (site : Nat → Nat) seen => same_call (d := d) (site := site) (seen := seen) (iv_imm l x) (iv_imm m y) hl
  generalize kF (d + 1) = C at *
  simp (disch := omega) only [ZF, frame0, stp, just, Rd.bind, Rd.run, Rd.opt, upds, rdCells, aLoad, resA, resL, Nat.reduceBEq, Nat.reduceEqDiff, Nat.reduceLeDiff, ↓reduceIte, reduceCtorEq, aCall, snaps, ZT, F_74, hs]
theorem pr3 (d : Nat) (m : List Int) {n : Nat} {y : Bool} (hm : m.length = n) {L : List (List Int)} (hL : ∀ l ∈ L, l.length ≤ 1000) : PrC (kF (d + 2)) 74 (.imm (ics m) n y) (fun l => decide (l = m)) L :=
  ⟨⟨_, fi_74⟩, fun _ _ => rfl, fun l hl _ _ => aBack_bool (kF_ex rfl (pr3_run (hL l hl) hm))⟩
theorem has_run {d : Nat} {m : List Int} {n : Nat} {L : List (List Int)} {x y : Bool} (hm : m.length = n) (hL : ∀ l ∈ L, l.length ≤ 1000) (hl : L.length ≤ 900000) :
    rsOf (bodyA E (kF (d + 4)) fg 1000000 72 [.imm (ics m) n x, .iptr [.imm (lcs L) L.length y] 0] [] 0) = some (.bool (decide (m ∈ L))) := by
  have hc := fun (site : Nat → Nat) seen e z => con_call (d := d + 2) (site := site) (seen := seen) (a := .imm (lcs L) L.length e) (pr3 d m (y := z) hm hL) (.inr ⟨e, rfl⟩) hl (fun _ => rfl)
  simp only [any_eq] at hc
  generalize kF (d + 4) = C at *
  simp (disch := omega) only [ZF, frame0, stp, opBox, just, Rd.bind, Rd.run, Rd.opt, upds, acells, rdCells, aLoad, resA, resL, fresh, Nat.reduceBEq, Nat.reduceEqDiff, Nat.reduceLeDiff, ↓reduceIte, reduceCtorEq, aCall, snaps, ZT, F_72, hc]
theorem has_call {d : Nat} {m : List Int} {n : Nat} {L : List (List Int)} {x y : Bool} (hm : m.length = n) (hL : ∀ l ∈ L, l.length ≤ 1000) (hl : L.length ≤ 900000) {site : Nat → Nat} {seen : List Nat} :
    aBack site true seen (thaw (kF (d + 5)) 72 [.imm (ics m) n x, .iptr [.imm (lcs L) L.length y] 0] [] 0) = .pure (.bool (decide (m ∈ L)), []) :=
  aBack_bool (kF_ex rfl (has_run hm hL hl))
abbrev xdH (a m J : List Int) (R : List (List Int)) (sa : BS) : AHeap := [(17, ⟨sa, ics a⟩), (22, ⟨.row, lcs R⟩), (35, ⟨.row, ics m⟩), (41, ⟨.row, ics J⟩)]
/-- The first loop: sums of first numbers. -/
abbrev xdS (a b m J : List Int) (R : List (List Int)) (n k : Nat) : St := ([(101, .int .i64 k), (100, .int .i64 n), (10, .ref 41 0 n n n 1 false), (8, .ref 35 0 n n n 1 false), (7, .imm (ics b) n false), (6, .ptr 6 0 1), (5, .ref 17 0 n n n 1 false)],
  [(6, ⟨.box, [.ref 22 0 R.length R.length R.length 1 false]⟩), (17, ⟨.froz, ics a⟩), (22, ⟨.row, lcs R⟩), (35, ⟨.row, ics m⟩), (41, ⟨.row, ics J⟩)])
theorem xd_go {d : Nat} {a b m J : List Int} {R : List (List Int)} {n : Nat} (ha : Rw n a) (hb : Rw n b) (hm : Rw n m) (hn : n ≤ 8) (hmin : ∀ k, k ≤ n → ps (rowF m) k = min (ps (rowF a) k) (ps (rowF b) k)) (k : Nat) (hk : k < n) :
    ∃ s', execA E (kF (d + 1)) (fg 13) 0 160 [] 1000000 c13_35 (xdS a b m J R n k) = some (.normal, s') ∧ headA [] s' = xdS a b m J R n (k + 1) := by
  have la : (ics a).length = n := by rw [ics_length, ha.len]
  have lb : (ics b).length = n := by rw [ics_length, hb.len]
  have lm : (ics m).length = n := by rw [ics_length, hm.len]
  have ta := fun (site : Nat → Nat) seen x => totalk_call (d := d) (site := site) (seen := seen) (ex := x) ha hn (show k + 1 ≤ n by omega)
  have tb := fun (site : Nat → Nat) seen x => totalk_call (d := d) (site := site) (seen := seen) (ex := x) hb hn (show k + 1 ≤ n by omega)
  have tm := fun (site : Nat → Nat) seen x => totalk_call (d := d) (site := site) (seen := seen) (ex := x) hm hn (show k + 1 ≤ n by omega)
  have hq := hmin (k + 1) (by omega)
  rw [hq] at tm
  have a1 : List.take (k + 1) (ics a) = ics (a.take (k + 1)) := ics_take a _
  have b1 : List.take (k + 1) (ics b) = ics (b.take (k + 1)) := ics_take b _
  have m1 : List.take (k + 1) (ics m) = ics (m.take (k + 1)) := ics_take m _
  have g1 : (k : Int) < n := by omega
  have g2 : (0 : Int) ≤ ((k + 1 : Nat) : Int) ∧ ((k + 1 : Nat) : Int) ≤ (n : Int) := by omega
  generalize kF (d + 1) = C at *
  generalize ps (rowF a) (k + 1) = u at *
  generalize ps (rowF b) (k + 1) = v at *
  have e1 : (if v < u then v else u) = min u v := by split <;> omega
  have bb : (min u v != min u v) = false := by simp
  simp (disch := omega) only [ZF, stp, justO, just, Rd.bind, Rd.run, Rd.opt, upds, tsz, aNum, aBuiltin, aMin, aBin, aInt, Nat.reduceAdd, Nat.reduceBEq, Nat.reduceEqDiff, Nat.reduceLeDiff, ↓reduceIte, stpT, Rd.foot, writing, touching, Tr.empty, dynPairs, apartT, disj, window, aCall, snaps, aSlice, aBounds, bMax, bHigh, bLow, ZT, F_13, xdS, aMin, la, lb, lm, ta, tb, tm, a1, b1, m1, g1, g2, e1, if_pos, wrp_succ (show k < 1000000 by omega)]
  exact ⟨_, rfl, rfl⟩
/-- The second loop: all rows. -/
abbrev xdT (a b m J : List Int) (R : List (List Int)) (n i : Nat) : St := ([(124, .int .i64 i), (123, .int .i64 R.length), (122, .ref 22 0 R.length R.length R.length 1 false), (10, .ref 41 0 n n n 1 false), (8, .ref 35 0 n n n 1 false), (7, .imm (ics b) n false), (5, .ref 17 0 n n n 1 false)], xdH a m J R .froz)
theorem xe_go {C : Callee} {a b m J l : List Int} {R : List (List Int)} {n : Nat} {o1 o2 o3 o4 o5 o6 : Bool} (la : (ics a).length = n) (lm : (ics m).length = n) (lJ : (ics J).length = n) (i : Nat) (hR : R.length ≤ 900000) (hi : R[i]? = some l) (hl : l.length = n)
    (h1 : ∀ (site : Nat → Nat) seen x y, aBack site true seen (thaw C 62 [.imm (ics a) n x, .imm (ics l) n y] [] 0) = .pure (.bool o1, []))
    (h2 : ∀ (site : Nat → Nat) seen x y, aBack site true seen (thaw C 62 [.imm (ics b) n x, .imm (ics l) n y] [] 0) = .pure (.bool o2, []))
    (h3 : ∀ (site : Nat → Nat) seen x y, aBack site true seen (thaw C 62 [.imm (ics m) n x, .imm (ics l) n y] [] 0) = .pure (.bool o3, []))
    (h4 : ∀ (site : Nat → Nat) seen x y, aBack site true seen (thaw C 62 [.imm (ics l) n x, .imm (ics a) n y] [] 0) = .pure (.bool o4, []))
    (h5 : ∀ (site : Nat → Nat) seen x y, aBack site true seen (thaw C 62 [.imm (ics l) n x, .imm (ics b) n y] [] 0) = .pure (.bool o5, []))
    (h6 : ∀ (site : Nat → Nat) seen x y, aBack site true seen (thaw C 62 [.imm (ics l) n x, .imm (ics J) n y] [] 0) = .pure (.bool o6, []))
    (c1 : o1 = true → o2 = true → o3 = true) (c2 : o4 = true → o5 = true → o6 = true) :
    ∃ s', (execA E C (fg 13) 0 160 [] 1000000 c13_58) (xdT a b m J R n i) = some (.normal, s') ∧ headA [] s' = xdT a b m J R n (i + 1) := by
  have hil := (List.getElem?_eq_some_iff.1 hi).1
  have hat := lcs_at hi
  rw [hl] at hat
  have hln := lcs_length R
  have g1 : (i : Int) < R.length := by omega
  have ka : List.take n (ics a) = ics a := List.take_of_length_le (by omega)
  have km : List.take n (ics m) = ics m := List.take_of_length_le (by omega)
  have kJ : List.take n (ics J) = ics J := List.take_of_length_le (by omega)
  simp only [xdT, xdH]
  generalize ics a = A at *
  generalize ics b = B at *
  generalize ics m = M at *
  generalize ics J = JJ at *
  generalize ics l = LL at *
  generalize lcs R = RR at *
  generalize R.length = rl at *
  cases o1 <;> cases o2 <;> (try (obtain rfl := c1 rfl rfl)) <;> cases o4 <;> cases o5 <;> (try (obtain rfl := c2 rfl rfl)) <;>
    simp (disch := omega) only [ZF, ↓gd, stp, opPick, justO, just, Rd.bind, Rd.run, Rd.opt, upds, tsz, rdCells, aLoad, aIndexAddr, aNum, aBin, aInt, Nat.reduceLT, Nat.reduceBEq, Nat.reduceEqDiff, Nat.reduceLeDiff, ↓reduceIte, aUn, aCall, snaps, ZT, F_13, hat, hln, la, lm, lJ, ka, km, kJ, g1, h1, h2, h3, h4, h5, h6, wrp_succ (show i < 1000000 by omega)] <;> exact ⟨_, rfl, rfl⟩
end Go.AM.Ytfmnoohhhokicaa
end

section
namespace Go.AM.Ytfmnoohhhokicaa
open Go Go.AM Go.AM.Rub
set_option maxRecDepth 100000
set_option maxHeartbeats 16000000
theorem take_all {n : Nat} {l : List Int} (h : Rw n l) : l.take n = l := List.take_of_length_le (by rw [h.len]; exact Nat.le_refl _)
theorem totalA {d : Nat} {site : Nat → Nat} {seen : List Nat} {n : Nat} {l : List Int} (h : Rw n l) (hn : n ≤ 8) {ex : Bool} : aBack site true seen (thaw (kF (d + 1)) 58 [.imm (ics l) n ex] [] 0) = .pure (.int .i64 (ps (rowF l) n), []) := by
  have := totalk_call (d := d) (site := site) (seen := seen) h hn (Nat.le_refl n) (ex := ex)
  rw [take_all h] at this
  exact this
theorem rows_mem {n : Nat} {l : List Int} (h : Rw n l) : l ∈ rowsL n (ps (rowF l) n) 8 := by
  rw [mem_rowsL]
  exact ⟨h.len, by rw [← ps_tot, h.len], h.row⟩
theorem rows_rw {n : Nat} {s : Int} {l : List Int} (h : l ∈ rowsL n s 8) : Rw n l ∧ ps (rowF l) n = s := by
  rw [mem_rowsL] at h
  exact ⟨⟨h.1, h.2.2⟩, by rw [← h.2.1, ← ps_tot, h.1]⟩
end Go.AM.Ytfmnoohhhokicaa
end

section
namespace Go.AM.Ytfmnoohhhokicaa
open Go Go.AM Go.AM.Rub
set_option maxRecDepth 100000
set_option maxHeartbeats 16000000
theorem la_mut (caps args : List AV) : mutV E (.clo 72 caps) args = none := rfl
theorem rubLattice_law {zs zt : List Int} (hz : zs.length = 8 ∧ ∀ (i : Nat) (z : Int), zs[i]? = some z → 0 ≤ z ∧ z ≤ 255) (hzt : zt.length = 8 ∧ ∀ (i : Nat) (z : Int), zt[i]? = some z → 0 ≤ z ∧ z ≤ 255) (hw : ∃ H0, kF 40 17 [] [] 0 = some (.bool true, H0)) :
    rsOf (bodyA E (kF 40) fg 1000000 13 [.agg (zs.map (AV.int .u8)), .agg (zt.map (AV.int .u8))] [] 0) = some (.bool true) := by
  have hwk := fun (site : Nat → Nat) seen => aBack_bool (site := site) (seen := seen) hw
  have p1 := pl_of hz
  have p2 := pl_of hzt
  obtain ⟨n0, n1, n2⟩ := mdN_b (m := 5) p1 (by omega) (by omega)
  obtain ⟨ra, _⟩ := mdR_row (m := 5) (t := 6) p1 (by omega) (by omega) (by omega) (by omega)
  have hm1 := fun (site : Nat → Nat) seen => made_call (d := 33) (site := site) (seen := seen) (m := 5) (t := 6) p1 (by omega) (by omega) (by omega) (by omega)
  have lz : (u8s zs).length = 8 := by rw [u8s_len, p1.len]
  have lt : (u8s zt).length = 8 := by rw [u8s_len, p2.len]
  have tz : List.take 8 (u8s zs) = u8s zs := List.take_of_length_le (by omega)
  have sp1 := fun d => snaps_flat (u8s zs) (d + 10) (by simp [u8s]) (by rw [lz]; omega)
  have hq0 := u8s_at (l := zt) (k := 0) (by rw [p2.len]; omega)
  have bq0 := p2.b 0 (by omega)
  have ez : zs.map (AV.int .u8) = u8s zs := rfl
  have et : zt.map (AV.int .u8) = u8s zt := rfl
  rw [ez, et]
  clear n2 hz hzt ez et
  generalize mdR zs 5 6 = a at *
  generalize mdN zs 5 = n at *
  generalize rowF zt 0 = mq at *
  have hn5 : n ≤ 5 := by omega
  have w4 : wrp .i64 mq = mq := wrp64 (by omega)
  have la : (ics a).length = n := by rw [ics_length, ra.len]
  have a1 : List.take n (ics a) = ics a := List.take_of_length_le (by omega)
  have ia : ∀ x, IV a (.imm (ics a) n x) := fun x => .inr ⟨x, by rw [ra.len]⟩
  have ta := fun (site : Nat → Nat) seen ex => totalA (d := 39) (site := site) (seen := seen) (ex := ex) ra (by omega)
  have sb := ps_b ra n (Nat.le_refl n)
  have hro := fun (site : Nat → Nat) seen => rows_call (d := 38 - n) (n := n) (site := site) (seen := seen) n0 (by omega) (left := ps (rowF a) n) (by omega)
  rw [show 38 - n + n + 2 = 40 by omega] at hro
  have hmem := rows_mem ra
  have hne : ¬ rowsL n (ps (rowF a) n) 8 = [] := fun e => by rw [e] at hmem; simp at hmem
  simp only [if_neg hne] at hro
  have hlp : 0 < (rowsL n (ps (rowF a) n) 8).length := List.length_pos_of_mem hmem
  have hlb : (rowsL n (ps (rowF a) n) 8).length ≤ 800000 := by
    have := rowsL_len n (ps (rowF a) n) 8 (by omega)
    have := Nat.pow_le_pow_right (n := 9) (show 0 < 9 by omega) (show n ≤ 6 by omega)
    omega
  have hiff : ∀ c, c ∈ rowsL n (ps (rowF a) n) 8 ↔ Rw n c ∧ ps (rowF c) n = ps (rowF a) n := fun c =>
    ⟨fun hc => rows_rw hc, fun hc => by rw [← hc.2]; exact rows_mem hc.1⟩
  clear hmem hne
  generalize hS : ps (rowF a) n = S at *
  generalize rowsL n S 8 = R at *
  obtain ⟨j, hj, hjl⟩ : ∃ j : Nat, mq.tmod (R.length : Int) = j ∧ j < R.length := by
    have := tmod_b (a := mq) (b := (R.length : Int)) bq0.1 (by omega)
    exact ⟨(mq.tmod (R.length : Int)).toNat, by omega, by omega⟩
  have hcj : R[j]? = some R[j] := List.getElem?_eq_getElem hjl
  obtain ⟨rb, ec⟩ := (hiff _).1 (List.mem_of_getElem? hcj)
  have hat := lcs_at hcj
  rw [rb.len] at hat
  generalize hcc : R[j]'hjl = b at *
  clear hcc
  have hll := lcs_length R
  have hto := lcs_takeA R
  have z2 : ¬ (R.length : Int) = 0 := by omega
  have gj : (j : Int) < (R.length : Int) := by omega
  have ib : ∀ x, IV b (.imm (ics b) n x) := fun x => .inr ⟨x, by rw [rb.len]⟩
  have hp : pairE a b = 0 := pairE_zero.2 ⟨n, n0, by omega, ra, rb, by rw [hS, ec]⟩
  have hME := fun x y => (Meet_rl (d := 37) (ia x) (ib y) (by rw [ra.len]; omega) (by rw [rb.len]; omega)).elim (fun h => absurd hp h.1) (·.2)
  have hJO := fun x y => (Join_rl (d := 37) (ia x) (ib y) (by rw [ra.len]; omega) (by rw [rb.len]; omega)).elim (fun h => absurd hp h.1) (·.2)
  have tot : ∀ c, Rw n c → totL c = ps (rowF c) n := fun c hc => by rw [← ps_tot, hc.len]
  have rm := low_row ra rb
  obtain ⟨ma1, ma2⟩ := low_maj ra rb (by rw [hS, ec])
  have mg := fun l => low_great (l := l) ra rb
  obtain ⟨rj, j1, j2, j3⟩ := join_spec (by omega) ra rb (by rw [tot a ra, tot b rb, hS, ec])
  have hmin : ∀ k, k ≤ n → ps (rowF (lowL a b)) k = min (ps (rowF a) k) (ps (rowF b) k) := fun k hk => ps_lowL (by rw [ra.len]; exact hk)
  have sm : ps (rowF (lowL a b)) n = S := by rw [hmin n (Nat.le_refl _), hS, ec]; omega
  have sj : ps (rowF (joinL a b)) n = S := by
    have := majL_tot (by rw [rj.len, ra.len]) j1
    rw [tot _ rj, tot a ra, hS] at this; exact this
  have hmR := (hiff _).2 ⟨rm, sm⟩
  have hjR := (hiff _).2 ⟨rj, sj⟩
  have eml : (lowL a b).length = n := rm.len
  have ejl : (joinL a b).length = n := rj.len
  have ejl' : a.length = n := ra.len
  rw [eml] at hME
  rw [ejl] at hJO
  generalize lowL a b = m at *
  generalize joinL a b = J at *
  have hlen : ∀ l ∈ R, l.length ≤ 1000 := fun l hl => by rw [((hiff l).1 hl).1.len]; omega
  have hh1 := fun (site : Nat → Nat) seen x y => has_call (d := 35) (site := site) (seen := seen) (x := x) (y := y) (L := R) eml hlen (by omega)
  have hh2 := fun (site : Nat → Nat) seen x y => has_call (d := 35) (site := site) (seen := seen) (x := x) (y := y) (L := R) ejl hlen (by omega)
  rw [decide_eq_true hmR] at hh1
  rw [decide_eq_true hjR] at hh2
  have hov : ∀ u v : List Int, Rw n u → Rw n v → MajL u v → ps (rowF u) n = ps (rowF v) n → ∀ (site : Nat → Nat) seen x y, aBack site true seen (thaw (kF 40) 62 [.imm (ics u) n x, .imm (ics v) n y] [] 0) = .pure (.bool true, []) := by
    intro u v ru rv hm he site seen x y
    have := vover_call (d := 38) (site := site) (seen := seen) (x := x) (y := y) ru rv (by omega)
    rw [decide_eq_true ((mj_maj ru rv he).2 hm)] at this
    exact this
  have o1 := hov a m ra rm ma1 (by rw [hS, sm])
  have o2 := hov b m rb rm ma2 (by rw [ec, sm])
  have o3 := hov J a rj ra j1 (by rw [sj, hS])
  have o4 := hov J b rj rb j2 (by rw [sj, ec])
  have lm : (ics m).length = n := by rw [ics_length, eml]
  have lJ : (ics J).length = n := by rw [ics_length, ejl]
  have m1 : List.take n (ics m) = ics m := List.take_of_length_le (by omega)
  have J1 : List.take n (ics J) = ics J := List.take_of_length_le (by omega)
  have hloop1 := loopMS (f := execA E (kF 40) (fg 13) 0 160 [] 1000000 c13_35) (E0 := []) (s0 := ([(101, .int .i64 0), (100, .int .i64 n), (10, .ref 41 0 n n n 1 false), (8, .ref 35 0 n n n 1 false), (7, .imm (ics b) n false), (6, .ptr 6 0 1), (5, .ref 17 0 n n n 1 false)],
      [(2, ⟨.box, u8s zs⟩), (3, ⟨.box, u8s zt⟩), (6, ⟨.box, [.ref 22 0 R.length R.length R.length 1 false]⟩), (17, ⟨.froz, ics a⟩), (22, ⟨.row, lcs R⟩), (35, ⟨.row, ics m⟩), (41, ⟨.row, ics J⟩)])) (xdS a b m J R n) n (fun k hk => xd_go (d := 39) ra rb rm (by omega) hmin k hk) rfl (by omega)
    (e := .exit 0) (se := ([(102, .bool false), (101, .int .i64 n), (100, .int .i64 n), (10, .ref 41 0 n n n 1 false), (8, .ref 35 0 n n n 1 false), (7, .imm (ics b) n false), (6, .ptr 6 0 1), (5, .ref 17 0 n n n 1 false)],
      [(6, ⟨.box, [.ref 22 0 R.length R.length R.length 1 false]⟩), (17, ⟨.froz, ics a⟩), (22, ⟨.row, lcs R⟩), (35, ⟨.row, ics m⟩), (41, ⟨.row, ics J⟩)]))
    (by
      generalize kF 40 = C at *
      simp only [xdS]
      simp (disch := omega) only [ZF, stp, just, Rd.bind, Rd.run, Rd.opt, upds, aBin, aInt, Nat.reduceEqDiff, Nat.reduceLeDiff, ↓reduceIte, F_13]) (by simp)
  have hvv : ∀ u v : List Int, Rw n u → Rw n v → ps (rowF u) n = ps (rowF v) n → ∃ o : Bool, (o = true ↔ MajL u v) ∧ ∀ (site : Nat → Nat) seen x y, aBack site true seen (thaw (kF 40) 62 [.imm (ics u) n x, .imm (ics v) n y] [] 0) = .pure (.bool o, []) := by
    intro u v ru rv he
    refine ⟨decide (fe (mjE u v) 0 n = 0), ?_, fun site seen x y => vover_call (d := 38) ru rv (by omega)⟩
    rw [decide_eq_true_eq]
    exact mj_maj ru rv he
  have hloop2 := loopMS (f := execA E (kF 40) (fg 13) 0 160 [] 1000000 c13_58) (E0 := []) (s0 := ([(124, .int .i64 0), (123, .int .i64 R.length), (122, .ref 22 0 R.length R.length R.length 1 false), (10, .ref 41 0 n n n 1 false), (8, .ref 35 0 n n n 1 false), (7, .imm (ics b) n false), (5, .ref 17 0 n n n 1 false)],
      [(6, ⟨.box, [.ref 22 0 R.length R.length R.length 1 false]⟩), (17, ⟨.froz, ics a⟩), (22, ⟨.row, lcs R⟩), (35, ⟨.row, ics m⟩), (41, ⟨.row, ics J⟩)])) (xdT a b m J R n) R.length (fun i hi => by
      have hri : R[i]? = some R[i] := List.getElem?_eq_getElem hi
      obtain ⟨rl, el⟩ := (hiff _).1 (List.mem_of_getElem? hri)
      obtain ⟨b1, q1, h1⟩ := hvv a R[i] ra rl (by rw [hS, el])
      obtain ⟨b2, q2, h2⟩ := hvv b R[i] rb rl (by rw [ec, el])
      obtain ⟨b3, q3, h3⟩ := hvv m R[i] rm rl (by rw [sm, el])
      obtain ⟨b4, q4, h4⟩ := hvv R[i] a rl ra (by rw [hS, el])
      obtain ⟨b5, q5, h5⟩ := hvv R[i] b rl rb (by rw [ec, el])
      obtain ⟨b6, q6, h6⟩ := hvv R[i] J rl rj (by rw [sj, el])
      exact xe_go la lm lJ i (by omega) hri rl.len h1 h2 h3 h4 h5 h6 (fun e1 e2 => q3.2 (mg _ (q1.1 e1) (q2.1 e2))) (fun e4 e5 => q6.2 (j3 _ rl (q4.1 e4) (q5.1 e5)))) rfl (by omega)
    (e := .exit 2) (se := ([(125, .bool false), (124, .int .i64 R.length), (123, .int .i64 R.length), (122, .ref 22 0 R.length R.length R.length 1 false), (10, .ref 41 0 n n n 1 false), (8, .ref 35 0 n n n 1 false), (7, .imm (ics b) n false), (5, .ref 17 0 n n n 1 false)], xdH a m J R .froz))
    (by
      generalize kF 40 = C at *
      simp only [xdT, xdH]
      simp (disch := omega) only [ZF, stp, just, Rd.bind, Rd.run, Rd.opt, upds, aBin, aInt, Nat.reduceEqDiff, Nat.reduceLeDiff, ↓reduceIte, F_13]) (by simp)
  simp only [xdH] at hloop2
  clear hov hvv hiff hlen mg j3 hmin
  generalize kF 40 = C at *
  generalize lcs R = RL at *
  generalize R.length = rl at *
  generalize u8s zs = Z at *
  generalize u8s zt = Y at *
  generalize ics a = A at *
  generalize ics b = B at *
  generalize ics m = M at *
  generalize ics J = JJ at *
  simp (disch := omega) only [ZF, ↓gd, frame0, stp, opPick, opBox, justO, just, Rd.bind, Rd.run, Rd.opt, upds, acells, zeroCells, tsz, rdCells, fieldOf, aFieldAddr, aLoad, aStore, opStore, opExtract, resA, resL, fresh, aIndexAddr, aNum, aLen, aBuiltin, aBin, aInt, putC, Nat.reduceAdd, Nat.reduceMul, Nat.reduceLT, Nat.reduceBEq, Nat.reduceEqDiff, Nat.reduceLeDiff, ↓reduceIte, reduceCtorEq, stpT, Rd.foot, writing, touching, Tr.empty, dynPairs, apartT, disj, aUn, aCall, snaps, aConv, opCallV, ZT, F_13, callV_eq (la_mut _ _), fi_72, lz, lt, tz, sp1, hm1, hq0, w4, hj, la, a1, ta, hro, hat, hll, hto, hME, hJO, lm, lJ, m1, J1, hh1, hh2, o1, o2, o3, o4, hloop1, hloop2, hwk, gj, z2]
end Go.AM.Ytfmnoohhhokicaa
end

section
namespace Go.AM.Ytfmnoohhhokicaa
open Go Go.AM
set_option maxRecDepth 1000000
theorem works_runF : isTrue (kF 40 17 [] [] 0) = true := by kernel_rfl
theorem soundK (d : Nat) : CS Proofs.Try.prog E (kF d) := frC_ok (callF_sound envOk mixed fr fg 1000000 d)
theorem soundB : CS Proofs.Try.prog E (bodyA E (kF 40) fg 1000000) := body_ok envOk mixed fg 1000000 (soundK 40)
end Go.AM.Ytfmnoohhhokicaa
end

section
namespace Go.AM.Ytfmnoohhhokicaa
open Go Go.AM Go.RowKit Go.Proofs Go.Proofs.Ytfmnoohhhokicaa Go.ChangeShapes Go.WideShapes Go.ChangeAt Go.AM.Rub
set_option maxRecDepth 1000000
theorem laidOut : laidOutB Try.prog = true := by kernel_rfl
theorem readable_0 : Try.prog.readableRec 49 = true := by kernel_rfl
theorem types_lt_0 : 49 < Try.prog.types.size := of_decide_eq_true (by kernel_rfl)
theorem cellsOf_0 : Try.prog.cellsOf 49 = 8 := by kernel_rfl
theorem cellTypes_0 : Try.prog.cellTypes Try.prog.depth 49 = some (List.replicate 8 5) := by kernel_rfl
theorem rubLattice_walk {W : World} {zs0 : List Int} {v0 : Value} {zs1 : List Int} {v1 : Value} (h0 : zs0.length = 8 ∧ ∀ (i : Nat) (z : Int), zs0[i]? = some z → 0 ≤ z ∧ z ≤ 255) (r0 : (start (fun k => k < W.heap.size) W).R (.agg (zs0.map (AV.int .u8))) v0) (h1 : zs1.length = 8 ∧ ∀ (i : Nat) (z : Int), zs1[i]? = some z → 0 ≤ z ∧ z ≤ 255) (r1 : (start (fun k => k < W.heap.size) W).R (.agg (zs1.map (AV.int .u8))) v1) :
    Calls Try.prog 13 #[v0, v1] W fun e w' => e = .returned (.bool true) ∧ Below W.heap.size W w' := by
  obtain ⟨H0, hw⟩ := isTrue_ok works_runF
  obtain ⟨H1, hr⟩ := rs_ex (rubLattice_law h0 h1 ⟨H0, hw⟩)
  refine law_run soundB hr (fun k h => h) (vs := [v0, v1]) ?_
  simp only [Gh.Rs, VRs]
  exact ⟨v0, _, rfl, r0, v1, _, rfl, r1, rfl⟩
theorem rubLattice_lifted (os : Os) (started : os.Started) (H : Type) (enc : TypeId × Value → H) :
    ReturnsInHanded {} Try.checked os 13 .any (Rows.rubLatticeSpec.pre6 enc Try.prog Try.f13 Rows.rubLatticeRow.domain false)
      (Rows.rubLatticeSpec.post enc Try.prog Try.f13 false true false false) := by
  refine returnsInHanded_of_change own started (by kernel_rfl) Try.func13 (ChangeSpec.witness6 (enc := enc) (C := Try.checked) false ⟨#[], #[.agg (Array.replicate 8 (.int .u8 0)), .agg (Array.replicate 8 (.int .u8 0))], []⟩ 8 (by kernel_rfl) (by kernel_rfl) (by kernel_rfl) (by kernel_rfl)) ?_
  intro W base args ds gs before hval0 hW _ _
  have hW' := hW
  obtain ⟨p, q, hA0, hV, rfl, hfz, hnd⟩ := hW
  have hA : DataW.TrodAll enc Try.prog W 0 (fun _ => true) true Try.f13.params.toList args.toList ds p := hA0
  rw [Try.params13] at hA
  obtain ⟨w0, vs0, d0, ds0, p0, q0, ha, rfl, rfl, t0, hr0⟩ := trodAll_cons hA
  obtain ⟨w1, vs1, d1, ds1, p1, q1, rfl, rfl, rfl, t1, hr1⟩ := trodAll_cons hr0
  obtain ⟨rfl, rfl, rfl⟩ := trodAll_nil hr1
  obtain rfl : args = #[w0, w1] := by cases args; simp_all
  obtain ⟨rfl, rfl⟩ := trodVars_none hV
  have hval : ∀ (j : Nat) t v, (#[49, 49] : Array TypeId)[j]? = some t → (#[w0, w1] : Array Value)[j]? = some v → Value.okWide Try.prog W .any base t v := by
    intro j t v; have := hval0 j t v; rw [Try.params13] at this; exact this
  obtain ⟨zs0, cs0, rfl, e0, l0, b0⟩ := hand_struct Try.underlying49 Try.underlying5 cellTypes_0 cellsOf_0 (by omega) (hval 0 49 w0 rfl rfl)
  have h0 : zs0.length = 8 ∧ ∀ (i : Nat) (z : Int), zs0[i]? = some z → 0 ≤ z ∧ z ≤ 255 := ⟨l0, b0⟩
  have r0 : (start (fun k => k < W.heap.size) W).R (.agg (zs0.map (AV.int .u8))) (.agg cs0) := vr_u8 _ e0
  obtain ⟨zs1, cs1, rfl, e1, l1, b1⟩ := hand_struct Try.underlying49 Try.underlying5 cellTypes_0 cellsOf_0 (by omega) (hval 1 49 w1 rfl rfl)
  have h1 : zs1.length = 8 ∧ ∀ (i : Nat) (z : Int), zs1[i]? = some z → 0 ≤ z ∧ z ≤ 255 := ⟨l1, b1⟩
  have r1 : (start (fun k => k < W.heap.size) W).R (.agg (zs1.map (AV.int .u8))) (.agg cs1) := vr_u8 _ e1
  refine (rubLattice_walk h0 r0 h1 r1).mono fun e W' ⟨he, bel⟩ => ?_
  subst he
  exact ⟨_, rfl, _, _, _, [], _, [], hW', trodAll_mk1 (shut_bool Try.underlying4 _),
    trodAll_mk2 (bel.trod' laidOut readable_0 types_lt_0 t0) (bel.trod' laidOut readable_0 types_lt_0 t1), rfl, bel.frame _, fun h => by cases h⟩
theorem rubLattice_holds : Rows.RubLatticeSaid :=
  OpenClaim.holds_of_wide 13 Try.f13 rfl rfl rfl rfl rfl rfl rfl ⟨rfl, rfl, rfl, rfl, rfl⟩ rfl rfl rfl rfl rfl (by kernel_rfl) Try.func13 (by kernel_rfl)
    (of_decide_eq_true (by kernel_rfl)) (by unfold Func.isWrapper; first | (rw [if_pos (by decide +kernel)]; kernel_rfl) | (rw [if_neg (by decide +kernel)]; exact ⟨rfl, rfl⟩))
    (fun os started H enc _ => rubLattice_lifted os started H enc)
end Go.AM.Ytfmnoohhhokicaa
namespace Go.Proofs.Ytfmnoohhhokicaa
/-- RubLattice: the law answers true for every input, and the input reads as it did. No condition. -/
theorem rubLattice_holds : Rows.RubLatticeSaid := Go.AM.Ytfmnoohhhokicaa.rubLattice_holds
end Go.Proofs.Ytfmnoohhhokicaa
end
#print axioms Go.Proofs.Ytfmnoohhhokicaa.rubLattice_holds
